/- Part of the proof: W19. -/
import Derived.Test.YtjdjialgjmphjaaGreatW18
set_option linter.all false
set_option maxRecDepth 100000
set_option maxHeartbeats 8000000
namespace Go.Proofs
open Go Go.Sep
attribute [local irreducible] WS WL WH WHT OpV OpR

def Sqe.parse (l : List UInt8) : Sqe := ⟨((l.getD 0 0).toNat : Int), ((l.getD 1 0).toNat : Int), u32At l 4, u32At l 8, u32At l 12, u32At l 16, u32At l 20, u32At l 24⟩
def Sqe.zero : Sqe := ⟨0, 0, 0, 0, 0, 0, 0, 0⟩
/-- is it an entry? -/
def isEntry (l : List UInt8) : Bool := (Sqe.parse l).ok && decide ((Sqe.parse l).bytes = l)

theorem u32_SL (s : SL encY 1) (at_ : Nat) (h : at_ + 4 ≤ s.xs.length) (hb : s.xs.length ≤ 1000000) :
    Spec Tryz.prog 215 [s.val, I at_] [s.ch 5] (fun v A => v = U (u32At s.xs at_) ∧ A = [s.ch 5]) := by
  obtain ⟨xs, sb, cap, junk, hnil, hfit⟩ := s
  cases sb with
  | none => have := hnil rfl; subst this; simp at h
  | some sb => exact word_U32 sb 0 cap 5 (flat encY xs ++ junk) xs at_ h hb (Bytes.row xs junk)

theorem entry_Read (s : SL encY 1) (hl : s.xs.length = 32) :
    Spec Tryz.prog 212 [s.val] [s.ch 5] (fun v A => v = .tuple #[.agg (encS (if isEntry s.xs then Sqe.parse s.xs else Sqe.zero)).toArray, B (isEntry s.xs)] ∧ A = [s.ch 5]) := by
  have g0 : s.xs[0]? = some (s.xs.getD 0 0) := by simp [hl]
  have g1 : s.xs[1]? = some (s.xs.getD 1 0) := by simp [hl]
  have e0 : ∀ y : UInt8, IntKind.i64.wrap (y.toNat : Int) = y.toNat := fun y => fits_i64 (by have := y.toNat_lt; omega) (by have := y.toNat_lt; omega)
  have hU := fun at_ (h : at_ + 4 ≤ 32) => u32_SL s at_ (by omega) (by omega)
  refine Spec.of Tryz.func212 rfl Tryz.call212 rfl (fun R => ?_)
  refine WS.seq ?_
  refine WS.region ?_
  refine WL.alloc rfl ?_; intro r_
  refine WL.v (V.assign rfl) rfl ?_
  refine WL.done ?_
  refine WS.seq ?_
  refine WS.seq ?_
  refine WS.region ?_
  refine WL.v (V.move rfl) rfl ?_
  refine WL.v (V.lenSL rfl) rfl ?_
  refine WL.v (V.nei rfl rfl) rfl ?_
  refine WL.done ?_
  (refine WS.condN rfl ?_ ?_) <;> intro h_ <;> try (exfalso; omega)
  refine WS.skip ?_
  refine WS.seq ?_
  refine WS.regionM (X := Nat) (fun r => [(4, ptr r 0), (2, ptr r_ 0), (0, s.val)]) (fun r => [blk r 25 (encS (Sqe.parse s.xs)), blk r_ 25 (encS Sqe.zero), s.ch 5]) [s.ch 5] Tryz.mixed rfl ?_ ?_
  · refine WH.pick rfl ?_
    refine WHT.v (V.move rfl) rfl rfl rfl rfl ?_
    refine WH.pick rfl ?_
    refine WHT.v (V.indexSL rfl rfl (by constructor <;> omega)) rfl rfl rfl rfl ?_
    refine WH.pick rfl ?_
    refine WHT.rh (V.loadSL1 (enc := encY) 0 (i := 0) rfl rfl g0 rfl) rfl (by simp) rfl rfl rfl rfl ?_
    refine WH.pick rfl ?_
    refine WHT.v (V.conv rfl) rfl rfl rfl rfl ?_
    refine WH.pick rfl ?_
    refine WHT.v (V.move rfl) rfl rfl rfl rfl ?_
    refine WH.pick rfl ?_
    refine WHT.v (V.indexSL rfl rfl (by constructor <;> omega)) rfl rfl rfl rfl ?_
    refine WH.pick rfl ?_
    refine WHT.rh (V.loadSL1 (enc := encY) 0 (i := 1) rfl rfl g1 rfl) rfl (by simp) rfl rfl rfl rfl ?_
    refine WH.pick rfl ?_
    refine WHT.v (V.conv rfl) rfl rfl rfl rfl ?_
    refine WH.pick rfl ?_
    refine WHT.v (V.move rfl) rfl rfl rfl rfl ?_
    refine WH.pick rfl ?_
    refine WHT.v (V.move rfl) rfl rfl rfl rfl ?_
    refine WH.pick rfl ?_
    refine WHT.v (V.move rfl) rfl rfl rfl rfl ?_
    refine WH.pick rfl ?_
    refine WHT.v (V.move rfl) rfl rfl rfl rfl ?_
    refine WH.pick rfl ?_
    refine WHT.v (V.move rfl) rfl rfl rfl rfl ?_
    refine WH.pick rfl ?_
    refine WHT.v (V.move rfl) rfl rfl rfl rfl ?_
    (refine WH.two rfl rfl rfl rfl rfl ?_ ?_) <;> intro _ _
    rotate_left
    refine WL.alloc rfl ?_; intro r_
    refine WL.nextH (ok := by assumption) (hns := by assumption) (by simp) ?_
    refine WH.big rfl rfl rfl ?_; intro _ _
    rotate_left
    all_goals first
      | (refine WL.callB (hU 4 (by omega)) [1] rfl rfl rfl ?_; rintro _ _ ⟨rfl, rfl⟩)
      | (refine WL.callB (hU 4 (by omega)) [2] rfl rfl rfl ?_; rintro _ _ ⟨rfl, rfl⟩)
    refine WL.nextH (ok := by assumption) (hns := by assumption) (by simp) ?_
    (refine WH.two rfl rfl rfl rfl rfl ?_ ?_) <;> intro _ _
    rotate_left
    refine WL.alloc rfl ?_; intro r_
    refine WL.nextH (ok := by assumption) (hns := by assumption) (by simp) ?_
    refine WH.big rfl rfl rfl ?_; intro _ _
    rotate_left
    refine WL.nextH (ok := by assumption) (hns := by assumption) (by simp) ?_
    refine WH.big rfl rfl rfl ?_; intro _ _
    rotate_left
    all_goals first
      | (refine WL.callB (hU 8 (by omega)) [1] rfl rfl rfl ?_; rintro _ _ ⟨rfl, rfl⟩)
      | (refine WL.callB (hU 8 (by omega)) [2] rfl rfl rfl ?_; rintro _ _ ⟨rfl, rfl⟩)
    refine WL.nextH (ok := by assumption) (hns := by assumption) (by simp) ?_
    (refine WH.two rfl rfl rfl rfl rfl ?_ ?_) <;> intro _ _
    rotate_left
    refine WL.alloc rfl ?_; intro r_
    refine WL.nextH (ok := by assumption) (hns := by assumption) (by simp) ?_
    refine WH.big rfl rfl rfl ?_; intro _ _
    rotate_left
    refine WL.nextH (ok := by assumption) (hns := by assumption) (by simp) ?_
    refine WH.big rfl rfl rfl ?_; intro _ _
    rotate_left
    refine WL.nextH (ok := by assumption) (hns := by assumption) (by simp) ?_
    refine WH.big rfl rfl rfl ?_; intro _ _
    rotate_left
    all_goals first
      | (refine WL.callB (hU 12 (by omega)) [1] rfl rfl rfl ?_; rintro _ _ ⟨rfl, rfl⟩)
      | (refine WL.callB (hU 12 (by omega)) [2] rfl rfl rfl ?_; rintro _ _ ⟨rfl, rfl⟩)
    refine WL.nextH (ok := by assumption) (hns := by assumption) (by simp) ?_
    (refine WH.two rfl rfl rfl rfl rfl ?_ ?_) <;> intro _ _
    rotate_left
    refine WL.alloc rfl ?_; intro r_
    refine WL.nextH (ok := by assumption) (hns := by assumption) (by simp) ?_
    refine WH.big rfl rfl rfl ?_; intro _ _
    rotate_left
    refine WL.nextH (ok := by assumption) (hns := by assumption) (by simp) ?_
    refine WH.big rfl rfl rfl ?_; intro _ _
    rotate_left
    refine WL.nextH (ok := by assumption) (hns := by assumption) (by simp) ?_
    refine WH.big rfl rfl rfl ?_; intro _ _
    rotate_left
    refine WL.nextH (ok := by assumption) (hns := by assumption) (by simp) ?_
    refine WH.big rfl rfl rfl ?_; intro _ _
    rotate_left
    all_goals first
      | (refine WL.callB (hU 16 (by omega)) [1] rfl rfl rfl ?_; rintro _ _ ⟨rfl, rfl⟩)
      | (refine WL.callB (hU 16 (by omega)) [2] rfl rfl rfl ?_; rintro _ _ ⟨rfl, rfl⟩)
    refine WL.nextH (ok := by assumption) (hns := by assumption) (by simp) ?_
    (refine WH.two rfl rfl rfl rfl rfl ?_ ?_) <;> intro _ _
    rotate_left
    refine WL.alloc rfl ?_; intro r_
    refine WL.nextH (ok := by assumption) (hns := by assumption) (by simp) ?_
    refine WH.big rfl rfl rfl ?_; intro _ _
    rotate_left
    refine WL.nextH (ok := by assumption) (hns := by assumption) (by simp) ?_
    refine WH.big rfl rfl rfl ?_; intro _ _
    rotate_left
    refine WL.nextH (ok := by assumption) (hns := by assumption) (by simp) ?_
    refine WH.big rfl rfl rfl ?_; intro _ _
    rotate_left
    refine WL.nextH (ok := by assumption) (hns := by assumption) (by simp) ?_
    refine WH.big rfl rfl rfl ?_; intro _ _
    rotate_left
    refine WL.nextH (ok := by assumption) (hns := by assumption) (by simp) ?_
    refine WH.big rfl rfl rfl ?_; intro _ _
    rotate_left
    all_goals first
      | (refine WL.callB (hU 20 (by omega)) [1] rfl rfl rfl ?_; rintro _ _ ⟨rfl, rfl⟩)
      | (refine WL.callB (hU 20 (by omega)) [2] rfl rfl rfl ?_; rintro _ _ ⟨rfl, rfl⟩)
    refine WL.nextH (ok := by assumption) (hns := by assumption) (by simp) ?_
    (refine WH.two rfl rfl rfl rfl rfl ?_ ?_) <;> intro _ _
    rotate_left
    refine WL.alloc rfl ?_; intro r_
    refine WL.nextH (ok := by assumption) (hns := by assumption) (by simp) ?_
    refine WH.big rfl rfl rfl ?_; intro _ _
    rotate_left
    refine WL.nextH (ok := by assumption) (hns := by assumption) (by simp) ?_
    refine WH.big rfl rfl rfl ?_; intro _ _
    rotate_left
    refine WL.nextH (ok := by assumption) (hns := by assumption) (by simp) ?_
    refine WH.big rfl rfl rfl ?_; intro _ _
    rotate_left
    refine WL.nextH (ok := by assumption) (hns := by assumption) (by simp) ?_
    refine WH.big rfl rfl rfl ?_; intro _ _
    rotate_left
    refine WL.nextH (ok := by assumption) (hns := by assumption) (by simp) ?_
    refine WH.big rfl rfl rfl ?_; intro _ _
    rotate_left
    refine WL.nextH (ok := by assumption) (hns := by assumption) (by simp) ?_
    refine WH.big rfl rfl rfl ?_; intro _ _
    rotate_left
    all_goals first
      | (refine WL.callB (hU 24 (by omega)) [1] rfl rfl rfl ?_; rintro _ _ ⟨rfl, rfl⟩)
      | (refine WL.callB (hU 24 (by omega)) [2] rfl rfl rfl ?_; rintro _ _ ⟨rfl, rfl⟩)
    refine WL.nextH (ok := by assumption) (hns := by assumption) (by simp) ?_
    refine WH.pick rfl ?_
    refine WHT.v (V.build rfl rfl rfl) rfl rfl rfl rfl ?_
    refine WH.big rfl rfl rfl ?_; intro _ _
    refine WL.alloc rfl ?_; intro r_
    refine WL.nextH (ok := by assumption) (hns := by assumption) (by simp) ?_
    refine WH.bigSt rfl rfl rfl ?_; intro _ _
    refine WL.store 0 rfl rfl rfl rfl rfl rfl ?_
    refine WL.nextH (ok := by assumption) (hns := by assumption) (by simp) ?_
    rotate_left
    refine WL.nextH (ok := by assumption) (hns := by assumption) (by simp) ?_
    refine WH.pick rfl ?_
    refine WHT.v (V.build rfl rfl rfl) rfl rfl rfl rfl ?_
    refine WH.bigSt rfl rfl rfl ?_; intro _ _
    refine WL.store 0 rfl rfl rfl rfl rfl rfl ?_
    refine WL.nextH (ok := by assumption) (hns := by assumption) (by simp) ?_
    rotate_left
    refine WL.nextH (ok := by assumption) (hns := by assumption) (by simp) ?_
    refine WH.pick rfl ?_
    refine WHT.v (V.build rfl rfl rfl) rfl rfl rfl rfl ?_
    refine WH.bigSt rfl rfl rfl ?_; intro _ _
    refine WL.store 0 rfl rfl rfl rfl rfl rfl ?_
    refine WL.nextH (ok := by assumption) (hns := by assumption) (by simp) ?_
    rotate_left
    refine WL.nextH (ok := by assumption) (hns := by assumption) (by simp) ?_
    refine WH.pick rfl ?_
    refine WHT.v (V.build rfl rfl rfl) rfl rfl rfl rfl ?_
    refine WH.bigSt rfl rfl rfl ?_; intro _ _
    refine WL.store 0 rfl rfl rfl rfl rfl rfl ?_
    refine WL.nextH (ok := by assumption) (hns := by assumption) (by simp) ?_
    rotate_left
    refine WL.nextH (ok := by assumption) (hns := by assumption) (by simp) ?_
    refine WH.pick rfl ?_
    refine WHT.v (V.build rfl rfl rfl) rfl rfl rfl rfl ?_
    refine WH.bigSt rfl rfl rfl ?_; intro _ _
    refine WL.store 0 rfl rfl rfl rfl rfl rfl ?_
    refine WL.nextH (ok := by assumption) (hns := by assumption) (by simp) ?_
    rotate_left
    refine WL.nextH (ok := by assumption) (hns := by assumption) (by simp) ?_
    refine WH.pick rfl ?_
    refine WHT.v (V.build rfl rfl rfl) rfl rfl rfl rfl ?_
    refine WH.bigSt rfl rfl rfl ?_; intro _ _
    refine WL.store 0 rfl rfl rfl rfl rfl rfl ?_
    refine WL.nextH (ok := by assumption) (hns := by assumption) (by simp) ?_
    rotate_left
    refine WL.nextH (ok := by assumption) (hns := by assumption) (by simp) ?_
    refine WH.pick rfl ?_
    refine WHT.v (V.build rfl rfl rfl) rfl rfl rfl rfl ?_
    refine WH.bigSt rfl rfl rfl ?_; intro _ _
    refine WL.store 0 rfl rfl rfl rfl rfl rfl ?_
    refine WL.nextH (ok := by assumption) (hns := by assumption) (by simp) ?_
    rotate_left
    all_goals rw [e0, e0]
    all_goals exact WH.doneM r_ (subEnv_restr [4, 2, 0] rfl rfl) [0, 0, 0] rfl
  · intro r
    cases hok : (Sqe.parse s.xs).ok
    · have hno : isEntry s.xs = false := by simp [isEntry, hok]
      rw [hno]
      refine WS.seq ?_
      refine WS.seq ?_
      refine WS.region ?_
      refine WL.r (V.loadN 0 rfl rfl rfl) rfl ?_
      refine WL.call (entry_Bytes_no (Sqe.parse s.xs) hok) [] rfl rfl rfl ?_
      rintro _ _ ⟨rfl, rfl⟩
      refine WL.v (V.move rfl) rfl ?_
      refine WL.perm (pre' := [(SL.empty : SL encY 1).ch 5, s.ch 5, blk r 25 (encS (Sqe.parse s.xs)), blk r_ 25 (encS Sqe.zero)]) (by
        simp only [SL.empty_ch, List.flatten_cons, List.nil_append, List.flatten_nil, List.append_nil]
        exact (List.perm_append_comm).trans (by simp)) ?_
      refine WL.call (equal_bytes SL.empty s (by simp) (by omega)) [0, 0] rfl rfl rfl ?_
      rintro _ _ ⟨rfl, rfl⟩
      have hne : decide ((SL.empty : SL encY 1).xs = s.xs) = false := decide_eq_false (fun e => by
        rw [← e] at hl
        simp at hl)
      rw [hne]
      refine WL.v (V.not rfl) rfl ?_
      refine WL.done ?_
      refine WS.condT rfl ?_
      refine WS.seq ?_
      refine WS.region ?_
      refine WL.v (V.build rfl rfl rfl) rfl ?_
      refine WL.store 3 rfl rfl rfl rfl rfl rfl ?_
      refine WL.v (V.assign rfl) rfl ?_
      refine WL.done ?_
      refine WS.retM [2] (.cell rfl (.agg 0 rfl rfl) (.tmp rfl .nil)) rfl ?_
      exact ⟨rfl, rfl⟩
    · refine WS.seq ?_
      refine WS.seq ?_
      refine WS.region ?_
      refine WL.r (V.loadN 0 rfl rfl rfl) rfl ?_
      refine WL.call (entry_Bytes (Sqe.parse s.xs) hok) [] rfl rfl rfl ?_
      rintro _ _ ⟨s', hs', rfl, rfl⟩
      refine WL.v (V.move rfl) rfl ?_
      refine WL.call (equal_bytes s' s (by rw [hs', Sqe.bytes_len]; omega) (by omega)) [0, 2] rfl rfl rfl ?_
      rintro _ _ ⟨rfl, rfl⟩
      have hie : isEntry s.xs = decide (s'.xs = s.xs) := by simp [isEntry, hok, hs']
      rw [hie]
      cases hd : decide (s'.xs = s.xs)
      · refine WL.v (V.not rfl) rfl ?_
        refine WL.done ?_
        refine WS.condT rfl ?_
        refine WS.seq ?_
        refine WS.region ?_
        refine WL.v (V.build rfl rfl rfl) rfl ?_
        refine WL.store 3 rfl rfl rfl rfl rfl rfl ?_
        refine WL.v (V.assign rfl) rfl ?_
        refine WL.done ?_
        refine WS.retM [2] (.cell rfl (.agg 0 rfl rfl) (.tmp rfl .nil)) rfl ?_
        exact ⟨rfl, rfl⟩
      · refine WL.v (V.not rfl) rfl ?_
        refine WL.done ?_
        refine WS.condF rfl ?_
        refine WS.skip ?_
        refine WS.seq ?_
        refine WS.region ?_
        refine WL.r (V.loadN 2 rfl rfl rfl) rfl ?_
        refine WL.store 3 rfl rfl rfl rfl rfl rfl ?_
        refine WL.v (V.assign rfl) rfl ?_
        refine WL.done ?_
        refine WS.retM [2] (.cell rfl (.agg 0 rfl rfl) (.tmp rfl .nil)) rfl ?_
        exact ⟨rfl, rfl⟩
end Go.Proofs
