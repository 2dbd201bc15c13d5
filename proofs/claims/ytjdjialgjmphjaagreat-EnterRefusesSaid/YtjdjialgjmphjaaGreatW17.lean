/- Part of the proof: W17. -/
import Derived.Test.YtjdjialgjmphjaaGreatW16
import Derived.Test.YtjdjialgjmphjaaGreatS5
set_option linter.all false
set_option maxRecDepth 100000
set_option maxHeartbeats 8000000
namespace Go.Proofs
open Go Go.Sep
attribute [local irreducible] WS WL WH WHT OpV OpR

/-! ## entries as bytes -/

def Sqe.ok (e : Sqe) : Bool := decide (1 ≤ e.op) && decide (e.op ≤ 20) && decide (0 ≤ e.flags) && decide (e.flags ≤ 15) && !decide (bitsOf .and .i64 e.flags 3 = 3)

theorem entry_Check (e : Sqe) : Spec Tryz.prog 373 [.agg (encS e).toArray] [] (fun v A => v = B e.ok ∧ A = []) := by
  refine Spec.of Tryz.func373 rfl Tryz.call373 rfl (fun R => ?_)
  refine WS.seq ?_
  refine WS.region ?_
  refine WL.box rfl rfl ?_; intro r_
  refine WL.v (V.assign rfl) rfl ?_
  refine WL.done ?_
  refine WS.seq ?_
  refine WS.region ?_
  refine WL.v (V.fieldAddr rfl) rfl ?_
  refine WL.r (V.load1 0 rfl rfl rfl) rfl ?_
  refine WL.v (V.ge rfl rfl) rfl ?_
  refine WL.v (V.move rfl) rfl ?_
  (refine WL.gcaseD rfl rfl ?_ ?_) <;> intro h_ <;> try (exfalso; omega)
  refine WL.gy rfl rfl ?_
  refine WL.v (V.fieldAddr rfl) rfl ?_
  refine WL.gy rfl rfl ?_
  refine WL.r (V.load1 0 rfl rfl rfl) rfl ?_
  refine WL.gy rfl rfl ?_
  refine WL.v (V.le rfl rfl) rfl ?_
  refine WL.v (V.pickT rfl rfl) rfl ?_
  refine WL.v (V.move rfl) rfl ?_
  (refine WL.gcaseD rfl rfl ?_ ?_) <;> intro h_ <;> try (exfalso; omega)
  refine WL.gy rfl rfl ?_
  refine WL.v (V.fieldAddr rfl) rfl ?_
  refine WL.gy rfl rfl ?_
  refine WL.r (V.load1 0 rfl rfl rfl) rfl ?_
  refine WL.gy rfl rfl ?_
  refine WL.v (V.ge rfl rfl) rfl ?_
  refine WL.v (V.pickT rfl rfl) rfl ?_
  refine WL.v (V.move rfl) rfl ?_
  (refine WL.gcaseD rfl rfl ?_ ?_) <;> intro h_ <;> try (exfalso; omega)
  refine WL.gy rfl rfl ?_
  refine WL.v (V.fieldAddr rfl) rfl ?_
  refine WL.gy rfl rfl ?_
  refine WL.r (V.load1 0 rfl rfl rfl) rfl ?_
  refine WL.gy rfl rfl ?_
  refine WL.v (V.le rfl rfl) rfl ?_
  refine WL.v (V.pickT rfl rfl) rfl ?_
  refine WL.v (V.move rfl) rfl ?_
  (refine WL.gcaseD rfl rfl ?_ ?_) <;> intro h_ <;> try (exfalso; omega)
  refine WL.gy rfl rfl ?_
  refine WL.v (V.fieldAddr rfl) rfl ?_
  refine WL.gy rfl rfl ?_
  refine WL.r (V.load1 0 rfl rfl rfl) rfl ?_
  refine WL.gy rfl rfl ?_
  refine WL.v (V.bits rfl rfl rfl) rfl ?_
  refine WL.gy rfl rfl ?_
  refine WL.v (V.nei rfl rfl) rfl ?_
  refine WL.v (V.pickT rfl rfl) rfl ?_
  refine WL.v (V.assign rfl) rfl ?_
  refine WL.done ?_
  rotate_left
  refine WL.gn2 rfl rfl rfl rfl ?_
  refine WL.gn2 rfl rfl rfl rfl ?_
  refine WL.gn2 rfl rfl rfl rfl ?_
  refine WL.gn2 rfl rfl rfl rfl ?_
  refine WL.v (V.pickF rfl rfl) rfl ?_
  refine WL.v (V.assign rfl) rfl ?_
  refine WL.done ?_
  rotate_left
  refine WL.gn2 rfl rfl rfl rfl ?_
  refine WL.gn2 rfl rfl rfl rfl ?_
  refine WL.gn2 rfl rfl rfl rfl ?_
  refine WL.v (V.pickF rfl rfl) rfl ?_
  refine WL.v (V.move rfl) rfl ?_
  refine WL.gn2 rfl rfl rfl rfl ?_
  refine WL.gn2 rfl rfl rfl rfl ?_
  refine WL.gn2 rfl rfl rfl rfl ?_
  refine WL.gn2 rfl rfl rfl rfl ?_
  refine WL.v (V.pickF rfl rfl) rfl ?_
  refine WL.v (V.assign rfl) rfl ?_
  refine WL.done ?_
  rotate_left
  refine WL.gn2 rfl rfl rfl rfl ?_
  refine WL.gn2 rfl rfl rfl rfl ?_
  refine WL.gn2 rfl rfl rfl rfl ?_
  refine WL.v (V.pickF rfl rfl) rfl ?_
  refine WL.v (V.move rfl) rfl ?_
  refine WL.gn2 rfl rfl rfl rfl ?_
  refine WL.gn2 rfl rfl rfl rfl ?_
  refine WL.gn2 rfl rfl rfl rfl ?_
  refine WL.v (V.pickF rfl rfl) rfl ?_
  refine WL.v (V.move rfl) rfl ?_
  refine WL.gn2 rfl rfl rfl rfl ?_
  refine WL.gn2 rfl rfl rfl rfl ?_
  refine WL.gn2 rfl rfl rfl rfl ?_
  refine WL.gn2 rfl rfl rfl rfl ?_
  refine WL.v (V.pickF rfl rfl) rfl ?_
  refine WL.v (V.assign rfl) rfl ?_
  refine WL.done ?_
  rotate_left
  refine WL.gn2 rfl rfl rfl rfl ?_
  refine WL.gn2 rfl rfl rfl rfl ?_
  refine WL.gn2 rfl rfl rfl rfl ?_
  refine WL.v (V.pickF rfl rfl) rfl ?_
  refine WL.v (V.move rfl) rfl ?_
  refine WL.gn2 rfl rfl rfl rfl ?_
  refine WL.gn2 rfl rfl rfl rfl ?_
  refine WL.gn2 rfl rfl rfl rfl ?_
  refine WL.v (V.pickF rfl rfl) rfl ?_
  refine WL.v (V.move rfl) rfl ?_
  refine WL.gn2 rfl rfl rfl rfl ?_
  refine WL.gn2 rfl rfl rfl rfl ?_
  refine WL.gn2 rfl rfl rfl rfl ?_
  refine WL.v (V.pickF rfl rfl) rfl ?_
  refine WL.v (V.move rfl) rfl ?_
  refine WL.gn2 rfl rfl rfl rfl ?_
  refine WL.gn2 rfl rfl rfl rfl ?_
  refine WL.gn2 rfl rfl rfl rfl ?_
  refine WL.gn2 rfl rfl rfl rfl ?_
  refine WL.v (V.pickF rfl rfl) rfl ?_
  refine WL.v (V.assign rfl) rfl ?_
  refine WL.done ?_
  rotate_left
  all_goals refine WS.pick [] rfl ?_
  all_goals refine WS.ret rfl ?_
  all_goals refine ⟨?_, rfl⟩
  all_goals simp only [retV]
  all_goals congr 1
  all_goals simp [Sqe.ok, *]

theorem entry_Bytes_no (e : Sqe) (h : e.ok = false) : Spec Tryz.prog 233 [.agg (encS e).toArray] [] (fun v A => v = .slice none 0 0 ∧ A = []) := by
  refine Spec.of Tryz.func233 rfl Tryz.call233 rfl (fun R => ?_)
  refine WS.seq ?_
  refine WS.region ?_
  refine WL.box rfl rfl ?_; intro r_
  refine WL.v (V.assign rfl) rfl ?_
  refine WL.done ?_
  refine WS.seq ?_
  refine WS.seq ?_
  refine WS.region ?_
  refine WL.r (V.loadN 0 rfl rfl rfl) rfl ?_
  refine WL.call (entry_Check e) [] rfl rfl rfl ?_
  rintro _ _ ⟨rfl, rfl⟩
  rw [h]
  refine WL.v (V.not rfl) rfl ?_
  refine WL.done ?_
  refine WS.condT rfl ?_
  refine WS.seq ?_
  refine WS.region ?_
  refine WL.v (V.assign rfl) rfl ?_
  refine WL.done ?_
  refine WS.pick [] rfl ?_
  refine WS.ret rfl ?_
  exact ⟨rfl, rfl⟩

instance : TyA Tryz.prog 501 500 6 2 [.int .i64 0, .int .u32 0, .int .i64 0, .int .u32 0, .int .i64 0, .int .u32 0, .int .i64 0, .int .u32 0, .int .i64 0, .int .u32 0, .int .i64 0, .int .u32 0] :=
  ⟨Tryz.underlying501, Tryz.sizeOf500, Tryz.isAgg500, Tryz.zeroValue501⟩

/-- the words behind one another -/
def Sqe.ws (e : Sqe) : List (Nat × UInt32) := [(4, e.tag), (8, e.cap), (12, e.a), (16, e.b), (20, e.c), (24, e.time)]
def Sqe.b0 (e : Sqe) : List UInt8 := ((List.replicate 32 0).set 0 (UInt8.ofNat (e.op % 256).toNat)).set 1 (UInt8.ofNat (e.flags % 256).toNat)
def Sqe.bt (e : Sqe) (i : Nat) : List UInt8 := (e.ws.take i).foldl (fun l x => put32 l x.1 x.2) e.b0
def Sqe.bytes (e : Sqe) : List UInt8 := e.bt 6
theorem Sqe.bt_len (e : Sqe) (i : Nat) : (e.bt i).length = 32 := by
  unfold Sqe.bt
  have : ∀ (ws : List (Nat × UInt32)) (l : List UInt8), l.length = 32 → (ws.foldl (fun l x => put32 l x.1 x.2) l).length = 32 := by
    intro ws
    induction ws with
    | nil => intro l h; exact h
    | cons x ws ih => intro l h; exact ih _ (by rw [put32_len]; exact h)
  exact this _ _ (by simp [Sqe.b0])
theorem Sqe.bytes_len (e : Sqe) : e.bytes.length = 32 := e.bt_len 6
def Sqe.wsC (e : Sqe) : List Value := [I 4, U e.tag, I 8, U e.cap, I 12, U e.a, I 16, U e.b, I 20, U e.c, I 24, U e.time]

theorem wrapY (z : Int) : Value.int .u8 (IntKind.u8.wrap z) = Y (UInt8.ofNat (z % 256).toNat) := by
  simp only [Y, wrap_u8, UInt8.toNat_ofNat']
  congr 1
  omega

theorem Sqe.ws_get (e : Sqe) (i : Nat) (hi : i < 6) : ∃ x : Nat × UInt32, e.ws[i]? = some x ∧ getN (i * 2) 2 e.wsC = some [I x.1, U x.2] ∧ x.1 + 4 ≤ 32 := by
  have : i = 0 ∨ i = 1 ∨ i = 2 ∨ i = 3 ∨ i = 4 ∨ i = 5 := by omega
  rcases this with rfl | rfl | rfl | rfl | rfl | rfl <;> exact ⟨_, rfl, rfl, by simp⟩

theorem Sqe.bt_succ (e : Sqe) (i : Nat) (x : Nat × UInt32) (h : e.ws[i]? = some x) : e.bt (i + 1) = put32 (e.bt i) x.1 x.2 := by
  unfold Sqe.bt
  rw [List.take_add_one, h]
  simp [List.foldl_append]

theorem entry_Bytes (e : Sqe) (h : e.ok = true) : Spec Tryz.prog 233 [.agg (encS e).toArray] [] (fun v A => ∃ s : SL encY 1, s.xs = e.bytes ∧ v = s.val ∧ A = [s.ch 5]) := by
  refine Spec.of Tryz.func233 rfl Tryz.call233 rfl (fun R => ?_)
  refine WS.seq ?_
  refine WS.region ?_
  refine WL.box rfl rfl ?_; intro r_
  refine WL.v (V.assign rfl) rfl ?_
  refine WL.done ?_
  refine WS.seq ?_
  refine WS.seq ?_
  refine WS.region ?_
  refine WL.r (V.loadN 0 rfl rfl rfl) rfl ?_
  refine WL.call (entry_Check e) [] rfl rfl rfl ?_
  rintro _ _ ⟨rfl, rfl⟩
  rw [h]
  refine WL.v (V.not rfl) rfl ?_
  refine WL.done ?_
  refine WS.condF rfl ?_
  refine WS.skip ?_
  refine WS.seq ?_
  refine WS.region ?_
  refine WL.makeSlice1 (m := 32) rfl rfl rfl (by omega) (by omega) rfl ?_
  intro zb
  refine WL.v (V.assign rfl) rfl ?_
  refine WL.done ?_
  refine WS.seq ?_
  refine WS.regionM (X := Unit) (fun _ => [(3, sl zb 0 32 32), (1, ptr r_ 0)]) (fun _ => [blk zb 5 (flat encY e.b0), blk r_ 25 (encS e)]) [] Tryz.mixed rfl ?_ ?_
  · refine WH.pick rfl ?_
    refine WHT.v (V.move rfl) rfl rfl rfl rfl ?_
    refine WH.pick rfl ?_
    refine WHT.v (V.move rfl) rfl rfl rfl rfl ?_
    refine WH.pick rfl ?_
    refine WHT.v (V.fieldAddr rfl) rfl rfl rfl rfl ?_
    refine WH.pick rfl ?_
    refine WHT.r (V.load1 1 rfl rfl rfl) rfl rfl rfl rfl rfl ?_
    refine WH.pick rfl ?_
    refine WHT.v (V.conv rfl) rfl rfl rfl rfl ?_
    refine WH.pick rfl ?_
    refine WHT.v (V.fieldAddr rfl) rfl rfl rfl rfl ?_
    refine WH.pick rfl ?_
    refine WHT.defer ?_
    refine WH.pick rfl ?_
    refine WHT.v (V.indexAddr rfl rfl (by constructor <;> omega)) rfl rfl rfl rfl ?_
    refine WH.pick rfl ?_
    refine WHT.vOr (V.load1 1 rfl rfl rfl) rfl rfl rfl rfl rfl rfl ?_ ?_
    · refine WH.pick rfl ?_
      refine WHT.v (V.conv rfl) rfl rfl rfl rfl ?_
      refine WH.bigSt rfl rfl rfl ?_; intro _ _
      refine WL.store 0 rfl rfl rfl rfl rfl rfl ?_
      refine WL.nextH (ok := by assumption) (hns := by assumption) (by simp) ?_
      refine WH.pick rfl ?_
      refine WHT.v (V.indexAddr rfl rfl (by constructor <;> omega)) rfl rfl rfl rfl ?_
      refine WH.bigSt rfl rfl rfl ?_; intro _ _
      refine WL.store 0 rfl rfl rfl rfl rfl rfl ?_
      refine WL.nextH (ok := by assumption) (hns := by assumption) (by simp) ?_
      rw [wrapY, wrapY]
      exact WH.doneM () (subEnv_restr [3, 1] rfl rfl) [0, 0] rfl
    · intro _ _
      refine WL.store 0 rfl rfl rfl rfl rfl rfl ?_
      refine WL.nextH (ok := by assumption) (hns := by assumption) (by simp) ?_
      refine WH.pick rfl ?_
      refine WHT.r (V.load1 1 rfl rfl rfl) rfl rfl rfl rfl rfl ?_
      refine WH.pick rfl ?_
      refine WHT.v (V.conv rfl) rfl rfl rfl rfl ?_
      refine WH.pick rfl ?_
      refine WHT.v (V.indexAddr rfl rfl (by constructor <;> omega)) rfl rfl rfl rfl ?_
      refine WH.bigSt rfl rfl rfl ?_; intro _ _
      refine WL.store 0 rfl rfl rfl rfl rfl rfl ?_
      refine WL.nextH (ok := by assumption) (hns := by assumption) (by simp) ?_
      rw [wrapY, wrapY]
      exact WH.doneM () (subEnv_restr [3, 1] rfl rfl) [0, 0] rfl
  · intro _
    refine WS.seq ?_
    refine WS.seq ?_
    refine WS.region ?_
    refine WL.v (V.fieldAddr rfl) rfl ?_
    refine WL.r (V.load1 1 rfl rfl rfl) rfl ?_
    refine WL.v (V.build rfl rfl rfl) rfl ?_
    refine WL.v (V.fieldAddr rfl) rfl ?_
    refine WL.r (V.load1 1 rfl rfl rfl) rfl ?_
    refine WL.v (V.build rfl rfl rfl) rfl ?_
    refine WL.v (V.fieldAddr rfl) rfl ?_
    refine WL.r (V.load1 1 rfl rfl rfl) rfl ?_
    refine WL.v (V.build rfl rfl rfl) rfl ?_
    refine WL.v (V.fieldAddr rfl) rfl ?_
    refine WL.r (V.load1 1 rfl rfl rfl) rfl ?_
    refine WL.v (V.build rfl rfl rfl) rfl ?_
    refine WL.v (V.fieldAddr rfl) rfl ?_
    refine WL.r (V.load1 1 rfl rfl rfl) rfl ?_
    refine WL.v (V.build rfl rfl rfl) rfl ?_
    refine WL.v (V.fieldAddr rfl) rfl ?_
    refine WL.r (V.load1 1 rfl rfl rfl) rfl ?_
    refine WL.v (V.build rfl rfl rfl) rfl ?_
    refine WL.v (V.buildA rfl rfl rfl) rfl ?_
    refine WL.v (V.move rfl) rfl ?_
    refine WL.done ?_
    refine WS.block ?_
    refine WS.keep [39, 38, 3] rfl ?_
    refine WS.pick [0] rfl ?_
    refine WS.loop (ι := {p : Nat × SL encY 1 // p.1 ≤ 6 ∧ p.2.xs = e.bt p.1}) (fun p => [(39, I p.1.1), (38, .agg e.wsC.toArray), (3, p.1.2.val)]) (fun p => [p.1.2.ch 5]) (fun p => 6 - p.1.1)
      ⟨(0, ⟨e.b0, some zb, 32, [], by simp, fun _ => by simp [Sqe.b0]⟩), by simp, rfl⟩ ?_
    rintro ⟨⟨i, s⟩, hi, hs⟩ X ih
    simp only at ih hi hs ⊢
    have hsl : s.xs.length = 32 := by rw [hs]; exact e.bt_len i
    refine WS.seq ?_
    refine WS.region ?_
    refine WL.v (V.lt rfl rfl) rfl ?_
    refine WL.done ?_
    refine WS.seq ?_
    (refine WS.condD rfl ?_ ?_) <;> intro h_ <;> try (exfalso; omega)
    refine WS.skip ?_
    refine WS.seq ?_
    refine WS.block ?_
    refine WS.seq ?_
    refine WS.region ?_
    rotate_left
    refine WS.exit rfl ?_
    refine WS.seq ?_
    refine WS.region ?_
    refine WL.v (V.move rfl) rfl ?_
    refine WL.v (V.assign rfl) rfl ?_
    refine WL.done ?_
    rotate_left
    · obtain ⟨x, hx1, hx2, hx3⟩ := e.ws_get i (by omega)
      refine WL.v (V.indexA (l := e.wsC) (i := (i : Int)) rfl rfl (by constructor <;> omega) (by rw [Int.toNat_natCast]; exact hx2)) rfl ?_
      refine WL.alloc rfl ?_; intro r_
      refine WL.store 0 rfl rfl rfl rfl rfl rfl ?_
      refine WL.done ?_
      refine WS.region ?_
      refine WL.v (V.move rfl) rfl ?_
      refine WL.v (V.fieldAddr rfl) rfl ?_
      refine WL.r (V.load1 0 rfl rfl rfl) rfl ?_
      refine WL.v (V.fieldAddr rfl) rfl ?_
      refine WL.r (V.load1 0 rfl rfl rfl) rfl ?_
      refine WL.call (put32_SL s x.1 x.2 (by omega) (by omega)) [1] rfl rfl rfl ?_
      rintro _ _ ⟨s', hs', rfl, rfl⟩
      refine WL.v (V.assign rfl) rfl ?_
      refine WL.done ?_
      refine WS.blk ?_
      refine WS.region ?_
      refine WL.v (V.add rfl rfl (fits_i64 (by omega) (by omega))) rfl ?_
      refine WL.v (V.move rfl) rfl ?_
      refine WL.done ?_
      refine WS.keep [39, 38, 3] rfl ?_
      refine WS.pick [0] rfl ?_
      exact ih ⟨(i + 1, s'), by simp only; omega, by simp only; rw [hs', hs, e.bt_succ i x hx1]⟩ (by simp only; omega)
    · have : i = 6 := by omega
      subst this
      refine WS.ret rfl ?_
      exact ⟨s, hs, rfl, rfl⟩
end Go.Proofs
