/- Part of the proof: W36. -/
import Derived.Test.YtjdjialgjmphjaaGreatW35
import Derived.Test.YtjdjialgjmphjaaGreatPD
set_option linter.all false
set_option maxRecDepth 100000
set_option maxHeartbeats 32000000
namespace Go.Proofs
open Go Go.Sep
attribute [local irreducible] WS WL WH WHT OpV OpR

/-! ## EnterMixed -/

/-- a slice of truth values that came in -/
structure ArgB (a : Option Addr) (len cap : Nat) (ch : Chunk) (zs : Nat → Bool) : Prop where
  nil : a = none → len = 0
  row : 0 < len → ∃ b o c Tb fr, a = some ⟨b, o, none⟩ ∧ ch = [(b, .cells c Tb fr)] ∧ ∀ i, i < len → c[o + i]? = some (B (zs i))

theorem SL.setY (s : SL encY 1) (i : Nat) (x : UInt8) (h : i < s.xs.length) :
    ∃ (b : Nat) (l l' : List Value) (s' : SL encY 1), s.b = some b ∧ s.ch 5 = blk b 5 l ∧ setN (i * 1) [Y x] l = some l' ∧ s'.xs = s.xs.set i x ∧ s'.val = s.val ∧ s'.ch 5 = blk b 5 l' := by
  obtain ⟨xs, sb, cap, junk, hnil, hfit⟩ := s
  simp only at h
  cases sb with
  | none => have := hnil rfl; subst this; simp at h
  | some b =>
    refine ⟨b, flat encY xs ++ junk, flat encY (xs.set i x) ++ junk, ⟨xs.set i x, some b, cap, junk, by simp, fun _ => by rw [List.length_set]; exact hfit (by simp)⟩, rfl, rfl, ?_, rfl, ?_, rfl⟩
    · rw [show i * 1 = i from by omega, setN_one _ _ _ (by simp [flat_length]; omega), List.set_append_left _ _ (by simp [flat_length]; omega)]
      simp only [flat_encY, List.map_set]
    · simp [SL.val]

theorem V.loadPart1 {P : Program} {env : List (Nat × Value)} {pre : List Chunk} {T E F : TypeId} {x : Operand} {α : Type} {enc : α → List Value} {sz : Nat} (kp : Nat) {s : SL enc sz} {i j : Nat} {a : α} {v : Value} [hE : Enc enc sz] [ht : TyS P F 1 false]
    (hx : ev env x = some (.pointer (some ⟨s.b.getD 0, i * sz + j, none⟩)))
    (hc : nthC kp pre = some (s.ch E)) (ha : s.xs[i]? = some a) (hj : getN j 1 (enc a) = some [v]) : OpR P (.load F x) T env pre v := by
  cases hb : s.b with
  | none => have := s.nil hb; rw [this] at ha; simp at ha
  | some b =>
    refine V.load1 kp (b := b) (o := i * sz + j) (Tb := E) (l := flat enc s.xs ++ s.junk) (by rw [hx, hb]; rfl) (by rw [hc]; simp only [SL.ch, hb]) ?_
    exact getN_sub (by omega) (flat_get (enc := enc) (sz := sz) s.xs s.junk i a ha) hj

theorem law_EnterMixed (a : Option Addr) (len cap : Nat) (ch : Chunk) (zs : Nat → Bool) (ha : ArgB a len cap ch zs) :
    Spec Tryz.prog 4 [.slice a len cap] [ch] (fun v A => v = B true ∧ A = [ch]) := by
  refine Spec.of Tryz.func4 rfl Tryz.call4 rfl (fun R => ?_)
  refine WS.seq ?_
  refine WS.region ?_
  refine WL.v (V.assign rfl) rfl ?_
  refine WL.done ?_
  refine WS.seq ?_
  refine WS.region ?_
  refine WL.callB law_first [] rfl rfl rfl ?_
  rintro _ _ ⟨rfl, rfl⟩
  refine WL.v (V.assign rfl) rfl ?_
  refine WL.done ?_
  refine WS.seq ?_
  refine WS.seq ?_
  refine WS.region ?_
  refine WL.v (V.move rfl) rfl ?_
  refine WL.v (V.not rfl) rfl ?_
  refine WL.done ?_
  refine WS.condF rfl ?_
  refine WS.skip ?_
  refine WS.seq ?_
  refine WS.seq ?_
  refine WS.region ?_
  refine WL.v (V.move rfl) rfl ?_
  refine WL.v (V.lenS rfl) rfl ?_
  refine WL.v (V.gt rfl rfl) rfl ?_
  refine WL.done ?_
  (refine WS.condD rfl ?_ ?_) <;> intro h_ <;> try (exfalso; omega)
  refine WS.seq ?_
  refine WS.region ?_
  refine WL.v (V.move rfl) rfl ?_
  refine WL.v (V.assign rfl) rfl ?_
  refine WL.done ?_
  rotate_left
  refine WS.skip ?_
  refine WS.seq ?_
  refine WS.region ?_
  rotate_left
  · refine WS.pick [0] rfl ?_
    refine WS.ret rfl ?_
    exact ⟨rfl, rfl⟩
  · refine WL.perm (pre' := [(SL.empty : SL encS 8).ch 25, ch]) (List.Perm.refl _) ?_
    refine WL.callB (law_laid (SL.empty : SL encS 8) (by simp) (by simp)) [0] rfl rfl rfl ?_
    rintro _ _ ⟨k, hv, hsq, hcq, rfl, rfl⟩
    refine WL.v (V.assign rfl) rfl ?_
    refine WL.done ?_
    refine WS.seq ?_
    refine WS.seq ?_
    refine WS.region ?_
    refine WL.v (V.move rfl) rfl ?_
    refine WL.v (V.eqNilP rfl rfl) rfl ?_
    refine WL.done ?_
    refine WS.condF rfl ?_
    refine WS.skip ?_
    refine WS.seq ?_
    refine WS.seq ?_
    refine WS.region ?_
    refine WL.v (V.assign rfl) rfl ?_
    refine WL.done ?_
    refine WS.block ?_
    refine WS.keep [5, 4, 0, 3] rfl ?_
    refine WS.loop (ι := {p : Nat × KW // p.1 ≤ len ∧ p.2.x = k.x ∧ LayB p.2.view (mixB zs) p.1 4}) (fun p => [(5, I p.1.1), (4, k.p), (0, .slice a len cap), (3, B true)]) (fun p => [ch] ++ p.1.2.chs) (fun p => len - p.1.1)
      ⟨(0, k), by omega, rfl, by rw [hv]; exact LayB.zero (laid_rdy [] 4 (by simp)) _⟩ ?_
    rintro ⟨⟨i, k1⟩, hi, hx1, hlay⟩ X ih
    simp only at ih hi hx1 hlay ⊢
    rw [show k.p = k1.p from by rw [KW.p, KW.p, hx1]]
    refine WS.seq ?_
    refine WS.seq ?_
    refine WS.region ?_
    refine WL.v (V.move rfl) rfl ?_
    refine WL.v (V.move rfl) rfl ?_
    refine WL.v (V.lenS rfl) rfl ?_
    refine WL.v (V.lt rfl rfl) rfl ?_
    refine WL.done ?_
    (refine WS.condD rfl ?_ ?_) <;> intro h_ <;> try (exfalso; omega)
    refine WS.skip ?_
    refine WS.seq ?_
    refine WS.block ?_
    refine WS.seq ?_
    refine WS.region ?_
    refine WL.v (V.move rfl) rfl ?_
    refine WL.v (V.add rfl rfl (fits_i64 (by omega) (by omega))) rfl ?_
    refine WL.v (V.conv rfl) rfl ?_
    refine WL.v (V.build rfl rfl rfl) rfl ?_
    rotate_left
    refine WS.exit rfl ?_
    refine WS.seq ?_
    rotate_left
    · rw [show (20 : Int) + (i : Int) = ((20 + i : Nat) : Int) from by omega, u32_ofNat (20 + i)]
      refine WL.callB (ref16_Bytes (mixE i) (mix_ok i)) [] rfl rfl rfl ?_
      rintro _ _ ⟨s, hs, rfl, rfl⟩
      have hsl : s.xs.length = 32 := by rw [hs]; exact Sqe.bytes_len _
      obtain ⟨b, o, c, Tb, fr, rfl, rfl, hc⟩ := ha.row (by omega)
      have hcj : c[o + (i : Int).toNat * 1]? = some (B (zs i)) := by
        rw [show o + (i : Int).toNat * 1 = o + i from by omega]
        exact hc i (by omega)
      refine WL.v (V.assign rfl) rfl ?_
      refine WL.done ?_
      refine WS.seq ?_
      refine WS.seq ?_
      refine WS.region ?_
      refine WL.v (V.move rfl) rfl ?_
      refine WL.v (V.move rfl) rfl ?_
      refine WL.v (V.indexAddr rfl rfl (by constructor <;> omega)) rfl ?_
      refine WL.r (V.loadRaw 0 rfl rfl hcj) rfl ?_
      have hstep := hlay.step (by omega) (mixB_len zs i)
      cases hz : zs i with
      | true =>
        obtain ⟨sb, l, l', s', hsb, hch, hset, hs', hv', hch'⟩ := SL.setY s 30 7 (by omega)
        have hsm : s'.xs = mixB zs i := by rw [hs', hs, mixB, hz]; rfl
        rw [← hsm] at hstep
        have hsl' : s'.xs.length = 32 := by rw [hsm, mixB_len]
        refine WL.done ?_
        refine WS.condT rfl ?_
        refine WS.region ?_
        refine WL.v (V.move rfl) rfl ?_
        refine WL.v (V.indexSL rfl rfl (by constructor <;> omega)) rfl ?_
        rw [hsb, hch]
        refine WL.store 17 (b := sb) (o := 30 * 1) (Tb := 5) rfl rfl rfl rfl rfl hset ?_
        rw [← hch', ← hv']
        refine WL.done ?_
        refine WS.region ?_
        refine WL.v (V.move rfl) rfl ?_
        refine WL.callB k1.Mem (wk 2) rfl rfl rfl ?_
        rintro _ _ ⟨rfl, rfl⟩
        refine WL.v (V.move rfl) rfl ?_
        refine WL.v (V.mul rfl rfl (fits_i64 (by omega) (by omega))) rfl ?_
        refine WL.v (V.add rfl rfl (fits_i64 (by omega) (by omega))) rfl ?_
        refine WL.v (V.move rfl) rfl ?_
        rw [show (16 : Int) + 32 * (i : Int) = ((16 + 32 * i : Nat) : Int) from by omega]
        refine WL.callB (k1.Write 5 (16 + 32 * i) s' (by omega) (by omega) (by omega) (by omega) (by omega)) (wk 2 ++ [0]) rfl rfl rfl ?_
        rintro _ _ ⟨k2, hx2, hv2, rfl, rfl⟩
        rw [show k1.p = k2.p from by rw [KW.p, KW.p, hx2]]
        refine WL.done ?_
        refine WS.blk ?_
        refine WS.region ?_
        refine WL.v (V.move rfl) rfl ?_
        refine WL.v (V.add rfl rfl (fits_i64 (by omega) (by omega))) rfl ?_
        refine WL.v (V.assign rfl) rfl ?_
        refine WL.done ?_
        refine WS.keep [5, 4, 0, 3] rfl ?_
        refine WS.pick (0 :: wk 0) rfl ?_
        rw [show k2.p = k.p from by rw [KW.p, KW.p, hx2, hx1]]
        exact ih ⟨(i + 1, k2), by simp only; omega, hx2.trans hx1, by simp only; rw [hv2]; exact hstep⟩ (by simp only; omega)
      | false =>
        have hsm : s.xs = mixB zs i := by rw [hs, mixB, hz]; rfl
        rw [← hsm] at hstep
        refine WL.done ?_
        refine WS.condF rfl ?_
        refine WS.skip ?_
        refine WS.region ?_
        refine WL.v (V.move rfl) rfl ?_
        refine WL.callB k1.Mem (wk 1) rfl rfl rfl ?_
        rintro _ _ ⟨rfl, rfl⟩
        refine WL.v (V.move rfl) rfl ?_
        refine WL.v (V.mul rfl rfl (fits_i64 (by omega) (by omega))) rfl ?_
        refine WL.v (V.add rfl rfl (fits_i64 (by omega) (by omega))) rfl ?_
        refine WL.v (V.move rfl) rfl ?_
        rw [show (16 : Int) + 32 * (i : Int) = ((16 + 32 * i : Nat) : Int) from by omega]
        refine WL.callB (k1.Write 5 (16 + 32 * i) s (by omega) (by omega) (by omega) (by omega) (by omega)) (wk 2 ++ [1]) rfl rfl rfl ?_
        rintro _ _ ⟨k2, hx2, hv2, rfl, rfl⟩
        rw [show k1.p = k2.p from by rw [KW.p, KW.p, hx2]]
        refine WL.done ?_
        refine WS.blk ?_
        refine WS.region ?_
        refine WL.v (V.move rfl) rfl ?_
        refine WL.v (V.add rfl rfl (fits_i64 (by omega) (by omega))) rfl ?_
        refine WL.v (V.assign rfl) rfl ?_
        refine WL.done ?_
        refine WS.keep [5, 4, 0, 3] rfl ?_
        refine WS.pick (0 :: wk 0) rfl ?_
        rw [show k2.p = k.p from by rw [KW.p, KW.p, hx2, hx1]]
        exact ih ⟨(i + 1, k2), by simp only; omega, hx2.trans hx1, by simp only; rw [hv2]; exact hstep⟩ (by simp only; omega)
    · have hi' : i = len := by omega
      subst hi'
      clear ih
      have hconv : Value.int .u32 (IntKind.u32.wrap (i : Int)) = U (UInt32.ofNat i) := u32_ofNat i
      have hrdy := hlay.tail (by omega)
      refine WS.keep [4, 0, 3] rfl ?_
      refine WS.regionM (X := {k' : KW // k'.x = k.x ∧ k'.view = k1.view.wr 5 4 (le4 (UInt32.ofNat i))}) (fun q => [(4, q.1.p), (0, .slice a i cap), (3, B true)]) (fun q => [ch] ++ q.1.chs) [] Tryz.mixed rfl ?_ ?_
      · refine WH.pick rfl ?_
        refine WHT.v (V.move rfl) rfl rfl rfl rfl ?_
        refine WH.pick rfl ?_
        refine WHT.v (V.move rfl) rfl rfl rfl rfl ?_
        refine WH.pick rfl ?_
        refine WHT.v (V.lenS rfl) rfl rfl rfl rfl ?_
        refine WH.pick rfl ?_
        refine WHT.v (V.conv rfl) rfl rfl rfl rfl ?_
        (refine WH.two rfl rfl rfl rfl rfl ?_ ?_) <;> intro _ _
        rotate_left
        rotate_left
        · refine WL.callB k1.Mem (wk 1) rfl rfl rfl ?_
          rintro _ _ ⟨rfl, rfl⟩
          refine WL.nextH (ok := by assumption) (hns := by assumption) (by simp) ?_
          refine WH.big rfl rfl rfl ?_; intro _ _
          refine WL.makeSliceC (l := 4) (m := 4) rfl rfl (by omega) rfl (by omega) (by omega) rfl ?_
          intro zb
          refine WL.nextH (ok := by assumption) (hns := by assumption) (by simp) ?_
          refine WH.big rfl rfl rfl ?_; intro _ _
          refine WL.perm (pre' := [(zero4 zb).ch 5, ch] ++ k1.chs) (List.Perm.refl _) ?_
          rw [show Value.slice (some ⟨zb, 0, none⟩) 4 4 = (zero4 zb).val from rfl, hconv]
          refine WL.callB (ref1_Put32 (zero4 zb) 0 (UInt32.ofNat i) (by show 0 + 4 ≤ 4; omega) (by show 4 ≤ 1000000; omega)) [0] rfl rfl rfl ?_
          rintro _ _ ⟨s, hs, rfl, rfl⟩
          have hs4 : s.xs = le4 (UInt32.ofNat i) := hs
          have hsl : s.xs.length = 4 := by rw [hs4, le4_len]
          refine WL.nextH (ok := by assumption) (hns := by assumption) (by simp) ?_
          refine WH.big rfl rfl rfl ?_; intro _ _
          refine WL.callB (k1.Write 5 4 s (by omega) (by omega) (by omega) (by omega) (by omega)) (wk 1 ++ [1]) rfl rfl rfl ?_
          rintro _ _ ⟨k2, hx2, hv2, rfl, rfl⟩
          rw [show k1.p = k2.p from by rw [KW.p, KW.p, hx2]]
          refine WL.nextH (ok := by assumption) (hns := by assumption) (by simp) ?_
          exact WH.doneM ⟨k2, hx2.trans hx1, by rw [hv2, hs4]⟩ (subEnv_restr [4, 0, 3] rfl rfl) (0 :: wk 1) rfl
        · refine WL.makeSliceC (l := 4) (m := 4) rfl rfl (by omega) rfl (by omega) (by omega) rfl ?_
          intro zb
          refine WL.nextH (ok := by assumption) (hns := by assumption) (by simp) ?_
          refine WH.big rfl rfl rfl ?_; intro _ _
          refine WL.callB k1.Mem (wk 2) rfl rfl rfl ?_
          rintro _ _ ⟨rfl, rfl⟩
          refine WL.nextH (ok := by assumption) (hns := by assumption) (by simp) ?_
          refine WH.big rfl rfl rfl ?_; intro _ _
          refine WL.perm (pre' := [(zero4 zb).ch 5, ch] ++ k1.chs) (List.Perm.refl _) ?_
          rw [show Value.slice (some ⟨zb, 0, none⟩) 4 4 = (zero4 zb).val from rfl, hconv]
          refine WL.callB (ref1_Put32 (zero4 zb) 0 (UInt32.ofNat i) (by show 0 + 4 ≤ 4; omega) (by show 4 ≤ 1000000; omega)) [0] rfl rfl rfl ?_
          rintro _ _ ⟨s, hs, rfl, rfl⟩
          have hs4 : s.xs = le4 (UInt32.ofNat i) := hs
          have hsl : s.xs.length = 4 := by rw [hs4, le4_len]
          refine WL.nextH (ok := by assumption) (hns := by assumption) (by simp) ?_
          refine WH.big rfl rfl rfl ?_; intro _ _
          refine WL.callB (k1.Write 5 4 s (by omega) (by omega) (by omega) (by omega) (by omega)) (wk 1 ++ [1]) rfl rfl rfl ?_
          rintro _ _ ⟨k2, hx2, hv2, rfl, rfl⟩
          rw [show k1.p = k2.p from by rw [KW.p, KW.p, hx2]]
          refine WL.nextH (ok := by assumption) (hns := by assumption) (by simp) ?_
          exact WH.doneM ⟨k2, hx2.trans hx1, by rw [hv2, hs4]⟩ (subEnv_restr [4, 0, 3] rfl rfl) (0 :: wk 1) rfl
      · rintro ⟨k2, hx2, hv2⟩
        rw [← hv2] at hrdy
        have hin : EIn k2.x.sqb k2.x.cqb 60 k2.view i 16 := by rw [hx2, hsq, hcq]; exact mix_in hrdy (by omega) 60
        refine WS.seq ?_
        refine WS.seq ?_
        refine WS.region ?_
        refine WL.v (V.move rfl) rfl ?_
        refine WL.callB (k2.EnterE 60 i 16 hin) (wk 1) rfl rfl rfl ?_
        rintro _ _ ⟨k3, hx3, hv3, rfl, rfl⟩
        rw [show k2.p = k3.p from by rw [KW.p, KW.p, hx3]]
        obtain ⟨hdl, hout⟩ := hin.out _ rfl
        rw [← hv3] at hout
        have hmi : min i (bud 60) = i := by unfold bud; omega
        rw [hmi] at hdl hout ⊢
        rw [hx2, hsq, hcq] at hout
        rw [hx2, hsq] at hdl
        have hmo : MixOut zs i k3.view := mix_out hrdy (by omega) hout hdl
        clear hv3 hout hdl hin
        refine WL.v (V.move rfl) rfl ?_
        refine WL.v (V.lenS rfl) rfl ?_
        refine WL.v (V.nei rfl rfl) rfl ?_
        refine WL.done ?_
        (refine WS.condN rfl ?_ ?_) <;> intro h_ <;> try (exfalso; omega)
        refine WS.skip ?_
        refine WS.seq ?_
        refine WS.region ?_
        refine WL.v (V.move rfl) rfl ?_
        refine WL.callB k3.Journal (wk 1) rfl rfl rfl ?_
        rintro _ _ ⟨rfl, rfl⟩
        skip
        have hjl : k3.j.xs.length = i := hmo.jl
        have hL : k3.t.L = [] := hmo.L
        have hof : k3.t.of 4 = [] := by unfold RT.of; rw [hL]; rfl
        refine WL.callB (k3.JAll (by omega)) (wk 1) rfl rfl rfl ?_
        rintro _ _ ⟨s, hs, rfl, rfl⟩
        have hsl : s.xs.length = i := by rw [hs]; exact hmo.jl
        refine WL.v (V.assign rfl) rfl ?_
        refine WL.done ?_
        refine WS.seq ?_
        refine WS.seq ?_
        refine WS.region ?_
        refine WL.v (V.move rfl) rfl ?_
        refine WL.v (V.lenSL rfl) rfl ?_
        refine WL.v (V.move rfl) rfl ?_
        refine WL.v (V.lenS rfl) rfl ?_
        refine WL.v (V.nei rfl rfl) rfl ?_
        refine WL.v (V.move rfl) rfl ?_
        (refine WL.gcaseN rfl rfl ?_ ?_) <;> intro h_ <;> try (exfalso; omega)
        refine WL.gy rfl rfl ?_
        refine WL.v (V.move rfl) rfl ?_
        refine WL.gy rfl rfl ?_
        refine WL.callB k3.Reqs (wk 2) rfl rfl rfl ?_
        rintro _ _ ⟨rfl, rfl⟩
        refine WL.gy rfl rfl ?_
        refine WL.callB (k3.Of (by rw [hof]; simp) (by rw [hL]; simp)) (wk 2) rfl rfl rfl ?_
        rintro _ _ ⟨s2, hs2, rfl, rfl⟩
        have hsl2 : s2.xs.length = 0 := by rw [hs2, hof]; rfl
        refine WL.gy rfl rfl ?_
        refine WL.v (V.lenSL rfl) rfl ?_
        refine WL.gy rfl rfl ?_
        refine WL.v (V.nei rfl rfl) rfl ?_
        refine WL.v (V.pickF rfl rfl) rfl ?_
        refine WL.done ?_
        (refine WS.condN rfl ?_ ?_) <;> intro h_ <;> try (exfalso; omega)
        refine WS.skip ?_
        refine WS.seq ?_
        refine WS.seq ?_
        refine WS.region ?_
        refine WL.v (V.assign rfl) rfl ?_
        refine WL.done ?_
        refine WS.block ?_
        refine WS.keep [8, 7, 4, 0, 3] rfl ?_
        refine WS.pick (0 :: 0 :: wk 1) rfl ?_
        refine WS.loop (ι := {j : Nat // j ≤ i}) (fun p => [(8, I p.1), (7, s.val), (4, k3.p), (0, .slice a i cap), (3, B true)]) (fun _ => [ch, s.ch 73] ++ k3.chs) (fun p => i - p.1)
          ⟨0, by omega⟩ ?_
        rintro ⟨j, hj⟩ X ih
        simp only at ih hj ⊢
        refine WS.seq ?_
        refine WS.seq ?_
        refine WS.region ?_
        refine WL.v (V.move rfl) rfl ?_
        refine WL.v (V.move rfl) rfl ?_
        refine WL.v (V.lenS rfl) rfl ?_
        refine WL.v (V.lt rfl rfl) rfl ?_
        refine WL.done ?_
        (refine WS.condD rfl ?_ ?_) <;> intro h_ <;> try (exfalso; omega)
        refine WS.skip ?_
        refine WS.seq ?_
        refine WS.block ?_
        refine WS.seq ?_
        refine WS.region ?_
        refine WL.v (V.move rfl) rfl ?_
        refine WL.v (V.move rfl) rfl ?_
        refine WL.v (V.add rfl rfl (fits_i64 (by omega) (by omega))) rfl ?_
        refine WL.v (V.build rfl rfl rfl) rfl ?_
        rotate_left
        refine WS.exit rfl ?_
        refine WS.seq ?_
        refine WS.region ?_
        refine WL.v (V.move rfl) rfl ?_
        refine WL.v (V.move rfl) rfl ?_
        refine WL.gy rfl rfl ?_
        refine WL.v (V.move rfl) rfl ?_
        refine WL.gy rfl rfl ?_
        rotate_left
        · obtain ⟨kk, d, hk1, hk2, hk3, hk4⟩ := hmo.at_ j (by omega)
          rw [← hs] at hk1 hk2
          have hkl : kk < s.xs.length := by
            rcases Nat.lt_or_ge kk s.xs.length with h | h
            · exact h
            · rw [List.getElem?_eq_none h] at hk2; simp at hk2
          rw [show ((j : Int) + 1) = ((j + 1 : Nat) : Int) from by omega]
          refine WL.callB (same_At s ⟨4, j + 1⟩ (by omega)) [1] rfl rfl rfl ?_
          rintro _ _ ⟨rfl, rfl⟩
          rw [hk1]
          simp only [Option.getD_some, Option.isSome_some]
          obtain ⟨b, o, c, Tb, fr, rfl, rfl, hc⟩ := ha.row (by omega)
          have hcj : c[o + (j : Int).toNat * 1]? = some (B (zs j)) := by
            rw [show o + (j : Int).toNat * 1 = o + j from by omega]
            exact hc j (by omega)
          refine WL.v (V.move rfl) rfl ?_
          refine WL.v (V.extractL rfl rfl) rfl ?_
          refine WL.v (V.extractL rfl rfl) rfl ?_
          refine WL.v (V.assign rfl) rfl ?_
          refine WL.v (V.assign rfl) rfl ?_
          refine WL.done ?_
          refine WS.seq ?_
          refine WS.region ?_
          refine WL.v (V.assign rfl) rfl ?_
          refine WL.done ?_
          refine WS.seq ?_
          refine WS.seq ?_
          refine WS.region ?_
          refine WL.v (V.move rfl) rfl ?_
          refine WL.v (V.move rfl) rfl ?_
          refine WL.v (V.indexAddr rfl rfl (by constructor <;> omega)) rfl ?_
          refine WL.r (V.loadRaw 0 rfl rfl hcj) rfl ?_
          have hw : IntKind.u32.wrap (20 + (j : Int)) = ((d.tag.toNat : Nat) : Int) := by
            rw [hk4, UInt32.toNat_ofNat', wrap_u32]; omega
          cases hz : zs j with
          | true =>
            rw [hz] at hk3
            simp only [if_true] at hk3
            refine WL.done ?_
            refine WS.condT rfl ?_
            refine WS.region ?_
            refine WL.v (V.assign rfl) rfl ?_
            refine WL.done ?_
            refine WS.seq ?_
            refine WS.region ?_
            refine WL.v (V.move rfl) rfl ?_
            refine WL.v (V.not rfl) rfl ?_
            refine WL.v (V.move rfl) rfl ?_
            refine WL.gy rfl rfl ?_
            refine WL.v (V.move rfl) rfl ?_
            refine WL.gy rfl rfl ?_
            refine WL.v (V.move rfl) rfl ?_
            refine WL.gy rfl rfl ?_
            refine WL.v (V.indexSL rfl rfl (by constructor <;> omega)) rfl ?_
            refine WL.gy rfl rfl ?_
            refine WL.v (V.fieldAddr rfl) rfl ?_
            refine WL.gy rfl rfl ?_
            refine WL.r (V.loadPart1 (enc := encD) 17 (i := kk) (j := 4) (by simp only [Int.toNat_natCast]; rfl) rfl hk2 rfl) rfl ?_
            refine WL.gy rfl rfl ?_
            refine WL.v (V.move rfl) rfl ?_
            refine WL.gy rfl rfl ?_
            refine WL.v (V.nei rfl rfl) rfl ?_
            refine WL.v (V.pickF rfl rfl) rfl ?_
            refine WL.v (V.move rfl) rfl ?_
            (refine WL.gcaseN rfl rfl ?_ ?_) <;> intro h_ <;> try (exfalso; omega)
            refine WL.gy rfl rfl ?_
            refine WL.v (V.move rfl) rfl ?_
            refine WL.gy rfl rfl ?_
            refine WL.v (V.move rfl) rfl ?_
            refine WL.gy rfl rfl ?_
            refine WL.v (V.indexSL rfl rfl (by constructor <;> omega)) rfl ?_
            refine WL.gy rfl rfl ?_
            refine WL.v (V.fieldAddr rfl) rfl ?_
            refine WL.gy rfl rfl ?_
            refine WL.r (V.loadPart1 (enc := encD) 17 (i := kk) (j := 2) (by simp only [Int.toNat_natCast]; rfl) rfl hk2 rfl) rfl ?_
            refine WL.gy rfl rfl ?_
            refine WL.v (V.move rfl) rfl ?_
            refine WL.gy rfl rfl ?_
            refine WL.v (V.add rfl rfl (fits_i64 (by omega) (by omega))) rfl ?_
            refine WL.gy rfl rfl ?_
            refine WL.v (V.conv rfl) rfl ?_
            refine WL.gy rfl rfl ?_
            refine WL.v (V.nei rfl rfl) rfl ?_
            refine WL.v (V.pickF rfl rfl) rfl ?_
            refine WL.done ?_
            (refine WS.condN rfl ?_ ?_) <;> intro h_ <;> try (exfalso; omega)
            refine WS.skip ?_
            refine WS.blk ?_
            refine WS.region ?_
            refine WL.v (V.move rfl) rfl ?_
            refine WL.v (V.add rfl rfl (fits_i64 (by omega) (by omega))) rfl ?_
            refine WL.v (V.assign rfl) rfl ?_
            refine WL.done ?_
            refine WS.keep [8, 7, 4, 0, 3] rfl ?_
            refine WS.pick (0 :: 16 :: wk 0) rfl ?_
            exact ih ⟨j + 1, by omega⟩ (by simp only; omega)
          | false =>
            rw [hz] at hk3
            simp only [Bool.false_eq_true, if_false] at hk3
            refine WL.done ?_
            refine WS.condF rfl ?_
            refine WS.skip ?_
            refine WS.seq ?_
            refine WS.region ?_
            refine WL.v (V.move rfl) rfl ?_
            refine WL.v (V.not rfl) rfl ?_
            refine WL.v (V.move rfl) rfl ?_
            refine WL.gy rfl rfl ?_
            refine WL.v (V.move rfl) rfl ?_
            refine WL.gy rfl rfl ?_
            refine WL.v (V.move rfl) rfl ?_
            refine WL.gy rfl rfl ?_
            refine WL.v (V.indexSL rfl rfl (by constructor <;> omega)) rfl ?_
            refine WL.gy rfl rfl ?_
            refine WL.v (V.fieldAddr rfl) rfl ?_
            refine WL.gy rfl rfl ?_
            refine WL.r (V.loadPart1 (enc := encD) 17 (i := kk) (j := 4) (by simp only [Int.toNat_natCast]; rfl) rfl hk2 rfl) rfl ?_
            refine WL.gy rfl rfl ?_
            refine WL.v (V.move rfl) rfl ?_
            refine WL.gy rfl rfl ?_
            refine WL.v (V.nei rfl rfl) rfl ?_
            refine WL.v (V.pickF rfl rfl) rfl ?_
            refine WL.v (V.move rfl) rfl ?_
            (refine WL.gcaseN rfl rfl ?_ ?_) <;> intro h_ <;> try (exfalso; omega)
            refine WL.gy rfl rfl ?_
            refine WL.v (V.move rfl) rfl ?_
            refine WL.gy rfl rfl ?_
            refine WL.v (V.move rfl) rfl ?_
            refine WL.gy rfl rfl ?_
            refine WL.v (V.indexSL rfl rfl (by constructor <;> omega)) rfl ?_
            refine WL.gy rfl rfl ?_
            refine WL.v (V.fieldAddr rfl) rfl ?_
            refine WL.gy rfl rfl ?_
            refine WL.r (V.loadPart1 (enc := encD) 17 (i := kk) (j := 2) (by simp only [Int.toNat_natCast]; rfl) rfl hk2 rfl) rfl ?_
            refine WL.gy rfl rfl ?_
            refine WL.v (V.move rfl) rfl ?_
            refine WL.gy rfl rfl ?_
            refine WL.v (V.add rfl rfl (fits_i64 (by omega) (by omega))) rfl ?_
            refine WL.gy rfl rfl ?_
            refine WL.v (V.conv rfl) rfl ?_
            refine WL.gy rfl rfl ?_
            refine WL.v (V.nei rfl rfl) rfl ?_
            refine WL.v (V.pickF rfl rfl) rfl ?_
            refine WL.done ?_
            (refine WS.condN rfl ?_ ?_) <;> intro h_ <;> try (exfalso; omega)
            refine WS.skip ?_
            refine WS.blk ?_
            refine WS.region ?_
            refine WL.v (V.move rfl) rfl ?_
            refine WL.v (V.add rfl rfl (fits_i64 (by omega) (by omega))) rfl ?_
            refine WL.v (V.assign rfl) rfl ?_
            refine WL.done ?_
            refine WS.keep [8, 7, 4, 0, 3] rfl ?_
            refine WS.pick (0 :: 16 :: wk 0) rfl ?_
            exact ih ⟨j + 1, by omega⟩ (by simp only; omega)
        · have hji : j = i := by omega
          subst hji
          clear ih
          skip
          refine WL.callB (k3.Ring 4) (wk 2) rfl rfl rfl ?_
          rintro _ _ ⟨rfl, rfl⟩
          rw [if_pos rfl]
          refine WL.gy rfl rfl ?_
          refine WL.callB k3.RTail (wk 2) rfl rfl rfl ?_
          rintro _ _ ⟨rfl, rfl⟩
          rw [show k3.r.tl = UInt32.ofNat j from hmo.tl]
          have hcv : IntKind.i64.wrap (((UInt32.ofNat j).toNat : Nat) : Int) = (j : Int) := by
            have : (UInt32.ofNat j).toNat = j := by simp; omega
            rw [this]
            exact fits_i64 (by omega) (by omega)
          refine WL.gy rfl rfl ?_
          refine WL.v (V.conv rfl) rfl ?_
          refine WL.gy rfl rfl ?_
          refine WL.v (V.move rfl) rfl ?_
          refine WL.gy rfl rfl ?_
          refine WL.v (V.lenS rfl) rfl ?_
          refine WL.gy rfl rfl ?_
          refine WL.v (V.eqi rfl rfl) rfl ?_
          refine WL.v (V.pickT rfl rfl) rfl ?_
          refine WL.v (V.assign rfl) rfl ?_
          refine WL.done ?_
          rw [hcv]
          skip
          refine WS.pick [0] rfl ?_
          refine WS.ret rfl ?_
          exact ⟨by simp [retV], rfl⟩
end Go.Proofs
