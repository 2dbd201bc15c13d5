/- Part of the proof: W38. -/
import Derived.Test.YtjdjialgjmphjaaGreatW34
import Derived.Test.YtjdjialgjmphjaaGreatP13
set_option linter.all false
set_option maxRecDepth 100000
set_option maxHeartbeats 32000000
namespace Go.Proofs
open Go Go.Sep
attribute [local irreducible] WS WL WH WHT OpV OpR

/-! ## EnterRefuses -/

theorem same_bytes (s1 s2 : SL encY 1) (he : s1.xs = s2.xs) (hb : s1.xs.length ≤ 1000000) :
    Spec Tryz.prog 65 [s1.val, s2.val] [s1.ch 5, s2.ch 5] (fun v A => v = B true ∧ A = [s1.ch 5, s2.ch 5]) := by
  have hlen : s1.xs.length = s2.xs.length := by rw [he]
  refine Spec.of Tryz.func65 rfl Tryz.call65 rfl (fun R => ?_)
  refine WS.seq ?_
  refine WS.region ?_
  refine WL.v (V.assign rfl) rfl ?_
  refine WL.done ?_
  refine WS.seq ?_
  refine WS.seq ?_
  refine WS.region ?_
  refine WL.v (V.move rfl) rfl ?_
  refine WL.v (V.lenSL rfl) rfl ?_
  refine WL.v (V.move rfl) rfl ?_
  refine WL.v (V.lenSL rfl) rfl ?_
  refine WL.v (V.nei rfl rfl) rfl ?_
  refine WL.done ?_
  (refine WS.condN rfl ?_ ?_) <;> intro h_ <;> try (exfalso; omega)
  refine WS.skip ?_
  refine WS.seq ?_
  refine WS.seq ?_
  refine WS.region ?_
  refine WL.v (V.assign rfl) rfl ?_
  refine WL.done ?_
  refine WS.block ?_
  refine WS.keep [5, 0, 1] rfl ?_
  refine WS.loop (ι := {i : Nat // i ≤ s1.xs.length}) (fun i => [(5, I i.1), (0, s1.val), (1, s2.val)]) (fun _ => [s1.ch 5, s2.ch 5]) (fun i => s1.xs.length - i.1)
    ⟨0, by omega⟩ ?_
  rintro ⟨i, hi⟩ X ih
  simp only at ih ⊢
  refine WS.seq ?_
  refine WS.seq ?_
  refine WS.region ?_
  refine WL.v (V.move rfl) rfl ?_
  refine WL.v (V.move rfl) rfl ?_
  refine WL.v (V.lenSL rfl) rfl ?_
  refine WL.v (V.lt rfl rfl) rfl ?_
  refine WL.done ?_
  (refine WS.condD rfl ?_ ?_) <;> intro h_ <;> try (exfalso; omega)
  refine WS.skip ?_
  refine WS.seq ?_
  refine WS.block ?_
  refine WS.seq ?_
  refine WS.regionD [] Tryz.mixed rfl ?_
  refine WH.pick rfl ?_
  refine WHT.v (V.move rfl) rfl rfl rfl rfl ?_
  refine WH.pick rfl ?_
  refine WHT.v (V.move rfl) rfl rfl rfl rfl ?_
  refine WH.pick rfl ?_
  rotate_left
  refine WS.exit rfl ?_
  refine WS.seq ?_
  refine WS.region ?_
  refine WL.v (V.assign rfl) rfl ?_
  refine WL.done ?_
  rotate_left
  · have g1 : s1.xs[i]? = some (s1.xs[i]'(by omega)) := by simp
    have g2 : s2.xs[i]? = some (s1.xs[i]'(by omega)) := by rw [← he]; simp
    generalize s1.xs[i]'(by omega) = y at g1 g2
    refine WHT.v (V.indexSL rfl rfl (by constructor <;> omega)) rfl rfl rfl rfl ?_
    refine WH.pick rfl ?_
    refine WHT.r (V.loadSL1 (enc := encY) 0 (i := i) (by simp only [Int.toNat_natCast]; rfl) rfl g1 rfl) rfl rfl rfl rfl rfl ?_
    refine WH.pick rfl ?_
    refine WHT.v (V.move rfl) rfl rfl rfl rfl ?_
    refine WH.pick rfl ?_
    refine WHT.v (V.move rfl) rfl rfl rfl rfl ?_
    refine WH.pick rfl ?_
    refine WHT.v (V.indexSL rfl rfl (by constructor <;> omega)) rfl rfl rfl rfl ?_
    refine WH.pick rfl ?_
    refine WHT.r (V.loadSL1 (enc := encY) 1 (i := i) (by simp only [Int.toNat_natCast]; rfl) rfl g2 rfl) rfl rfl rfl rfl rfl ?_
    refine WH.pick rfl ?_
    refine WHT.v (V.eqi rfl rfl) rfl rfl rfl rfl ?_
    refine WH.pick rfl ?_
    refine WHT.v (V.assign rfl) rfl rfl rfl rfl ?_
    refine WH.done ?_
    refine WS.seq ?_
    refine WS.region ?_
    refine WL.v (V.move rfl) rfl ?_
    refine WL.v (V.not rfl) rfl ?_
    refine WL.done ?_
    (refine WS.condN rfl ?_ ?_) <;> intro h_ <;> try (exfalso; omega)
    refine WS.skip ?_
    refine WS.blk ?_
    refine WS.region ?_
    refine WL.v (V.move rfl) rfl ?_
    refine WL.v (V.add rfl rfl (fits_i64 (by omega) (by omega))) rfl ?_
    refine WL.v (V.assign rfl) rfl ?_
    refine WL.done ?_
    refine WS.keep [5, 0, 1] rfl ?_
    exact ih ⟨i + 1, by omega⟩ (by simp only; omega)
  · refine WS.ret rfl ?_
    exact ⟨rfl, rfl⟩

theorem KW.MBytes (k : KW) (u : Nat) (hu : 1 ≤ u) (hu2 : u ≤ 64) : Spec Tryz.prog 64 [ptr k.m.mb 0, I u] k.chs (fun v A => ∃ s : SL encY 1, s.xs = k.view.at_ u ∧ v = s.val ∧ A = s.ch 5 :: k.chs) :=
  Spec.lift2 (mem_Bytes k.m u hu hu2) [13, 13, 13] rfl (by
    rintro _ _ ⟨s, h1, rfl, rfl⟩
    exact ⟨[0, 13, 13, 13], s.ch 5 :: k.chs, rfl, s, by rw [h1, k.at_view], rfl, rfl⟩)

/-- four bytes that the law writes out -/
def quad (b : Nat) (x : UInt8) : SL encY 1 := ⟨[x, 0, 0, 0], some b, 4, [], fun h => by simp at h, fun _ => by simp⟩

theorem law_EnterRefuses (t h : UInt32) (b : Int) :
    Spec Tryz.prog 8 [U t, U h, I b] [] (fun v A => v = B true ∧ A = []) := by
  refine Spec.of Tryz.func8 rfl Tryz.call8 rfl (fun R => ?_)
  refine WS.seq ?_
  refine WS.region ?_
  refine WL.v (V.assign rfl) rfl ?_
  refine WL.done ?_
  refine WS.seq ?_
  refine WS.region ?_
  refine WL.callB law_first [] rfl rfl rfl ?_
  rintro _ _ ⟨rfl, rfl⟩
  refine WL.v (V.assign rfl) rfl ?_
  refine WL.done ?_
  refine WS.seq ?_
  refine WS.seq ?_
  refine WS.region ?_
  refine WL.v (V.move rfl) rfl ?_
  refine WL.v (V.not rfl) rfl ?_
  refine WL.done ?_
  refine WS.condF rfl ?_
  refine WS.skip ?_
  refine WS.seq ?_
  refine WS.region ?_
  refine WL.v (V.build rfl rfl rfl) rfl ?_
  refine WL.callB (core_New1 1 2 3 (by omega) (by omega) (by omega) (by omega)) [] rfl rfl rfl ?_
  rintro _ _ ⟨k, hv, hsq, hcq, rfl, rfl⟩
  refine WL.v (V.assign rfl) rfl ?_
  refine WL.done ?_
  refine WS.seq ?_
  refine WS.seq ?_
  refine WS.region ?_
  refine WL.v (V.move rfl) rfl ?_
  refine WL.v (V.eqNilP rfl rfl) rfl ?_
  refine WL.v (V.move rfl) rfl ?_
  refine WL.gy rfl rfl ?_
  refine WL.v (V.move rfl) rfl ?_
  refine WL.gy rfl rfl ?_
  refine WL.callB k.Mem (wk 0) rfl rfl rfl ?_
  rintro _ _ ⟨rfl, rfl⟩
  refine WL.gy rfl rfl ?_
  refine WL.v (V.eqNilP rfl rfl) rfl ?_
  refine WL.v (V.pickF rfl rfl) rfl ?_
  refine WL.v (V.move rfl) rfl ?_
  refine WL.gy rfl rfl ?_
  refine WL.v (V.move rfl) rfl ?_
  refine WL.gy rfl rfl ?_
  refine WL.callB (k.Ring 4) (wk 0) rfl rfl rfl ?_
  rintro _ _ ⟨rfl, rfl⟩
  rw [if_pos rfl]
  refine WL.gy rfl rfl ?_
  refine WL.v (V.eqNilP rfl rfl) rfl ?_
  refine WL.v (V.pickF rfl rfl) rfl ?_
  refine WL.v (V.move rfl) rfl ?_
  refine WL.gy rfl rfl ?_
  refine WL.v (V.move rfl) rfl ?_
  refine WL.gy rfl rfl ?_
  refine WL.callB k.Journal (wk 0) rfl rfl rfl ?_
  rintro _ _ ⟨rfl, rfl⟩
  refine WL.gy rfl rfl ?_
  refine WL.v (V.eqNilP rfl rfl) rfl ?_
  refine WL.v (V.pickF rfl rfl) rfl ?_
  refine WL.done ?_
  refine WS.condF rfl ?_
  refine WS.skip ?_
  refine WS.seq ?_
  refine WS.region ?_
  refine WL.v (V.build rfl rfl rfl) rfl ?_
  refine WL.callB (ref16_Bytes (nopE 3) (nop_ok 3)) [] rfl rfl rfl ?_
  rintro _ _ ⟨s, hs, rfl, rfl⟩
  have hsl : s.xs.length = 32 := by rw [hs]; exact Sqe.bytes_len _
  refine WL.v (V.assign rfl) rfl ?_
  refine WL.done ?_
  refine WS.seq ?_
  refine WS.seq ?_
  refine WS.region ?_
  refine WL.v (V.assign rfl) rfl ?_
  refine WL.done ?_
  refine WS.block ?_
  refine WS.keep [10, 9, 8, 0, 1, 2, 7] rfl ?_
  refine WS.loop (ι := {p : Nat × KW // p.1 ≤ 4 ∧ p.2.x = k.x ∧ Rf p.2.view p.1 0 0}) (fun p => [(10, I p.1.1), (9, s.val), (8, k.p), (0, U t), (1, U h), (2, I b), (7, B true)]) (fun p => p.1.2.chs ++ [s.ch 5]) (fun p => 4 - p.1.1)
    ⟨(0, k), by omega, rfl, by rw [hv]; exact Rf.zero⟩ ?_
  rintro ⟨⟨i, k1⟩, hi, hx1, hrf⟩ X ih
  simp only at ih hi hx1 hrf ⊢
  rw [show k.p = k1.p from by rw [KW.p, KW.p, hx1]]
  refine WS.seq ?_
  refine WS.seq ?_
  refine WS.region ?_
  refine WL.v (V.move rfl) rfl ?_
  refine WL.v (V.lt rfl rfl) rfl ?_
  refine WL.done ?_
  (refine WS.condD rfl ?_ ?_) <;> intro h_ <;> try (exfalso; omega)
  refine WS.skip ?_
  refine WS.seq ?_
  refine WS.block ?_
  refine WS.region ?_
  refine WL.v (V.move rfl) rfl ?_
  rotate_left
  refine WS.exit rfl ?_
  refine WS.seq ?_
  rotate_left
  · refine WL.callB k1.Mem (wk 0) rfl rfl rfl ?_
    rintro _ _ ⟨rfl, rfl⟩
    refine WL.v (V.move rfl) rfl ?_
    refine WL.v (V.mul rfl rfl (fits_i64 (by omega) (by omega))) rfl ?_
    refine WL.v (V.add rfl rfl (fits_i64 (by omega) (by omega))) rfl ?_
    refine WL.v (V.move rfl) rfl ?_
    rw [show (16 : Int) + 32 * (i : Int) = ((16 + 32 * i : Nat) : Int) from by omega]
    have hstep := hrf.step (by omega)
    refine WL.callB (k1.Write 5 (16 + 32 * i) s (by omega) (by omega) (by omega) (by omega) (by omega)) (wk 1 ++ [0]) rfl rfl rfl ?_
    rintro _ _ ⟨k2, hx2, hv2, rfl, rfl⟩
    rw [show k1.p = k2.p from by rw [KW.p, KW.p, hx2]]
    refine WL.done ?_
    refine WS.blk ?_
    refine WS.region ?_
    refine WL.v (V.move rfl) rfl ?_
    refine WL.v (V.add rfl rfl (fits_i64 (by omega) (by omega))) rfl ?_
    refine WL.v (V.assign rfl) rfl ?_
    refine WL.done ?_
    refine WS.keep [10, 9, 8, 0, 1, 2, 7] rfl ?_
    rw [show k2.p = k.p from by rw [KW.p, KW.p, hx2, hx1]]
    exact ih ⟨(i + 1, k2), by simp only; omega, hx2.trans hx1, by simp only; rw [hv2, hs]; exact hstep⟩ (by simp only; omega)
  · have hi4 : i = 4 := by omega
    subst hi4
    clear ih
    have hrf2 := hrf.tail t
    refine WS.keep [8, 0, 1, 2, 7] rfl ?_
    refine WS.pick (wk 0) rfl ?_
    refine WS.regionM (X := {k' : KW // k'.x = k.x ∧ k'.view = k1.view.wr 5 4 (le4 t)}) (fun q => [(8, q.1.p), (0, U t), (1, U h), (2, I b), (7, B true)]) (fun q => q.1.chs) [] Tryz.mixed rfl ?_ ?_
    · refine WH.pick rfl ?_
      refine WHT.v (V.move rfl) rfl rfl rfl rfl ?_
      refine WH.pick rfl ?_
      refine WHT.v (V.move rfl) rfl rfl rfl rfl ?_
      (refine WH.two rfl rfl rfl rfl rfl ?_ ?_) <;> intro _ _
      rotate_left
      rotate_left
      · refine WL.callB k1.Mem (wk 0) rfl rfl rfl ?_
        rintro _ _ ⟨rfl, rfl⟩
        refine WL.nextH (ok := by assumption) (hns := by assumption) (by simp) ?_
        refine WH.big rfl rfl rfl ?_; intro _ _
        refine WL.makeSliceC (l := 4) (m := 4) rfl rfl (by omega) rfl (by omega) (by omega) rfl ?_
        intro zb
        refine WL.nextH (ok := by assumption) (hns := by assumption) (by simp) ?_
        refine WH.big rfl rfl rfl ?_; intro _ _
        refine WL.perm (pre' := [(zero4 zb).ch 5] ++ k1.chs) (List.Perm.refl _) ?_
        rw [show Value.slice (some ⟨zb, 0, none⟩) 4 4 = (zero4 zb).val from rfl]
        refine WL.callB (ref1_Put32 (zero4 zb) 0 t (by show 0 + 4 ≤ 4; omega) (by show 4 ≤ 1000000; omega)) [0] rfl rfl rfl ?_
        rintro _ _ ⟨q, hq, rfl, rfl⟩
        have hq4 : q.xs = le4 t := hq
        have hql : q.xs.length = 4 := by rw [hq4, le4_len]
        refine WL.nextH (ok := by assumption) (hns := by assumption) (by simp) ?_
        refine WH.big rfl rfl rfl ?_; intro _ _
        refine WL.callB (k1.Write 5 4 q (by omega) (by omega) (by omega) (by omega) (by omega)) (wk 0 ++ [0]) rfl rfl rfl ?_
        rintro _ _ ⟨kn, hxn, hvn, rfl, rfl⟩
        rw [show k1.p = kn.p from by rw [KW.p, KW.p, hxn]]
        refine WL.nextH (ok := by assumption) (hns := by assumption) (by simp) ?_
        exact WH.doneM ⟨kn, hxn.trans hx1, by rw [hvn, hq4]⟩ (subEnv_restr [8, 0, 1, 2, 7] rfl rfl) (wk 1) rfl
      · refine WL.makeSliceC (l := 4) (m := 4) rfl rfl (by omega) rfl (by omega) (by omega) rfl ?_
        intro zb
        refine WL.nextH (ok := by assumption) (hns := by assumption) (by simp) ?_
        refine WH.big rfl rfl rfl ?_; intro _ _
        refine WL.callB k1.Mem (wk 1) rfl rfl rfl ?_
        rintro _ _ ⟨rfl, rfl⟩
        refine WL.nextH (ok := by assumption) (hns := by assumption) (by simp) ?_
        refine WH.big rfl rfl rfl ?_; intro _ _
        refine WL.perm (pre' := [(zero4 zb).ch 5] ++ k1.chs) (List.Perm.refl _) ?_
        rw [show Value.slice (some ⟨zb, 0, none⟩) 4 4 = (zero4 zb).val from rfl]
        refine WL.callB (ref1_Put32 (zero4 zb) 0 t (by show 0 + 4 ≤ 4; omega) (by show 4 ≤ 1000000; omega)) [0] rfl rfl rfl ?_
        rintro _ _ ⟨q, hq, rfl, rfl⟩
        have hq4 : q.xs = le4 t := hq
        have hql : q.xs.length = 4 := by rw [hq4, le4_len]
        refine WL.nextH (ok := by assumption) (hns := by assumption) (by simp) ?_
        refine WH.big rfl rfl rfl ?_; intro _ _
        refine WL.callB (k1.Write 5 4 q (by omega) (by omega) (by omega) (by omega) (by omega)) (wk 0 ++ [0]) rfl rfl rfl ?_
        rintro _ _ ⟨kn, hxn, hvn, rfl, rfl⟩
        rw [show k1.p = kn.p from by rw [KW.p, KW.p, hxn]]
        refine WL.nextH (ok := by assumption) (hns := by assumption) (by simp) ?_
        exact WH.doneM ⟨kn, hxn.trans hx1, by rw [hvn, hq4]⟩ (subEnv_restr [8, 0, 1, 2, 7] rfl rfl) (wk 1) rfl
    rintro ⟨k2, hx2, hv2⟩
    rw [← hv2] at hrf2
    have hrf3 := hrf2.head h
    refine WS.seq ?_
    refine WS.regionM (X := {k' : KW // k'.x = k.x ∧ k'.view = k2.view.wr 6 0 (le4 h)}) (fun q => [(8, q.1.p), (0, U t), (1, U h), (2, I b), (7, B true)]) (fun q => q.1.chs) [] Tryz.mixed rfl ?_ ?_
    · refine WH.pick rfl ?_
      refine WHT.v (V.move rfl) rfl rfl rfl rfl ?_
      refine WH.pick rfl ?_
      refine WHT.v (V.move rfl) rfl rfl rfl rfl ?_
      (refine WH.two rfl rfl rfl rfl rfl ?_ ?_) <;> intro _ _
      rotate_left
      rotate_left
      · refine WL.callB k2.Mem (wk 0) rfl rfl rfl ?_
        rintro _ _ ⟨rfl, rfl⟩
        refine WL.nextH (ok := by assumption) (hns := by assumption) (by simp) ?_
        refine WH.big rfl rfl rfl ?_; intro _ _
        refine WL.makeSliceC (l := 4) (m := 4) rfl rfl (by omega) rfl (by omega) (by omega) rfl ?_
        intro zb
        refine WL.nextH (ok := by assumption) (hns := by assumption) (by simp) ?_
        refine WH.big rfl rfl rfl ?_; intro _ _
        refine WL.perm (pre' := [(zero4 zb).ch 5] ++ k2.chs) (List.Perm.refl _) ?_
        rw [show Value.slice (some ⟨zb, 0, none⟩) 4 4 = (zero4 zb).val from rfl]
        refine WL.callB (ref1_Put32 (zero4 zb) 0 h (by show 0 + 4 ≤ 4; omega) (by show 4 ≤ 1000000; omega)) [0] rfl rfl rfl ?_
        rintro _ _ ⟨q, hq, rfl, rfl⟩
        have hq4 : q.xs = le4 h := hq
        have hql : q.xs.length = 4 := by rw [hq4, le4_len]
        refine WL.nextH (ok := by assumption) (hns := by assumption) (by simp) ?_
        refine WH.big rfl rfl rfl ?_; intro _ _
        refine WL.callB (k2.Write 6 0 q (by omega) (by omega) (by omega) (by omega) (by omega)) (wk 0 ++ [0]) rfl rfl rfl ?_
        rintro _ _ ⟨kn, hxn, hvn, rfl, rfl⟩
        rw [show k2.p = kn.p from by rw [KW.p, KW.p, hxn]]
        refine WL.nextH (ok := by assumption) (hns := by assumption) (by simp) ?_
        exact WH.doneM ⟨kn, hxn.trans hx2, by rw [hvn, hq4]⟩ (subEnv_restr [8, 0, 1, 2, 7] rfl rfl) (wk 1) rfl
      · refine WL.makeSliceC (l := 4) (m := 4) rfl rfl (by omega) rfl (by omega) (by omega) rfl ?_
        intro zb
        refine WL.nextH (ok := by assumption) (hns := by assumption) (by simp) ?_
        refine WH.big rfl rfl rfl ?_; intro _ _
        refine WL.callB k2.Mem (wk 1) rfl rfl rfl ?_
        rintro _ _ ⟨rfl, rfl⟩
        refine WL.nextH (ok := by assumption) (hns := by assumption) (by simp) ?_
        refine WH.big rfl rfl rfl ?_; intro _ _
        refine WL.perm (pre' := [(zero4 zb).ch 5] ++ k2.chs) (List.Perm.refl _) ?_
        rw [show Value.slice (some ⟨zb, 0, none⟩) 4 4 = (zero4 zb).val from rfl]
        refine WL.callB (ref1_Put32 (zero4 zb) 0 h (by show 0 + 4 ≤ 4; omega) (by show 4 ≤ 1000000; omega)) [0] rfl rfl rfl ?_
        rintro _ _ ⟨q, hq, rfl, rfl⟩
        have hq4 : q.xs = le4 h := hq
        have hql : q.xs.length = 4 := by rw [hq4, le4_len]
        refine WL.nextH (ok := by assumption) (hns := by assumption) (by simp) ?_
        refine WH.big rfl rfl rfl ?_; intro _ _
        refine WL.callB (k2.Write 6 0 q (by omega) (by omega) (by omega) (by omega) (by omega)) (wk 0 ++ [0]) rfl rfl rfl ?_
        rintro _ _ ⟨kn, hxn, hvn, rfl, rfl⟩
        rw [show k2.p = kn.p from by rw [KW.p, KW.p, hxn]]
        refine WL.nextH (ok := by assumption) (hns := by assumption) (by simp) ?_
        exact WH.doneM ⟨kn, hxn.trans hx2, by rw [hvn, hq4]⟩ (subEnv_restr [8, 0, 1, 2, 7] rfl rfl) (wk 1) rfl
    rintro ⟨k3, hx3, hv3⟩
    rw [← hv3] at hrf3
    refine WS.seq ?_
    refine WS.region ?_
    refine WL.v (V.move rfl) rfl ?_
    refine WL.callB k3.Mem (wk 0) rfl rfl rfl ?_
    rintro _ _ ⟨rfl, rfl⟩
    skip
    refine WL.callB (k3.MBytes 5 (by omega) (by omega)) (wk 0) rfl rfl rfl ?_
    rintro _ _ ⟨s5, hs5, rfl, rfl⟩
    refine WL.v (V.assign rfl) rfl ?_
    refine WL.done ?_
    refine WS.seq ?_
    refine WS.region ?_
    refine WL.v (V.move rfl) rfl ?_
    refine WL.callB k3.Mem (wk 1) rfl rfl rfl ?_
    rintro _ _ ⟨rfl, rfl⟩
    skip
    refine WL.callB (k3.MBytes 6 (by omega) (by omega)) (wk 1) rfl rfl rfl ?_
    rintro _ _ ⟨s6, hs6, rfl, rfl⟩
    refine WL.v (V.assign rfl) rfl ?_
    refine WL.done ?_
    refine WS.seq ?_
    refine WS.region ?_
    refine WL.v (V.move rfl) rfl ?_
    refine WL.v (V.move rfl) rfl ?_
    have hsub : IntKind.u32.wrap (0 - (h.toNat : Int)) = (((0 - h).toNat : Nat) : Int) := by
      rw [wrap_u32, UInt32.toNat_sub]
      have := h.toNat_lt
      simp
      omega
    have ht32 := t.toNat_lt
    have hh32 := (0 - h).toNat_lt
    have hcv : ∀ x : UInt32, IntKind.i64.wrap ((x.toNat : Nat) : Int) = ((x.toNat : Nat) : Int) := fun x => fits_i64 (by omega) (by have := x.toNat_lt; omega)
    by_cases hval : t.toNat ≤ 4 ∧ (0 - h).toNat ≤ 8
    · have hin : EIn k3.x.sqb k3.x.cqb b k3.view t.toNat (8 - (0 - h).toNat) := by rw [hx3, hsq, hcq]; exact hrf3.in' hval.1 hval.2 b
      refine WL.callB (k3.EnterE b _ _ hin) (wk 2) rfl rfl rfl ?_
      rintro _ _ ⟨k4, hx4, hv4, rfl, rfl⟩
      rw [show k3.p = k4.p from by rw [KW.p, KW.p, hx4]]
      obtain ⟨hdl, hout⟩ := hin.out _ rfl
      rw [← hv4] at hout
      have hm : ((min t.toNat (bud b) : Nat) : Int) = min (t.toNat : Int) (max (min b 64) 0) := by unfold bud; omega
      have hm4 : min t.toNat (bud b) ≤ 4 := by omega
      rw [hx3, hsq, hcq] at hout
      rw [hx3, hsq] at hdl
      have hro := hrf3.out hdl hout
      clear hv4 hout hdl hin
      generalize min t.toNat (bud b) = m at hm hm4 hro
      have hct := hcv t
      have hch := hcv (0 - h)
      have hjl : k4.j.xs.length = m := hro.jl
      have hov : k4.r.over.xs.length = m - (8 - (0 - h).toNat) := hro.over
      have htl : IntKind.i64.wrap (((UInt32.ofNat (min (8 - (0 - h).toNat) m)).toNat : Nat) : Int) = ((min (8 - (0 - h).toNat) m : Nat) : Int) := by
        rw [UInt32.toNat_ofNat', Nat.mod_eq_of_lt (by omega)]
        exact fits_i64 (by omega) (by omega)
      refine WL.v (V.assign rfl) rfl ?_
      refine WL.done ?_
      refine WS.seq ?_
      refine WS.seq ?_
      refine WS.region ?_
      refine WL.v (V.move rfl) rfl ?_
      refine WL.v (V.gt rfl rfl) rfl ?_
      refine WL.v (V.move rfl) rfl ?_
      (refine WL.gcaseD rfl rfl ?_ ?_) <;> intro h_ <;> try (exfalso; omega)
      refine WL.gy rfl rfl ?_
      refine WL.v (V.move rfl) rfl ?_
      refine WL.gy rfl rfl ?_
      refine WL.v (V.subw rfl rfl) rfl ?_
      rw [hsub]
      refine WL.gy rfl rfl ?_
      refine WL.v (V.gt rfl rfl) rfl ?_
      refine WL.v (V.pickF rfl rfl) rfl ?_
      refine WL.done ?_
      (refine WS.condD rfl ?_ ?_) <;> intro h_ <;> try (exfalso; omega)
      refine WS.skip ?_
      refine WS.seq ?_
      refine WS.region ?_
      refine WL.v (V.move rfl) rfl ?_
      refine WL.v (V.conv rfl) rfl ?_
      refine WL.v (V.move rfl) rfl ?_
      refine WL.v (V.min2 rfl rfl) rfl ?_
      refine WL.v (V.max2 rfl rfl) rfl ?_
      refine WL.v (V.min2 rfl rfl) rfl ?_
      refine WL.v (V.assign rfl) rfl ?_
      refine WL.done ?_
      refine WS.seq ?_
      refine WS.region ?_
      refine WL.v (V.move rfl) rfl ?_
      refine WL.v (V.subw rfl rfl) rfl ?_
      rw [hsub]
      refine WL.v (V.conv rfl) rfl ?_
      refine WL.v (V.sub rfl rfl (fits_i64 (by omega) (by omega))) rfl ?_
      refine WL.v (V.assign rfl) rfl ?_
      refine WL.done ?_
      refine WS.seq ?_
      refine WS.region ?_
      refine WL.v (V.move rfl) rfl ?_
      refine WL.v (V.move rfl) rfl ?_
      refine WL.gy rfl rfl ?_
      refine WL.v (V.move rfl) rfl ?_
      refine WL.gy rfl rfl ?_
      refine WL.v (V.move rfl) rfl ?_
      refine WL.gy rfl rfl ?_
      refine WL.v (V.eqi rfl rfl) rfl ?_
      refine WL.v (V.pickT rfl rfl) rfl ?_
      refine WL.v (V.move rfl) rfl ?_
      (refine WL.gcaseD rfl rfl ?_ ?_) <;> intro h_ <;> try (exfalso; omega)
      refine WL.gy rfl rfl ?_
      refine WL.v (V.move rfl) rfl ?_
      refine WL.gy rfl rfl ?_
      refine WL.callB k4.Taken (wk 2) rfl rfl rfl ?_
      rintro _ _ ⟨rfl, rfl⟩
      rw [show k4.taken = m from hro.taken]
      refine WL.gy rfl rfl ?_
      refine WL.v (V.move rfl) rfl ?_
      refine WL.gy rfl rfl ?_
      refine WL.v (V.eqi rfl rfl) rfl ?_
      refine WL.v (V.pickT rfl rfl) rfl ?_
      refine WL.v (V.move rfl) rfl ?_
      (refine WL.gcaseD rfl rfl ?_ ?_) <;> intro h_ <;> try (exfalso; omega)
      refine WL.gy rfl rfl ?_
      refine WL.v (V.move rfl) rfl ?_
      refine WL.gy rfl rfl ?_
      refine WL.callB k4.Journal (wk 2) rfl rfl rfl ?_
      rintro _ _ ⟨rfl, rfl⟩
      refine WL.gy rfl rfl ?_
      refine WL.callB (k4.JAll (by omega)) (wk 2) rfl rfl rfl ?_
      rintro _ _ ⟨s7, hs7, rfl, rfl⟩
      have hs7l : s7.xs.length = m := by rw [hs7]; exact hjl
      refine WL.gy rfl rfl ?_
      refine WL.v (V.lenSL rfl) rfl ?_
      refine WL.gy rfl rfl ?_
      refine WL.v (V.move rfl) rfl ?_
      refine WL.gy rfl rfl ?_
      refine WL.v (V.eqi rfl rfl) rfl ?_
      refine WL.v (V.pickT rfl rfl) rfl ?_
      refine WL.v (V.move rfl) rfl ?_
      (refine WL.gcaseD rfl rfl ?_ ?_) <;> intro h_ <;> try (exfalso; omega)
      refine WL.gy rfl rfl ?_
      refine WL.v (V.move rfl) rfl ?_
      refine WL.gy rfl rfl ?_
      refine WL.callB (k4.Ring 4) (wk 3) rfl rfl rfl ?_
      rintro _ _ ⟨rfl, rfl⟩
      rw [if_pos rfl]
      refine WL.gy rfl rfl ?_
      refine WL.callB k4.RTail (wk 3) rfl rfl rfl ?_
      rintro _ _ ⟨rfl, rfl⟩
      rw [show k4.r.tl = UInt32.ofNat (min (8 - (0 - h).toNat) m) from hro.tl]
      refine WL.gy rfl rfl ?_
      refine WL.v (V.conv rfl) rfl ?_
      refine WL.gy rfl rfl ?_
      refine WL.v (V.move rfl) rfl ?_
      refine WL.gy rfl rfl ?_
      refine WL.v (V.move rfl) rfl ?_
      refine WL.gy rfl rfl ?_
      refine WL.v (V.min2 rfl rfl) rfl ?_
      refine WL.gy rfl rfl ?_
      refine WL.v (V.eqi rfl rfl) rfl ?_
      refine WL.v (V.pickT rfl rfl) rfl ?_
      refine WL.v (V.move rfl) rfl ?_
      (refine WL.gcaseD rfl rfl ?_ ?_) <;> intro h_ <;> try (exfalso; omega)
      refine WL.gy rfl rfl ?_
      refine WL.v (V.move rfl) rfl ?_
      refine WL.gy rfl rfl ?_
      refine WL.callB (k4.Ring 4) (wk 3) rfl rfl rfl ?_
      rintro _ _ ⟨rfl, rfl⟩
      rw [if_pos rfl]
      refine WL.gy rfl rfl ?_
      refine WL.callB (k4.ROver (by omega)) (wk 3) rfl rfl rfl ?_
      rintro _ _ ⟨s8, hs8, rfl, rfl⟩
      have hs8l : s8.xs.length = m - (8 - (0 - h).toNat) := by rw [hs8]; exact hov
      refine WL.gy rfl rfl ?_
      refine WL.v (V.lenSL rfl) rfl ?_
      refine WL.gy rfl rfl ?_
      refine WL.v (V.move rfl) rfl ?_
      refine WL.gy rfl rfl ?_
      refine WL.v (V.move rfl) rfl ?_
      refine WL.gy rfl rfl ?_
      refine WL.v (V.move rfl) rfl ?_
      refine WL.gy rfl rfl ?_
      refine WL.v (V.min2 rfl rfl) rfl ?_
      refine WL.gy rfl rfl ?_
      refine WL.v (V.sub rfl rfl (fits_i64 (by omega) (by omega))) rfl ?_
      refine WL.gy rfl rfl ?_
      refine WL.v (V.eqi rfl rfl) rfl ?_
      refine WL.v (V.pickT rfl rfl) rfl ?_
      refine WL.v (V.assign rfl) rfl ?_
      refine WL.done ?_
      refine WS.pick [] rfl ?_
      refine WS.ret rfl ?_
      refine ⟨?_, rfl⟩
      simp only [retV]
      rw [decide_eq_true (by omega)]
    · have hvw : k3.view.enter k3.x.sqb k3.x.cqb b = (k3.view, -14) := by rw [hx3, hsq, hcq]; exact hrf3.enterNo hval b
      have hl5 : s5.xs.length = 512 := by rw [hs5]; exact hrf3.wf.at_len 5 (by omega) (by omega)
      have hl6 : s6.xs.length = 512 := by rw [hs6]; exact hrf3.wf.at_len 6 (by omega) (by omega)
      refine WL.callB (KW.Enter k3 b hrf3.over (by rw [hrf3.L]; simp) (by rw [hrf3.L]; simp) (by rw [show k3.taken = 0 from hrf3.taken]; omega) (by rw [hrf3.J]; simp) ?_ ?_) (wk 2) rfl rfl rfl ?_
      · intro i hi _
        have hi4 : i < 4 := by
          unfold AS.takeN at hi
          rw [hx3, hsq, hrf3.waiting] at hi
          by_cases ht4 : t.toNat ≤ 4
          · rw [if_pos ht4] at hi; simp only [Option.getD_some] at hi; omega
          · rw [if_neg ht4] at hi; simp only [Option.getD_none] at hi; omega
        rw [hx3, hsq, (entOf_bytes (nopE 3) _ (nop_ok _) (hrf3.raw2 i hi4)).2.2]
        exact nop_dead _
      · intro h1 h2
        exfalso
        rw [hx3, hsq, hrf3.waiting] at h1
        rw [hx3, hcq, hrf3.room] at h2
        apply hval
        constructor
        · by_cases ht4 : t.toNat ≤ 4
          · exact ht4
          · rw [if_neg ht4] at h1; simp at h1
        · by_cases hh8 : (0 - h).toNat ≤ 8
          · exact hh8
          · rw [if_neg hh8] at h2; simp at h2
      rintro _ _ ⟨k4, hx4, hv4, rfl, rfl⟩
      rw [show k3.p = k4.p from by rw [KW.p, KW.p, hx4]]
      rw [hvw] at hv4 ⊢
      simp only at hv4 ⊢
      have hjl : k4.j.xs.length = 0 := by
        have : k4.view.J = [] := by rw [hv4]; exact hrf3.J
        show k4.view.J.length = 0
        rw [this]; rfl
      have htk : k4.taken = 0 := by
        show k4.view.taken = 0
        rw [hv4]; exact hrf3.taken
      by_cases ht4 : t.toNat ≤ 4
      · have hh8 : ¬ (0 - h).toNat ≤ 8 := fun e => hval ⟨ht4, e⟩
        refine WL.v (V.assign rfl) rfl ?_
        refine WL.done ?_
        refine WS.seq ?_
        refine WS.seq ?_
        refine WS.region ?_
        refine WL.v (V.move rfl) rfl ?_
        refine WL.v (V.gt rfl rfl) rfl ?_
        refine WL.v (V.move rfl) rfl ?_
        (refine WL.gcaseD rfl rfl ?_ ?_) <;> intro h_ <;> try (exfalso; omega)
        refine WL.gy rfl rfl ?_
        refine WL.v (V.move rfl) rfl ?_
        refine WL.gy rfl rfl ?_
        refine WL.v (V.subw rfl rfl) rfl ?_
        rw [hsub]
        refine WL.gy rfl rfl ?_
        refine WL.v (V.gt rfl rfl) rfl ?_
        refine WL.v (V.pickF rfl rfl) rfl ?_
        refine WL.done ?_
        (refine WS.condD rfl ?_ ?_) <;> intro h_ <;> try (exfalso; omega)
        refine WS.seq ?_
        refine WS.seq ?_
        refine WS.region ?_
        refine WL.v (V.move rfl) rfl ?_
        refine WL.v (V.nei rfl rfl) rfl ?_
        refine WL.v (V.move rfl) rfl ?_
        refine WL.gy rfl rfl ?_
        refine WL.v (V.move rfl) rfl ?_
        refine WL.gy rfl rfl ?_
        refine WL.v (V.move rfl) rfl ?_
        refine WL.gy rfl rfl ?_
        refine WL.callB k4.Mem (wk 2) rfl rfl rfl ?_
        rintro _ _ ⟨rfl, rfl⟩
        refine WL.gy rfl rfl ?_
        refine WL.callB (k4.MBytes 5 (by omega) (by omega)) (wk 2) rfl rfl rfl ?_
        rintro _ _ ⟨p5, hp5, rfl, rfl⟩
        refine WL.gy rfl rfl ?_
        refine WL.callB (same_bytes s5 p5 (by rw [hs5, hp5, hv4]) (by omega)) [0, 1] rfl rfl rfl ?_
        rintro _ _ ⟨rfl, rfl⟩
        refine WL.gy rfl rfl ?_
        refine WL.v (V.not rfl) rfl ?_
        refine WL.v (V.pickF rfl rfl) rfl ?_
        refine WL.v (V.move rfl) rfl ?_
        refine WL.gy rfl rfl ?_
        refine WL.v (V.move rfl) rfl ?_
        refine WL.gy rfl rfl ?_
        refine WL.v (V.move rfl) rfl ?_
        refine WL.gy rfl rfl ?_
        refine WL.callB k4.Mem (wk 1) rfl rfl rfl ?_
        rintro _ _ ⟨rfl, rfl⟩
        refine WL.gy rfl rfl ?_
        refine WL.callB (k4.MBytes 6 (by omega) (by omega)) (wk 3) rfl rfl rfl ?_
        rintro _ _ ⟨p6, hp6, rfl, rfl⟩
        refine WL.gy rfl rfl ?_
        refine WL.callB (same_bytes s6 p6 (by rw [hs6, hp6, hv4]) (by omega)) [0, 2] rfl rfl rfl ?_
        rintro _ _ ⟨rfl, rfl⟩
        refine WL.gy rfl rfl ?_
        refine WL.v (V.not rfl) rfl ?_
        refine WL.v (V.pickF rfl rfl) rfl ?_
        refine WL.v (V.move rfl) rfl ?_
        refine WL.gy rfl rfl ?_
        refine WL.v (V.move rfl) rfl ?_
        refine WL.gy rfl rfl ?_
        refine WL.callB k4.Journal (wk 2) rfl rfl rfl ?_
        rintro _ _ ⟨rfl, rfl⟩
        refine WL.gy rfl rfl ?_
        refine WL.callB (k4.JAll (by omega)) (wk 4) rfl rfl rfl ?_
        rintro _ _ ⟨s7, hs7, rfl, rfl⟩
        have hs7l : s7.xs.length = 0 := by rw [hs7]; exact hjl
        refine WL.gy rfl rfl ?_
        refine WL.v (V.lenSL rfl) rfl ?_
        refine WL.gy rfl rfl ?_
        refine WL.v (V.nei rfl rfl) rfl ?_
        refine WL.v (V.pickF rfl rfl) rfl ?_
        refine WL.v (V.move rfl) rfl ?_
        (refine WL.gcaseN rfl rfl ?_ ?_) <;> intro h_ <;> try (exfalso; omega)
        refine WL.gy rfl rfl ?_
        refine WL.v (V.move rfl) rfl ?_
        refine WL.gy rfl rfl ?_
        refine WL.callB k4.Taken (wk 5) rfl rfl rfl ?_
        rintro _ _ ⟨rfl, rfl⟩
        rw [htk]
        refine WL.gy rfl rfl ?_
        refine WL.v (V.nei rfl rfl) rfl ?_
        refine WL.v (V.pickF rfl rfl) rfl ?_
        refine WL.done ?_
        refine WS.condF rfl ?_
        refine WS.skip ?_
        refine WS.seq ?_
        refine WS.region ?_
        refine WL.v (V.move rfl) rfl ?_
        refine WL.callB k4.Mem (wk 5) rfl rfl rfl ?_
        rintro _ _ ⟨rfl, rfl⟩
        skip
        refine WL.sliceK (m := 1) (len := 4) rfl rfl (by omega) (by omega) rfl rfl rfl ?_
        intro lb
        skip
        refine WL.perm (pre' := [(quad lb 2).ch 5, s5.ch 5, p5.ch 5, s6.ch 5, p6.ch 5, s7.ch 73] ++ k4.chs) (List.Perm.refl _) ?_
        rw [show Value.slice (some ⟨lb, 0, none⟩) 4 4 = (quad lb 2).val from rfl]
        refine WL.callB (k4.Write 5 4 (quad lb 2) (by omega) (by omega) (by omega) (by show 0 < 4; omega) (by show 4 + 4 ≤ 512; omega)) (wk 6 ++ [0]) rfl rfl rfl ?_
        rintro _ _ ⟨k5, hx5, hv5, rfl, rfl⟩
        rw [show k4.p = k5.p from by rw [KW.p, KW.p, hx5]]
        refine WL.done ?_
        refine WS.seq ?_
        refine WS.region ?_
        refine WL.v (V.move rfl) rfl ?_
        refine WL.callB k5.Mem (wk 5) rfl rfl rfl ?_
        rintro _ _ ⟨rfl, rfl⟩
        skip
        refine WL.sliceK (m := 1) (len := 4) rfl rfl (by omega) (by omega) rfl rfl rfl ?_
        intro lc
        skip
        refine WL.perm (pre' := [(quad lc 0).ch 5, s5.ch 5, p5.ch 5, s6.ch 5, p6.ch 5, s7.ch 73, (quad lb 2).ch 5] ++ k5.chs) (List.Perm.refl _) ?_
        rw [show Value.slice (some ⟨lc, 0, none⟩) 4 4 = (quad lc 0).val from rfl]
        refine WL.callB (k5.Write 6 0 (quad lc 0) (by omega) (by omega) (by omega) (by show 0 < 4; omega) (by show 0 + 4 ≤ 512; omega)) (wk 7 ++ [0]) rfl rfl rfl ?_
        rintro _ _ ⟨k6, hx6, hv6, rfl, rfl⟩
        rw [show k5.p = k6.p from by rw [KW.p, KW.p, hx6]]
        have hrf6 : Rf k6.view 4 2 0 := by
          rw [hv6, hv5, hv4]
          exact (hrf3.tail 2).head 0
        have hin6 : EIn k6.x.sqb k6.x.cqb 9 k6.view (2 : UInt32).toNat (8 - ((0 : UInt32) - 0).toNat) := by
          rw [hx6, hx5, hx4, hx3, hsq, hcq]; exact hrf6.in' (by decide) (by decide) 9
        refine WL.done ?_
        refine WS.seq ?_
        refine WS.region ?_
        refine WL.v (V.move rfl) rfl ?_
        refine WL.v (V.move rfl) rfl ?_
        refine WL.gy rfl rfl ?_
        refine WL.v (V.move rfl) rfl ?_
        refine WL.gy rfl rfl ?_
        refine WL.callB (k6.EnterE 9 _ _ hin6) (wk 6) rfl rfl rfl ?_
        rintro _ _ ⟨k7, hx7, hv7, rfl, rfl⟩
        rw [show k6.p = k7.p from by rw [KW.p, KW.p, hx7]]
        obtain ⟨hdl, hout⟩ := hin6.out _ rfl
        rw [← hv7] at hout
        have hm2 : min (2 : UInt32).toNat (bud 9) = 2 := by decide
        rw [hm2] at hdl hout ⊢
        rw [hx6, hx5, hx4, hx3, hsq, hcq] at hout
        rw [hx6, hx5, hx4, hx3, hsq] at hdl
        have hro := hrf6.out hdl hout
        clear hv7 hout hdl hin6
        refine WL.gy rfl rfl ?_
        refine WL.v (V.eqi rfl rfl) rfl ?_
        refine WL.v (V.pickT rfl rfl) rfl ?_
        refine WL.v (V.move rfl) rfl ?_
        refine WL.gy rfl rfl ?_
        refine WL.v (V.move rfl) rfl ?_
        refine WL.gy rfl rfl ?_
        refine WL.callB (k7.Ring 4) (wk 7) rfl rfl rfl ?_
        rintro _ _ ⟨rfl, rfl⟩
        rw [if_pos rfl]
        refine WL.gy rfl rfl ?_
        refine WL.callB k7.RTail (wk 7) rfl rfl rfl ?_
        rintro _ _ ⟨rfl, rfl⟩
        rw [show k7.r.tl = 2 from hro.tl]
        refine WL.gy rfl rfl ?_
        refine WL.v (V.eqi rfl rfl) rfl ?_
        refine WL.v (V.pickT rfl rfl) rfl ?_
        refine WL.v (V.assign rfl) rfl ?_
        refine WL.done ?_
        refine WS.pick [] rfl ?_
        refine WS.ret rfl ?_
        exact ⟨rfl, rfl⟩
      · skip
        refine WL.v (V.assign rfl) rfl ?_
        refine WL.done ?_
        refine WS.seq ?_
        refine WS.seq ?_
        refine WS.region ?_
        refine WL.v (V.move rfl) rfl ?_
        refine WL.v (V.gt rfl rfl) rfl ?_
        refine WL.v (V.move rfl) rfl ?_
        (refine WL.gcaseD rfl rfl ?_ ?_) <;> intro h_ <;> try (exfalso; omega)
        refine WL.gn2 rfl rfl rfl rfl ?_
        refine WL.gn2 rfl rfl rfl rfl ?_
        refine WL.gn2 rfl rfl rfl rfl ?_
        refine WL.v (V.pickT rfl rfl) rfl ?_
        refine WL.done ?_
        refine WS.condT rfl ?_
        refine WS.seq ?_
        refine WS.seq ?_
        refine WS.region ?_
        refine WL.v (V.move rfl) rfl ?_
        refine WL.v (V.nei rfl rfl) rfl ?_
        refine WL.v (V.move rfl) rfl ?_
        refine WL.gy rfl rfl ?_
        refine WL.v (V.move rfl) rfl ?_
        refine WL.gy rfl rfl ?_
        refine WL.v (V.move rfl) rfl ?_
        refine WL.gy rfl rfl ?_
        refine WL.callB k4.Mem (wk 2) rfl rfl rfl ?_
        rintro _ _ ⟨rfl, rfl⟩
        refine WL.gy rfl rfl ?_
        refine WL.callB (k4.MBytes 5 (by omega) (by omega)) (wk 2) rfl rfl rfl ?_
        rintro _ _ ⟨p5, hp5, rfl, rfl⟩
        refine WL.gy rfl rfl ?_
        refine WL.callB (same_bytes s5 p5 (by rw [hs5, hp5, hv4]) (by omega)) [0, 1] rfl rfl rfl ?_
        rintro _ _ ⟨rfl, rfl⟩
        refine WL.gy rfl rfl ?_
        refine WL.v (V.not rfl) rfl ?_
        refine WL.v (V.pickF rfl rfl) rfl ?_
        refine WL.v (V.move rfl) rfl ?_
        refine WL.gy rfl rfl ?_
        refine WL.v (V.move rfl) rfl ?_
        refine WL.gy rfl rfl ?_
        refine WL.v (V.move rfl) rfl ?_
        refine WL.gy rfl rfl ?_
        refine WL.callB k4.Mem (wk 1) rfl rfl rfl ?_
        rintro _ _ ⟨rfl, rfl⟩
        refine WL.gy rfl rfl ?_
        refine WL.callB (k4.MBytes 6 (by omega) (by omega)) (wk 3) rfl rfl rfl ?_
        rintro _ _ ⟨p6, hp6, rfl, rfl⟩
        refine WL.gy rfl rfl ?_
        refine WL.callB (same_bytes s6 p6 (by rw [hs6, hp6, hv4]) (by omega)) [0, 2] rfl rfl rfl ?_
        rintro _ _ ⟨rfl, rfl⟩
        refine WL.gy rfl rfl ?_
        refine WL.v (V.not rfl) rfl ?_
        refine WL.v (V.pickF rfl rfl) rfl ?_
        refine WL.v (V.move rfl) rfl ?_
        refine WL.gy rfl rfl ?_
        refine WL.v (V.move rfl) rfl ?_
        refine WL.gy rfl rfl ?_
        refine WL.callB k4.Journal (wk 2) rfl rfl rfl ?_
        rintro _ _ ⟨rfl, rfl⟩
        refine WL.gy rfl rfl ?_
        refine WL.callB (k4.JAll (by omega)) (wk 4) rfl rfl rfl ?_
        rintro _ _ ⟨s7, hs7, rfl, rfl⟩
        have hs7l : s7.xs.length = 0 := by rw [hs7]; exact hjl
        refine WL.gy rfl rfl ?_
        refine WL.v (V.lenSL rfl) rfl ?_
        refine WL.gy rfl rfl ?_
        refine WL.v (V.nei rfl rfl) rfl ?_
        refine WL.v (V.pickF rfl rfl) rfl ?_
        refine WL.v (V.move rfl) rfl ?_
        (refine WL.gcaseN rfl rfl ?_ ?_) <;> intro h_ <;> try (exfalso; omega)
        refine WL.gy rfl rfl ?_
        refine WL.v (V.move rfl) rfl ?_
        refine WL.gy rfl rfl ?_
        refine WL.callB k4.Taken (wk 5) rfl rfl rfl ?_
        rintro _ _ ⟨rfl, rfl⟩
        rw [htk]
        refine WL.gy rfl rfl ?_
        refine WL.v (V.nei rfl rfl) rfl ?_
        refine WL.v (V.pickF rfl rfl) rfl ?_
        refine WL.done ?_
        refine WS.condF rfl ?_
        refine WS.skip ?_
        refine WS.seq ?_
        refine WS.region ?_
        refine WL.v (V.move rfl) rfl ?_
        refine WL.callB k4.Mem (wk 5) rfl rfl rfl ?_
        rintro _ _ ⟨rfl, rfl⟩
        skip
        refine WL.sliceK (m := 1) (len := 4) rfl rfl (by omega) (by omega) rfl rfl rfl ?_
        intro lb
        skip
        refine WL.perm (pre' := [(quad lb 2).ch 5, s5.ch 5, p5.ch 5, s6.ch 5, p6.ch 5, s7.ch 73] ++ k4.chs) (List.Perm.refl _) ?_
        rw [show Value.slice (some ⟨lb, 0, none⟩) 4 4 = (quad lb 2).val from rfl]
        refine WL.callB (k4.Write 5 4 (quad lb 2) (by omega) (by omega) (by omega) (by show 0 < 4; omega) (by show 4 + 4 ≤ 512; omega)) (wk 6 ++ [0]) rfl rfl rfl ?_
        rintro _ _ ⟨k5, hx5, hv5, rfl, rfl⟩
        rw [show k4.p = k5.p from by rw [KW.p, KW.p, hx5]]
        refine WL.done ?_
        refine WS.seq ?_
        refine WS.region ?_
        refine WL.v (V.move rfl) rfl ?_
        refine WL.callB k5.Mem (wk 5) rfl rfl rfl ?_
        rintro _ _ ⟨rfl, rfl⟩
        skip
        refine WL.sliceK (m := 1) (len := 4) rfl rfl (by omega) (by omega) rfl rfl rfl ?_
        intro lc
        skip
        refine WL.perm (pre' := [(quad lc 0).ch 5, s5.ch 5, p5.ch 5, s6.ch 5, p6.ch 5, s7.ch 73, (quad lb 2).ch 5] ++ k5.chs) (List.Perm.refl _) ?_
        rw [show Value.slice (some ⟨lc, 0, none⟩) 4 4 = (quad lc 0).val from rfl]
        refine WL.callB (k5.Write 6 0 (quad lc 0) (by omega) (by omega) (by omega) (by show 0 < 4; omega) (by show 0 + 4 ≤ 512; omega)) (wk 7 ++ [0]) rfl rfl rfl ?_
        rintro _ _ ⟨k6, hx6, hv6, rfl, rfl⟩
        rw [show k5.p = k6.p from by rw [KW.p, KW.p, hx6]]
        have hrf6 : Rf k6.view 4 2 0 := by
          rw [hv6, hv5, hv4]
          exact (hrf3.tail 2).head 0
        have hin6 : EIn k6.x.sqb k6.x.cqb 9 k6.view (2 : UInt32).toNat (8 - ((0 : UInt32) - 0).toNat) := by
          rw [hx6, hx5, hx4, hx3, hsq, hcq]; exact hrf6.in' (by decide) (by decide) 9
        refine WL.done ?_
        refine WS.seq ?_
        refine WS.region ?_
        refine WL.v (V.move rfl) rfl ?_
        refine WL.v (V.move rfl) rfl ?_
        refine WL.gy rfl rfl ?_
        refine WL.v (V.move rfl) rfl ?_
        refine WL.gy rfl rfl ?_
        refine WL.callB (k6.EnterE 9 _ _ hin6) (wk 6) rfl rfl rfl ?_
        rintro _ _ ⟨k7, hx7, hv7, rfl, rfl⟩
        rw [show k6.p = k7.p from by rw [KW.p, KW.p, hx7]]
        obtain ⟨hdl, hout⟩ := hin6.out _ rfl
        rw [← hv7] at hout
        have hm2 : min (2 : UInt32).toNat (bud 9) = 2 := by decide
        rw [hm2] at hdl hout ⊢
        rw [hx6, hx5, hx4, hx3, hsq, hcq] at hout
        rw [hx6, hx5, hx4, hx3, hsq] at hdl
        have hro := hrf6.out hdl hout
        clear hv7 hout hdl hin6
        refine WL.gy rfl rfl ?_
        refine WL.v (V.eqi rfl rfl) rfl ?_
        refine WL.v (V.pickT rfl rfl) rfl ?_
        refine WL.v (V.move rfl) rfl ?_
        refine WL.gy rfl rfl ?_
        refine WL.v (V.move rfl) rfl ?_
        refine WL.gy rfl rfl ?_
        refine WL.callB (k7.Ring 4) (wk 7) rfl rfl rfl ?_
        rintro _ _ ⟨rfl, rfl⟩
        rw [if_pos rfl]
        refine WL.gy rfl rfl ?_
        refine WL.callB k7.RTail (wk 7) rfl rfl rfl ?_
        rintro _ _ ⟨rfl, rfl⟩
        rw [show k7.r.tl = 2 from hro.tl]
        refine WL.gy rfl rfl ?_
        refine WL.v (V.eqi rfl rfl) rfl ?_
        refine WL.v (V.pickT rfl rfl) rfl ?_
        refine WL.v (V.assign rfl) rfl ?_
        refine WL.done ?_
        refine WS.pick [] rfl ?_
        refine WS.ret rfl ?_
        exact ⟨rfl, rfl⟩
end Go.Proofs
