/- Part of the proof: W34. -/
import Derived.Test.YtjdjialgjmphjaaGreatW33
import Derived.Test.YtjdjialgjmphjaaGreatPC
set_option linter.all false
set_option maxRecDepth 100000
set_option maxHeartbeats 32000000
namespace Go.Proofs
open Go Go.Sep
attribute [local irreducible] WS WL WH WHT OpV OpR

/-! ## the laws' own: entries laid into a ring -/

def zero4 (b : Nat) : SL encY 1 := ⟨[0, 0, 0, 0], some b, 4, [], fun h => by simp at h, fun _ => by simp⟩

theorem law_laid (l : SL encS 8) (hl : l.xs.length ≤ 8) (hok : ∀ e ∈ l.xs, e.ok = true) :
    Spec Tryz.prog 45 [I 3, I 4, l.val] [l.ch 25] (fun v A => ∃ k : KW, k.view = AS.laid l.xs ∧ k.x.sqb = 3 ∧ k.x.cqb = 4 ∧ v = k.p ∧ A = k.chs) := by
  refine Spec.of Tryz.func45 rfl Tryz.call45 rfl (fun R => ?_)
  refine WS.seq ?_
  refine WS.region ?_
  refine WL.v (V.assign rfl) rfl ?_
  refine WL.done ?_
  refine WS.seq ?_
  refine WS.region ?_
  refine WL.v (V.move rfl) rfl ?_
  refine WL.v (V.move rfl) rfl ?_
  refine WL.v (V.build rfl rfl rfl) rfl ?_
  refine WL.callB (core_New1 4 3 4 (by omega) (by omega) (by omega) (by omega)) [] rfl rfl rfl ?_
  rintro _ _ ⟨k, hv, hsq, hcq, rfl, rfl⟩
  refine WL.v (V.assign rfl) rfl ?_
  refine WL.done ?_
  refine WS.seq ?_
  refine WS.seq ?_
  refine WS.region ?_
  refine WL.v (V.move rfl) rfl ?_
  refine WL.v (V.eqNilP rfl rfl) rfl ?_
  refine WL.v (V.move rfl) rfl ?_
  refine WL.gy rfl rfl ?_
  refine WL.v (V.move rfl) rfl ?_
  refine WL.gy rfl rfl ?_
  refine WL.callB k.Mem (wk 1) rfl rfl rfl ?_
  rintro _ _ ⟨rfl, rfl⟩
  refine WL.gy rfl rfl ?_
  refine WL.v (V.eqNilP rfl rfl) rfl ?_
  refine WL.v (V.pickF rfl rfl) rfl ?_
  refine WL.v (V.move rfl) rfl ?_
  refine WL.gy rfl rfl ?_
  refine WL.v (V.move rfl) rfl ?_
  refine WL.gy rfl rfl ?_
  refine WL.callB (k.Ring 4) (wk 1) rfl rfl rfl ?_
  rintro _ _ ⟨rfl, rfl⟩
  rw [if_pos rfl]
  refine WL.gy rfl rfl ?_
  refine WL.v (V.eqNilP rfl rfl) rfl ?_
  refine WL.v (V.pickF rfl rfl) rfl ?_
  refine WL.v (V.move rfl) rfl ?_
  refine WL.gy rfl rfl ?_
  refine WL.v (V.move rfl) rfl ?_
  refine WL.gy rfl rfl ?_
  refine WL.callB k.Reqs (wk 1) rfl rfl rfl ?_
  rintro _ _ ⟨rfl, rfl⟩
  refine WL.gy rfl rfl ?_
  refine WL.v (V.eqNilP rfl rfl) rfl ?_
  refine WL.v (V.pickF rfl rfl) rfl ?_
  refine WL.v (V.move rfl) rfl ?_
  refine WL.gy rfl rfl ?_
  refine WL.v (V.move rfl) rfl ?_
  refine WL.gy rfl rfl ?_
  refine WL.callB k.Journal (wk 1) rfl rfl rfl ?_
  rintro _ _ ⟨rfl, rfl⟩
  refine WL.gy rfl rfl ?_
  refine WL.v (V.eqNilP rfl rfl) rfl ?_
  refine WL.v (V.pickF rfl rfl) rfl ?_
  refine WL.done ?_
  refine WS.condF rfl ?_
  refine WS.skip ?_
  refine WS.seq ?_
  refine WS.seq ?_
  refine WS.region ?_
  refine WL.v (V.assign rfl) rfl ?_
  refine WL.done ?_
  refine WS.block ?_
  refine WS.keep [8, 7, 2, 0] rfl ?_
  refine WS.loop (ι := {p : Nat × KW // p.1 ≤ l.xs.length ∧ p.2.x = k.x ∧ p.2.view = AS.fresh.lay l.xs p.1}) (fun p => [(8, I p.1.1), (7, k.p), (2, l.val), (0, I 3)]) (fun p => [l.ch 25] ++ p.1.2.chs) (fun p => l.xs.length - p.1.1)
    ⟨(0, k), by omega, rfl, hv⟩ ?_
  rintro ⟨⟨i, k1⟩, hi, hx1, hv1⟩ X ih
  simp only at ih hi hx1 hv1 ⊢
  rw [show k.p = k1.p from by rw [KW.p, KW.p, hx1]]
  refine WS.seq ?_
  refine WS.seq ?_
  refine WS.region ?_
  refine WL.v (V.move rfl) rfl ?_
  refine WL.v (V.move rfl) rfl ?_
  refine WL.v (V.lenSL rfl) rfl ?_
  refine WL.v (V.lt rfl rfl) rfl ?_
  refine WL.v (V.move rfl) rfl ?_
  (refine WL.gcaseD rfl rfl ?_ ?_) <;> intro h_ <;> try (exfalso; omega)
  refine WL.gy rfl rfl ?_
  refine WL.v (V.move rfl) rfl ?_
  refine WL.gy rfl rfl ?_
  refine WL.v (V.move rfl) rfl ?_
  refine WL.gy rfl rfl ?_
  refine WL.v (V.conv rfl) rfl ?_
  refine WL.gy rfl rfl ?_
  rotate_left
  refine WL.gn2 rfl rfl rfl rfl ?_
  refine WL.gn2 rfl rfl rfl rfl ?_
  refine WL.gn2 rfl rfl rfl rfl ?_
  refine WL.gn2 rfl rfl rfl rfl ?_
  refine WL.gn2 rfl rfl rfl rfl ?_
  refine WL.v (V.pickF rfl rfl) rfl ?_
  refine WL.done ?_
  refine WS.condF rfl ?_
  refine WS.exit rfl ?_
  refine WS.seq ?_
  rotate_left
  · rw [show IntKind.u64.wrap 3 = 3 from by decide]
    refine WL.v (V.shl rfl rfl (by omega)) rfl ?_
    rw [show IntKind.i64.wrap (1 * 2 ^ (min (3 : Int).toNat IntKind.i64.bits)) = 8 from by decide]
    have hget : l.xs[i]? = some (l.xs[i]'(by omega)) := by simp
    have hmem : l.xs[i]'(by omega) ∈ l.xs := List.getElem_mem _
    generalize l.xs[i]'(by omega) = e at hget hmem
    refine WL.gy rfl rfl ?_
    refine WL.v (V.lt rfl rfl) rfl ?_
    refine WL.v (V.pickT rfl rfl) rfl ?_
    refine WL.done ?_
    (refine WS.condD rfl ?_ ?_) <;> intro h_ <;> try (exfalso; omega)
    refine WS.skip ?_
    refine WS.seq ?_
    refine WS.block ?_
    refine WS.seq ?_
    refine WS.regionK [0] rfl Tryz.mixed rfl ?_
    refine WH.pick rfl ?_
    refine WHT.v (V.move rfl) rfl rfl rfl rfl ?_
    refine WH.pick rfl ?_
    refine WHT.v (V.move rfl) rfl rfl rfl rfl ?_
    refine WH.pick rfl ?_
    refine WHT.v (V.mul rfl rfl (fits_i64 (by omega) (by omega))) rfl rfl rfl rfl ?_
    refine WH.pick rfl ?_
    refine WHT.v (V.add rfl rfl (fits_i64 (by omega) (by omega))) rfl rfl rfl rfl ?_
    refine WH.pick rfl ?_
    refine WHT.v (V.move rfl) rfl rfl rfl rfl ?_
    refine WH.pick rfl ?_
    refine WHT.v (V.move rfl) rfl rfl rfl rfl ?_
    refine WH.pick rfl ?_
    refine WHT.v (V.indexSL rfl rfl (by constructor <;> omega)) rfl rfl rfl rfl ?_
    refine WH.pick rfl ?_
    refine WHT.rh (V.loadSL (enc := encS) 0 (i := i) (by simp only [Int.toNat_natCast]; rfl) rfl hget) rfl (by simp) rfl rfl rfl rfl ?_
    refine WH.big rfl rfl rfl ?_; intro _ _
    refine WL.callB k1.Mem (wk 1) rfl rfl rfl ?_
    rintro _ _ ⟨rfl, rfl⟩
    refine WL.nextH (ok := by assumption) (hns := by assumption) (by simp) ?_
    refine WH.big rfl rfl rfl ?_; intro _ _
    refine WL.callB (ref16_Bytes e (hok e hmem)) [] rfl rfl rfl ?_
    rintro _ _ ⟨s, hs, rfl, rfl⟩
    refine WL.nextH (ok := by assumption) (hns := by assumption) (by simp) ?_
    refine WH.big rfl rfl rfl ?_; intro _ _
    rw [show (16 : Int) + 32 * (i : Int) = ((16 + 32 * i : Nat) : Int) from by omega]
    refine WL.callB (k1.Write 5 (16 + 32 * i) s (by omega) (by omega) (by omega) (by rw [hs, Sqe.bytes_len]; omega) (by rw [hs, Sqe.bytes_len]; omega)) (wk 1 ++ [1]) rfl rfl rfl ?_
    rintro _ _ ⟨k2, hx2, hv2, rfl, rfl⟩
    rw [show k1.p = k2.p from by rw [KW.p, KW.p, hx2]]
    refine WL.nextH (ok := by assumption) (hns := by assumption) (by simp) ?_
    refine WH.pick rfl ?_
    refine WHT.v (V.not rfl) rfl rfl rfl rfl ?_
    refine WH.done ?_
    refine WS.condF rfl ?_
    refine WS.skip ?_
    refine WS.blk ?_
    refine WS.region ?_
    refine WL.v (V.move rfl) rfl ?_
    refine WL.v (V.add rfl rfl (fits_i64 (by omega) (by omega))) rfl ?_
    refine WL.v (V.assign rfl) rfl ?_
    refine WL.done ?_
    refine WS.keep [8, 7, 2, 0] rfl ?_
    refine WS.pick (0 :: wk 0) rfl ?_
    rw [show k2.p = k.p from by rw [KW.p, KW.p, hx2, hx1]]
    refine ih ⟨(i + 1, k2), by omega, hx2.trans hx1, ?_⟩ (by simp only; omega)
    simp only
    rw [lay_succ, hv2, hv1, hs, AS.lay1, hget]
    rfl
  · have hi' : i = l.xs.length := by omega
    subst hi'
    refine WS.keep [8, 7, 2, 0] rfl ?_
    have hconv : Value.int .u32 (IntKind.u32.wrap (l.xs.length : Int)) = U (UInt32.ofNat l.xs.length) := by
      rw [wrap_u32, U, UInt32.toNat_ofNat']
      congr 1
    refine WS.regionM (X := {k' : KW // k'.x = k.x ∧ k'.view = AS.laid l.xs}) (fun q => [(7, q.1.p)]) (fun q => q.1.chs) [] Tryz.mixed rfl ?_ ?_
    · refine WH.pick rfl ?_
      refine WHT.v (V.move rfl) rfl rfl rfl rfl ?_
      refine WH.pick rfl ?_
      refine WHT.v (V.move rfl) rfl rfl rfl rfl ?_
      refine WH.pick rfl ?_
      refine WHT.v (V.lenSL rfl) rfl rfl rfl rfl ?_
      refine WH.pick rfl ?_
      refine WHT.v (V.conv rfl) rfl rfl rfl rfl ?_
      (refine WH.two rfl rfl rfl rfl rfl ?_ ?_) <;> intro _ _
      rotate_left
      rotate_left
      · refine WL.callB k1.Mem (wk 1) rfl rfl rfl ?_
        rintro _ _ ⟨rfl, rfl⟩
        refine WL.nextH (ok := by assumption) (hns := by assumption) (by simp) ?_
        refine WH.big rfl rfl rfl ?_; intro _ _
        refine WL.makeSliceC (l := 4) (m := 4) rfl rfl (by omega) rfl (by omega) (by omega) rfl ?_
        intro zb
        refine WL.nextH (ok := by assumption) (hns := by assumption) (by simp) ?_
        refine WH.big rfl rfl rfl ?_; intro _ _
        refine WL.perm (pre' := [(zero4 zb).ch 5, l.ch 25] ++ k1.chs) (List.Perm.refl _) ?_
        rw [show Value.slice (some ⟨zb, 0, none⟩) 4 4 = (zero4 zb).val from rfl, hconv]
        refine WL.callB (ref1_Put32 (zero4 zb) 0 (UInt32.ofNat l.xs.length) (by show 0 + 4 ≤ 4; omega) (by show 4 ≤ 1000000; omega)) [0] rfl rfl rfl ?_
        rintro _ _ ⟨s, hs, rfl, rfl⟩
        have hs4 : s.xs = le4 (UInt32.ofNat l.xs.length) := hs
        have hsl : s.xs.length = 4 := by rw [hs4, le4_len]
        refine WL.nextH (ok := by assumption) (hns := by assumption) (by simp) ?_
        refine WH.big rfl rfl rfl ?_; intro _ _
        refine WL.callB (k1.Write 5 4 s (by omega) (by omega) (by omega) (by omega) (by omega)) (wk 1 ++ [1]) rfl rfl rfl ?_
        rintro _ _ ⟨k2, hx2, hv2, rfl, rfl⟩
        rw [show k1.p = k2.p from by rw [KW.p, KW.p, hx2]]
        refine WL.nextH (ok := by assumption) (hns := by assumption) (by simp) ?_
        exact WH.doneM ⟨k2, hx2.trans hx1, by rw [hv2, hv1, hs4]; rfl⟩ (subEnv_restr [7] rfl rfl) (wk 2) rfl
      · refine WL.makeSliceC (l := 4) (m := 4) rfl rfl (by omega) rfl (by omega) (by omega) rfl ?_
        intro zb
        refine WL.nextH (ok := by assumption) (hns := by assumption) (by simp) ?_
        refine WH.big rfl rfl rfl ?_; intro _ _
        refine WL.callB k1.Mem (wk 2) rfl rfl rfl ?_
        rintro _ _ ⟨rfl, rfl⟩
        refine WL.nextH (ok := by assumption) (hns := by assumption) (by simp) ?_
        refine WH.big rfl rfl rfl ?_; intro _ _
        refine WL.perm (pre' := [(zero4 zb).ch 5, l.ch 25] ++ k1.chs) (List.Perm.refl _) ?_
        rw [show Value.slice (some ⟨zb, 0, none⟩) 4 4 = (zero4 zb).val from rfl, hconv]
        refine WL.callB (ref1_Put32 (zero4 zb) 0 (UInt32.ofNat l.xs.length) (by show 0 + 4 ≤ 4; omega) (by show 4 ≤ 1000000; omega)) [0] rfl rfl rfl ?_
        rintro _ _ ⟨s, hs, rfl, rfl⟩
        have hs4 : s.xs = le4 (UInt32.ofNat l.xs.length) := hs
        have hsl : s.xs.length = 4 := by rw [hs4, le4_len]
        refine WL.nextH (ok := by assumption) (hns := by assumption) (by simp) ?_
        refine WH.big rfl rfl rfl ?_; intro _ _
        refine WL.callB (k1.Write 5 4 s (by omega) (by omega) (by omega) (by omega) (by omega)) (wk 1 ++ [1]) rfl rfl rfl ?_
        rintro _ _ ⟨k2, hx2, hv2, rfl, rfl⟩
        rw [show k1.p = k2.p from by rw [KW.p, KW.p, hx2]]
        refine WL.nextH (ok := by assumption) (hns := by assumption) (by simp) ?_
        exact WH.doneM ⟨k2, hx2.trans hx1, by rw [hv2, hv1, hs4]; rfl⟩ (subEnv_restr [7] rfl rfl) (wk 2) rfl
    · rintro ⟨k2, hx2, hv2⟩
      refine WS.seq ?_
      refine WS.region ?_
      refine WL.v (V.move rfl) rfl ?_
      refine WL.v (V.assign rfl) rfl ?_
      refine WL.done ?_
      refine WS.ret rfl ?_
      exact ⟨k2, hv2, by rw [hx2]; exact hsq, by rw [hx2]; exact hcq, rfl, rfl⟩
end Go.Proofs
