/- Part of the proof: W33. -/
import Derived.Test.YtjdjialgjmphjaaGreatW32
import Derived.Test.YtjdjialgjmphjaaGreatW30
import Derived.Test.YtjdjialgjmphjaaGreatPC
set_option linter.all false
set_option maxRecDepth 100000
set_option maxHeartbeats 32000000
namespace Go.Proofs
open Go Go.Sep
attribute [local irreducible] WS WL WH WHT OpV OpR

/-! ## the laws' own: the example -/

theorem tL_of_view {k : KW} {a : AS} (h : k.view = a) : k.t.L = a.L := congrArg AS.L h

theorem law_first : Spec Tryz.prog 44 [] [] (fun v A => v = B true ∧ A = []) := by
  refine Spec.of Tryz.func44 rfl Tryz.call44 rfl (fun R => ?_)
  refine WS.seq ?_
  refine WS.region ?_
  refine WL.v (V.assign rfl) rfl ?_
  refine WL.done ?_
  refine WS.seq ?_
  refine WS.region ?_
  refine WL.v (V.build rfl rfl rfl) rfl ?_
  refine WL.callB (core_New1 1 2 2 (by omega) (by omega) (by omega) (by omega)) [] rfl rfl rfl ?_
  rintro _ _ ⟨k, hv, hsq, hcq, rfl, rfl⟩
  have hL : k.t.L = [] := tL_of_view hv
  refine WL.v (V.assign rfl) rfl ?_
  refine WL.done ?_
  refine WS.seq ?_
  refine WS.seq ?_
  refine WS.region ?_
  refine WL.v (V.move rfl) rfl ?_
  refine WL.v (V.eqNilP rfl rfl) rfl ?_
  refine WL.v (V.move rfl) rfl ?_
  refine WL.gy rfl rfl ?_
  refine WL.v (V.move rfl) rfl ?_
  refine WL.gy rfl rfl ?_
  refine WL.callB k.Mem (wk 0) rfl rfl rfl ?_
  rintro _ _ ⟨rfl, rfl⟩
  refine WL.gy rfl rfl ?_
  refine WL.v (V.eqNilP rfl rfl) rfl ?_
  refine WL.v (V.pickF rfl rfl) rfl ?_
  refine WL.v (V.move rfl) rfl ?_
  refine WL.gy rfl rfl ?_
  refine WL.v (V.move rfl) rfl ?_
  refine WL.gy rfl rfl ?_
  refine WL.callB (k.Ring 4) (wk 0) rfl rfl rfl ?_
  rintro _ _ ⟨rfl, rfl⟩
  rw [if_pos rfl]
  refine WL.gy rfl rfl ?_
  refine WL.v (V.eqNilP rfl rfl) rfl ?_
  refine WL.v (V.pickF rfl rfl) rfl ?_
  refine WL.v (V.move rfl) rfl ?_
  refine WL.gy rfl rfl ?_
  refine WL.v (V.move rfl) rfl ?_
  refine WL.gy rfl rfl ?_
  refine WL.callB (k.Run_none 9 5 (by rw [hL]; rfl) (by simp [RT.of, hL]) (by simp [hL])) (wk 0) rfl rfl rfl ?_
  rintro _ _ ⟨rfl, rfl⟩
  refine WL.gy rfl rfl ?_
  refine WL.v (V.nei rfl rfl) rfl ?_
  refine WL.v (V.pickF rfl rfl) rfl ?_
  refine WL.done ?_
  refine WS.condF rfl ?_
  refine WS.skip ?_
  refine WS.seq ?_
  refine WS.region ?_
  refine WL.v (V.move rfl) rfl ?_
  refine WL.callB k.Mem (wk 0) rfl rfl rfl ?_
  rintro _ _ ⟨rfl, rfl⟩
  skip
  refine WL.slice1 (m := 1) rfl rfl rfl (by omega) (by omega) rfl ?_
  intro nb
  generalize hs1 : (⟨[1], some nb, 1, [], fun h => by simp at h, fun _ => by simp⟩ : SL encY 1) = s1
  have hs1x : s1.xs = [1] := by rw [← hs1]
  rw [show Value.slice (some ⟨nb, 0, none⟩) 1 1 = s1.val from by rw [← hs1]; rfl]
  refine WL.perm (pre' := [s1.ch 5] ++ k.chs) (by subst hs1; exact List.Perm.refl _) ?_
  refine WL.callB (k.Write 5 4 s1 (by omega) (by omega) (by omega) (by rw [hs1x]; simp) (by rw [hs1x]; simp)) (wk 1 ++ [0]) rfl rfl rfl ?_
  rintro _ _ ⟨k1, hx1, hv1, rfl, rfl⟩
  rw [show k.p = k1.p from by rw [KW.p, KW.p, hx1]]
  have hone : k1.view = AS.one := by rw [hv1, hv, hs1x]; rfl
  have hin : EIn k1.x.sqb k1.x.cqb 3 k1.view 1 4 := by rw [hone, hx1, hsq, hcq]; exact one_in
  refine WL.done ?_
  refine WS.seq ?_
  refine WS.region ?_
  refine WL.v (V.move rfl) rfl ?_
  refine WL.callB (k1.EnterE 3 1 4 hin) (wk 0) rfl rfl rfl ?_
  rintro _ _ ⟨k2, hx2, hv2, rfl, rfl⟩
  rw [show k1.p = k2.p from by rw [KW.p, KW.p, hx2]]
  obtain ⟨hlen, hout⟩ := hin.out _ rfl
  rw [← hv2] at hout
  have hb3 : min 1 (bud 3) = 1 := rfl
  rw [hb3] at hlen hout ⊢
  have htl : k2.r.tl = 1 := by
    have h1 : k2.view.tl = k1.view.tl + UInt32.ofNat (min 4 1) := by rw [hout.tl, hlen]
    rw [hone] at h1
    exact h1
  have ht1 : (((1 : UInt32).toNat : Nat) : Int) = 1 := rfl
  refine WL.v (V.eqi rfl rfl) rfl ?_
  refine WL.v (V.move rfl) rfl ?_
  refine WL.gy rfl rfl ?_
  refine WL.v (V.move rfl) rfl ?_
  refine WL.gy rfl rfl ?_
  refine WL.callB (k2.Ring 4) (wk 1) rfl rfl rfl ?_
  rintro _ _ ⟨rfl, rfl⟩
  rw [if_pos rfl]
  refine WL.gy rfl rfl ?_
  refine WL.callB k2.RTail (wk 1) rfl rfl rfl ?_
  rintro _ _ ⟨rfl, rfl⟩
  rw [htl]
  refine WL.gy rfl rfl ?_
  refine WL.v (V.eqi rfl rfl) rfl ?_
  refine WL.v (V.pickT rfl rfl) rfl ?_
  refine WL.v (V.move rfl) rfl ?_
  refine WL.gy rfl rfl ?_
  refine WL.v (V.move rfl) rfl ?_
  refine WL.gy rfl rfl ?_
  refine WL.callB (k2.Enter_none 9 1 (by omega)) (wk 1) rfl rfl rfl ?_
  rintro _ _ ⟨rfl, rfl⟩
  refine WL.gy rfl rfl ?_
  refine WL.v (V.eqi rfl rfl) rfl ?_
  refine WL.v (V.pickT rfl rfl) rfl ?_
  refine WL.v (V.assign rfl) rfl ?_
  refine WL.done ?_
  refine WS.pick [] rfl ?_
  refine WS.ret rfl ?_
  exact ⟨rfl, rfl⟩
end Go.Proofs
