/- Part of the proof: W30. -/
import Derived.Test.YtjdjialgjmphjaaGreatW29
import Derived.Test.YtjdjialgjmphjaaGreatW13
set_option linter.all false
set_option maxRecDepth 100000
set_option maxHeartbeats 32000000
namespace Go.Proofs
open Go Go.Sep
attribute [local irreducible] WS WL WH WHT OpV OpR

/-! ## how all begins, with one thread -/

theorem vs_cons {α : Type} {vs : List (α × (Value × List Chunk))} {a : α} {l : List α} (h : vs.map Prod.fst = a :: l) : ∃ v A vs', vs = (a, (v, A)) :: vs' ∧ vs'.map Prod.fst = l := by
  cases vs with
  | nil => simp at h
  | cons x vs =>
    obtain ⟨b, v, A⟩ := x
    simp at h
    exact ⟨v, A, vs, by rw [h.1], h.2⟩

theorem vs_10 {vs : List (POp × (Value × List Chunk))} {a1 a2 a3 a4 a5 a6 a7 a8 a9 a10 : POp} (h : vs.map Prod.fst = [a1, a2, a3, a4, a5, a6, a7, a8, a9, a10]) (hq : ∀ x ∈ vs, x.1.Qp x.2.1 x.2.2) :
    ∃ v1 A1 v2 A2 v3 A3 v4 A4 v5 A5 v6 A6 v7 A7 v8 A8 v9 A9 v10 A10, vs = [(a1, (v1, A1)), (a2, (v2, A2)), (a3, (v3, A3)), (a4, (v4, A4)), (a5, (v5, A5)), (a6, (v6, A6)), (a7, (v7, A7)), (a8, (v8, A8)), (a9, (v9, A9)), (a10, (v10, A10))] ∧ a1.Qp v1 A1 ∧ a2.Qp v2 A2 ∧ a3.Qp v3 A3 ∧ a4.Qp v4 A4 ∧ a5.Qp v5 A5 ∧ a6.Qp v6 A6 ∧ a7.Qp v7 A7 ∧ a8.Qp v8 A8 ∧ a9.Qp v9 A9 ∧ a10.Qp v10 A10 := by
  obtain ⟨v1, A1, vs1, e1, h1⟩ := vs_cons h
  obtain ⟨v2, A2, vs2, e2, h2⟩ := vs_cons h1
  obtain ⟨v3, A3, vs3, e3, h3⟩ := vs_cons h2
  obtain ⟨v4, A4, vs4, e4, h4⟩ := vs_cons h3
  obtain ⟨v5, A5, vs5, e5, h5⟩ := vs_cons h4
  obtain ⟨v6, A6, vs6, e6, h6⟩ := vs_cons h5
  obtain ⟨v7, A7, vs7, e7, h7⟩ := vs_cons h6
  obtain ⟨v8, A8, vs8, e8, h8⟩ := vs_cons h7
  obtain ⟨v9, A9, vs9, e9, h9⟩ := vs_cons h8
  obtain ⟨v10, A10, vs10, e10, h10⟩ := vs_cons h9
  rw [List.map_eq_nil_iff] at h10
  subst h10 e10 e9 e8 e7 e6 e5 e4 e3 e2 e1
  refine ⟨v1, A1, v2, A2, v3, A3, v4, A4, v5, A5, v6, A6, v7, A7, v8, A8, v9, A9, v10, A10, rfl, hq (a1, (v1, A1)) (by simp), hq (a2, (v2, A2)) (by simp), hq (a3, (v3, A3)) (by simp), hq (a4, (v4, A4)) (by simp), hq (a5, (v5, A5)) (by simp), hq (a6, (v6, A6)) (by simp), hq (a7, (v7, A7)) (by simp), hq (a8, (v8, A8)) (by simp), hq (a9, (v9, A9)) (by simp), hq (a10, (v10, A10)) (by simp)⟩

theorem WH.pickC {P : Program} {l : List Oper} {Q : Exit → Act → World → Prop} {n : Nat} {R : Fr} {Hc : List Chunk} {rem : Rem} {env : List (Nat × Value)} {pre A B : List Chunk} (ks : List Nat) (ht : takes ks pre = some (A, B)) (k : WH P l Q n R Hc rem env (A ++ B)) : WH P l Q n R Hc rem env pre :=
  WH.perm (takes_perm ks pre A B ht).flatten k

def AS.fresh : AS := ⟨List.replicate 64 zeros, 0, 0, [], [], [], 0, 0⟩

abbrev mkQ (P : Program) {α β : Type} [DecidableEq α] (kenc : α → Value) (venc : β → Value) : Value → List Chunk → Prop := fun v A => ∃ r, v = .map (some r) ∧ A = [mapC r kenc venc (GMap.empty : GMap α β)]

theorem core_New1 (u sq cq : Nat) (hu1 : 1 ≤ u) (hu2 : u ≤ 12) (hsq : sq ≤ 3) (hcq : cq ≤ 4) :
    Spec Tryz.prog 30 [.agg #[I 1, I u, I sq, I cq, B false]] [] (fun v A => ∃ k : KW, k.view = AS.fresh ∧ k.x.sqb = sq ∧ k.x.cqb = cq ∧ v = k.p ∧ A = k.chs) := by
  refine Spec.of Tryz.func30 rfl Tryz.call30 rfl (fun R => ?_)
  refine WS.seq ?_
  refine WS.region ?_
  refine WL.box rfl rfl ?_; intro r_
  refine WL.v (V.assign rfl) rfl ?_
  refine WL.done ?_
  refine WS.seq ?_
  refine WS.regionA Tryz.mixed rfl ?_
  refine WH.pick rfl ?_
  refine WHT.v (V.fieldAddr rfl) rfl rfl rfl rfl ?_
  refine WH.pick rfl ?_
  refine WHT.r (V.load1 0 rfl rfl rfl) rfl rfl rfl rfl rfl ?_
  refine WH.pick rfl ?_
  refine WHT.v (V.fieldAddr rfl) rfl rfl rfl rfl ?_
  refine WH.pick rfl ?_
  refine WHT.rh (V.load1 0 rfl rfl rfl) rfl (by simp) rfl rfl rfl rfl ?_
  refine WH.pick rfl ?_
  refine WHT.v (V.fieldAddr rfl) rfl rfl rfl rfl ?_
  refine WH.pick rfl ?_
  refine WHT.rh (V.load1 0 rfl rfl rfl) rfl (by simp) rfl rfl rfl rfl ?_
  refine WH.pick rfl ?_
  refine WHT.v (V.fieldAddr rfl) rfl rfl rfl rfl ?_
  refine WH.pick rfl ?_
  refine WHT.rh (V.load1 0 rfl rfl rfl) rfl (by simp) rfl rfl rfl rfl ?_
  refine WH.pick rfl ?_
  refine WHT.v (V.fieldAddr rfl) rfl rfl rfl rfl ?_
  refine WH.pick rfl ?_
  refine WHT.rh (V.load1 0 rfl rfl rfl) rfl (by simp) rfl rfl rfl rfl ?_
  refine WH.big rfl rfl rfl ?_; intro _ _
  refine WL.callB (core_cut 1 1 3) [] rfl rfl rfl ?_
  rintro _ _ ⟨rfl, rfl⟩
  rw [show min (max (1 : Int) 1) 3 = 1 from rfl]
  refine WL.nextH (ok := by assumption) (hns := by assumption) (by simp) ?_
  refine WH.big rfl rfl rfl ?_; intro _ _
  refine WL.callB (core_cut u 1 12) [] rfl rfl rfl ?_
  rintro _ _ ⟨rfl, rfl⟩
  rw [show min (max (u : Int) 1) 12 = u from by omega]
  refine WL.nextH (ok := by assumption) (hns := by assumption) (by simp) ?_
  refine WH.big rfl rfl rfl ?_; intro _ _
  refine WL.callB (core_cut sq 0 3) [] rfl rfl rfl ?_
  rintro _ _ ⟨rfl, rfl⟩
  rw [show min (max (sq : Int) 0) 3 = sq from by omega]
  refine WL.nextH (ok := by assumption) (hns := by assumption) (by simp) ?_
  refine WH.big rfl rfl rfl ?_; intro _ _
  refine WL.callB (core_cut cq 0 4) [] rfl rfl rfl ?_
  rintro _ _ ⟨rfl, rfl⟩
  rw [show min (max (cq : Int) 0) 4 = cq from by omega]
  refine WL.nextH (ok := by assumption) (hns := by assumption) (by simp) ?_
  refine WH.pick rfl ?_
  refine WHT.v (V.build rfl rfl rfl) rfl rfl rfl rfl ?_
  refine WH.bigSt rfl rfl rfl ?_; intro _ _
  refine WL.store 0 rfl rfl rfl rfl rfl rfl ?_
  refine WL.nextH (ok := by assumption) (hns := by assumption) (by simp) ?_
  refine WH.done ?_
  refine WS.seq ?_
  refine WS.regionA Tryz.mixed rfl ?_
  refine WH.pick rfl ?_
  refine WHT.rh (V.loadN 0 rfl rfl rfl) rfl (by simp) rfl rfl rfl rfl ?_
  refine WH.parH (fun _ h => h) [⟨1, _, 22, fun v A => ∃ m : Mm, m.us.map (·.2) = List.replicate 64 zeros ∧ v = ptr m.mb 0 ∧ A = m.chs⟩, ⟨2, _, 23, mkQ Tryz.prog kI vP⟩, ⟨3, _, 24, mkQ Tryz.prog kI vP⟩, ⟨4, _, 25, mkQ Tryz.prog kI vP⟩, ⟨5, _, 26, mkQ Tryz.prog kI vP⟩,
    ⟨6, _, 27, mkQ Tryz.prog kI vTh⟩, ⟨7, _, 28, mkQ Tryz.prog kI kB⟩, ⟨8, _, 29, mkQ Tryz.prog kI kI⟩, ⟨9, _, 30, mkQ Tryz.prog kI vB⟩, ⟨10, _, 31, mkQ Tryz.prog kI kI⟩] [(11, _), (12, _), (13, _)] (List.Perm.refl _) (by decide) ?_ ?_ ?_ ?_ ?_ ?_
  · intro s hs
    simp only [List.mem_cons, List.not_mem_nil, or_false] at hs
    rcases hs with rfl | rfl | rfl | rfl | rfl | rfl | rfl | rfl | rfl | rfl <;> rfl
  · intro s hs
    simp only [List.mem_cons, List.not_mem_nil, or_false] at hs
    rcases hs with rfl | rfl | rfl | rfl | rfl | rfl | rfl | rfl | rfl | rfl <;> rfl
  · intro s hs
    simp only [List.mem_cons, List.not_mem_nil, or_false] at hs
    rcases hs with rfl | rfl | rfl | rfl | rfl | rfl | rfl | rfl | rfl | rfl
    · exact AOp.call phys_New (fun _ _ => rfl) rfl
    all_goals exact AOp.makeMap _ _ rfl
  · intro s hs
    simp only [List.mem_cons, List.not_mem_nil, or_false] at hs
    rcases hs with rfl | rfl | rfl | rfl | rfl | rfl | rfl | rfl | rfl | rfl <;> rfl
  · intro s hs
    simp only [List.mem_cons, List.not_mem_nil, or_false] at hs
    rcases hs with rfl | rfl | rfl | rfl | rfl | rfl | rfl | rfl | rfl | rfl <;> rfl
  intro vs hvs hq
  obtain ⟨_, _, _, _, _, _, _, _, _, _, _, _, _, _, _, _, _, _, _, _, rfl, ⟨m, hm, rfl, rfl⟩, ⟨notB, rfl, rfl⟩, ⟨epB, rfl, rfl⟩, ⟨repB, rfl, rfl⟩, ⟨ringB, rfl, rfl⟩, ⟨thB, rfl, rfl⟩, ⟨spB, rfl, rfl⟩, ⟨prB, rfl, rfl⟩, ⟨belB, rfl, rfl⟩, ⟨takB, rfl, rfl⟩⟩ := vs_10 hvs hq
  clear hvs hq
  simp only [List.map_cons, List.map_nil, List.flatten_cons, List.flatten_nil, List.append_nil, List.cons_append, List.nil_append]
  refine WH.pickC [12] rfl ?_
  refine WH.pick rfl ?_
  refine WHT.v (V.build rfl rfl rfl) rfl rfl rfl rfl ?_
  refine WH.big rfl rfl rfl ?_; intro _ _
  refine WL.box rfl rfl ?_; intro r_
  refine WL.nextH (ok := by assumption) (hns := by assumption) (by simp) ?_
  refine WH.pick rfl ?_
  refine WHT.v (V.assign rfl) rfl rfl rfl rfl ?_
  refine WH.done ?_
  refine WS.seq ?_
  refine WS.region ?_
  refine WL.v (V.fieldAddr rfl) rfl ?_
  refine WL.r (V.load1 1 rfl rfl rfl) rfl ?_
  refine WL.v (V.fieldAddr rfl) rfl ?_
  refine WL.r (V.load1 1 rfl rfl rfl) rfl ?_
  refine WL.v (V.add rfl rfl (fits_i64 (by omega) (by omega))) rfl ?_
  refine WL.v (V.mul rfl rfl (fits_i64 (by omega) (by omega))) rfl ?_
  refine WL.v (V.add rfl rfl (fits_i64 (by omega) (by omega))) rfl ?_
  refine WL.v (V.assign rfl) rfl ?_
  refine WL.done ?_
  refine WS.seq ?_
  refine WS.seq ?_
  refine WS.region ?_
  refine WL.v (V.fieldAddr rfl) rfl ?_
  refine WL.r (V.load1 1 rfl rfl rfl) rfl ?_
  refine WL.done ?_
  refine WS.condF rfl ?_
  refine WS.skip ?_
  refine WS.seq ?_
  refine WS.seq ?_
  refine WS.region ?_
  refine WL.v (V.fieldAddr rfl) rfl ?_
  refine WL.r (V.load1 1 rfl rfl rfl) rfl ?_
  refine WL.v (V.move rfl) rfl ?_
  refine WL.done ?_
  refine WS.block ?_
  rename_i cfgB _
  refine WS.loop_rounds 2 ?_
  refine WS.round ?_
  refine WS.seq ?_
  refine WS.region ?_
  refine WL.v (V.lt rfl rfl) rfl ?_
  refine WL.done ?_
  refine WS.seq ?_
  refine WS.condT rfl ?_
  refine WS.skip ?_
  refine WS.seq ?_
  refine WS.block ?_
  refine WS.seq ?_
  refine WS.region ?_
  refine WL.v (V.move rfl) rfl ?_
  refine WL.v (V.assign rfl) rfl ?_
  refine WL.done ?_
  refine WS.region ?_
  refine WL.v (V.move rfl) rfl ?_
  refine WL.v (V.move rfl) rfl ?_
  refine WL.v (V.move rfl) rfl ?_
  refine WL.callB (core_thread r_ m.mb u sq cq (1 + 1 * (7 + (u : Int))) notB epB repB ringB thB spB prB belB takB hu1 hu2 hsq hcq) [0, 6, 6, 6, 6, 8] rfl rfl rfl ?_
  rintro _ _ ⟨slV, mpV, qV, rb, cell, rfl⟩
  refine WL.done ?_
  refine WS.blk ?_
  refine WS.region ?_
  refine WL.v (V.add rfl rfl (fits_i64 (by omega) (by omega))) rfl ?_
  refine WL.v (V.move rfl) rfl ?_
  refine WL.done ?_
  refine WS.round ?_
  refine WS.seq ?_
  refine WS.region ?_
  refine WL.v (V.lt rfl rfl) rfl ?_
  refine WL.done ?_
  refine WS.seq ?_
  refine WS.condF rfl ?_
  refine WS.exit rfl ?_
  refine WS.seq ?_
  refine WS.region ?_
  refine WL.v (V.move rfl) rfl ?_
  refine WL.v (V.assign rfl) rfl ?_
  refine WL.done ?_
  have hths : ((GMap.empty : GMap Int Thr).put 2 th1).es.map (·.v) = [th1] := by rw [(GMap.put_none rfl).1]; rfl
  have hreps : ∀ v, ((GMap.empty : GMap Int Nat).put 7 cell).get v = if v = 7 then some cell else none := fun v => by rw [GMap.get_put']; rfl
  have hrings : ∀ v, ((GMap.empty : GMap Int Nat).put 4 rb).get v = if v = 4 then some rb else none := fun v => by rw [GMap.get_put']; rfl
  have hth : ∀ v, ((GMap.empty : GMap Int Thr).put 2 th1).get v = if v = 2 then some th1 else none := fun v => by rw [GMap.get_put']; rfl
  have htak : ((GMap.empty : GMap Int Int).put 4 0).get 4 = some ((0 : Nat) : Int) := by rw [GMap.get_put']; rfl
  let x : Fx := ⟨r_, u, sq, cq, slV, .map none, mpV, qV, notB, epB, repB, ringB, thB, spB, prB, belB, takB, GMap.empty, GMap.empty, (GMap.empty : GMap Int Nat).put 7 cell, (GMap.empty : GMap Int Nat).put 4 rb, (GMap.empty : GMap Int Thr).put 2 th1, GMap.empty, cell, I 0, I 0, rb,
    fun _ => rfl, fun _ => rfl, hreps, hrings, hths, hth, fun _ => rfl⟩
  let k : KW := ⟨x, m, ⟨rb, 5, 6, sq, cq, 0, 0, SL.empty, by omega, by omega, by omega, by omega, hsq, hcq⟩, ⟨⟨none, GMap.empty, fun _ => rfl⟩, [], by simp [GMap.kv, GMap.empty], List.Pairwise.nil⟩, SL.empty,
    (GMap.empty : GMap Int Int).put 4 0, 0, 0, rfl, rfl, rfl, rfl, rfl, htak⟩
  refine WS.pick [8, 4, 4, 6, 6, 6, 5, 5, 5, 5, 1, 1, 1] rfl ?_
  refine WS.perm (pre' := k.chs) (List.Perm.refl _) ?_
  refine WS.ret rfl ?_
  refine ⟨k, ?_, rfl, rfl, rfl, rfl⟩
  show (⟨m.us.map (·.2), 0, 0, [], [], [], 0, 0⟩ : AS) = AS.fresh
  rw [hm]
  rfl
end Go.Proofs
