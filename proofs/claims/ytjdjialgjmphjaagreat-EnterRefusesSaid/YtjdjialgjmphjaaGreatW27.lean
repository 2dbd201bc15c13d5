/- Part of the proof: W27. -/
import Derived.Test.YtjdjialgjmphjaaGreatW24
set_option linter.all false
set_option maxRecDepth 100000
set_option maxHeartbeats 16000000
namespace Go.Proofs
open Go Go.Sep
attribute [local irreducible] WS WL WH WHT OpV OpR

/-! ## entering -/

def bud (b : Int) : Nat := (min (max b 0) 64).toNat
/-- Enter of the one thread, where none waits -/
def AS.enter (sb cb : Nat) (b : Int) (a : AS) : AS × Int :=
  if ((a.waiting sb).isSome && (a.room cb).isSome) = true then ((AS.run cb (bud b) (a.take sb cb (bud b))).1, ((a.takeN sb (bud b) : Nat) : Int)) else (a, -14)

theorem KW.Enter_none (k : KW) (u : Int) (b : Int) (h : u ≠ 2) :
    Spec Tryz.prog 50 [k.p, I u, I b] k.chs (fun v A => v = I (-11) ∧ A = k.chs) := by
  refine Spec.of Tryz.func50 rfl Tryz.call50 rfl (fun R => ?_)
  refine WS.seq ?_
  refine WS.region ?_
  refine WL.v (V.assign rfl) rfl ?_
  refine WL.done ?_
  refine WS.seq ?_
  refine WS.region ?_
  refine WL.v (V.move rfl) rfl ?_
  refine WL.v (V.max2 rfl rfl) rfl ?_
  refine WL.v (V.min2 rfl rfl) rfl ?_
  refine WL.v (V.assign rfl) rfl ?_
  refine WL.done ?_
  refine WS.seq ?_
  refine WS.region ?_
  refine WL.v (V.move rfl) rfl ?_
  refine WL.v (V.move rfl) rfl ?_
  refine WL.callB (k.Thread u) (wk 0) rfl rfl rfl ?_
  rintro _ _ ⟨rfl, rfl⟩
  rw [if_neg h]
  refine WL.v (V.move rfl) rfl ?_
  refine WL.v (V.extractL rfl rfl) rfl ?_
  refine WL.v (V.extractL rfl rfl) rfl ?_
  refine WL.alloc rfl ?_; intro r_
  refine WL.store 0 rfl rfl rfl rfl rfl rfl ?_
  refine WL.v (V.assign rfl) rfl ?_
  refine WL.done ?_
  refine WS.seq ?_
  refine WS.seq ?_
  refine WS.region ?_
  refine WL.v (V.move rfl) rfl ?_
  refine WL.v (V.not rfl) rfl ?_
  refine WL.done ?_
  refine WS.condT rfl ?_
  refine WS.seq ?_
  refine WS.region ?_
  refine WL.v (V.assign rfl) rfl ?_
  refine WL.done ?_
  refine WS.pick (wk 1) rfl ?_
  refine WS.ret rfl ?_
  exact ⟨rfl, rfl⟩

theorem KW.Enter (k : KW) (b : Int) (hover : k.view.over = [])
    (hL : k.view.L.length ≤ 4) (hring : ∀ q ∈ k.view.L, q.id.ring = 4 ∧ q.id.seq ≤ k.taken) (htk : k.taken ≤ 900000) (hj : k.view.J.length ≤ 800)
    (hnd : ∀ i, i < k.view.takeN k.x.sqb (bud b) → isEntry (k.view.raw k.x.sqb i) = true → (Sqe.parse (k.view.raw k.x.sqb i)).noDead = true)
    (hg : (k.view.waiting k.x.sqb).isSome = true → (k.view.room k.x.cqb).isSome = true → (k.view.take k.x.sqb k.x.cqb (bud b)).Good) :
    Spec Tryz.prog 50 [k.p, I 2, I b] k.chs (fun v A => ∃ k' : KW, k'.x = k.x ∧ k'.view = (k.view.enter k.x.sqb k.x.cqb b).1 ∧ v = I (k.view.enter k.x.sqb k.x.cqb b).2 ∧ A = k'.chs) := by
  have hbd : min (max b 0) (64 : Int) = ((bud b : Nat) : Int) := by unfold bud; omega
  have hb64 : bud b ≤ 64 := by unfold bud; omega
  refine Spec.of Tryz.func50 rfl Tryz.call50 rfl (fun R => ?_)
  refine WS.seq ?_
  refine WS.region ?_
  refine WL.v (V.assign rfl) rfl ?_
  refine WL.done ?_
  refine WS.seq ?_
  refine WS.region ?_
  refine WL.v (V.move rfl) rfl ?_
  refine WL.v (V.max2 rfl rfl) rfl ?_
  refine WL.v (V.min2 rfl rfl) rfl ?_
  refine WL.v (V.assign rfl) rfl ?_
  refine WL.done ?_
  refine WS.seq ?_
  refine WS.region ?_
  refine WL.v (V.move rfl) rfl ?_
  refine WL.v (V.move rfl) rfl ?_
  rw [hbd]
  refine WL.callB (k.Thread 2) (wk 0) rfl rfl rfl ?_
  rintro _ _ ⟨rfl, rfl⟩
  rw [if_pos rfl]
  refine WL.v (V.move rfl) rfl ?_
  refine WL.v (V.extractL rfl rfl) rfl ?_
  refine WL.v (V.extractL rfl rfl) rfl ?_
  refine WL.alloc rfl ?_; intro r_
  refine WL.store 0 rfl rfl rfl rfl rfl rfl ?_
  refine WL.v (V.assign rfl) rfl ?_
  refine WL.done ?_
  refine WS.seq ?_
  refine WS.seq ?_
  refine WS.region ?_
  refine WL.v (V.move rfl) rfl ?_
  refine WL.v (V.not rfl) rfl ?_
  refine WL.done ?_
  refine WS.condF rfl ?_
  refine WS.skip ?_
  refine WS.seq ?_
  refine WS.region ?_
  refine WL.v (V.move rfl) rfl ?_
  refine WL.v (V.fieldAddr rfl) rfl ?_
  refine WL.r (V.load1 0 rfl rfl rfl) rfl ?_
  refine WL.callB (k.Ring 4) (wk 1) rfl rfl rfl ?_
  rintro _ _ ⟨rfl, rfl⟩
  rw [if_pos rfl]
  refine WL.v (V.assign rfl) rfl ?_
  refine WL.done ?_
  refine WS.seq ?_
  refine WS.block ?_
  refine WS.seq ?_
  refine WS.region ?_
  refine WL.v (V.move rfl) rfl ?_
  refine WL.v (V.eqNilP rfl rfl) rfl ?_
  refine WL.v (V.assign rfl) rfl ?_
  refine WL.done ?_
  refine WS.condF rfl ?_
  refine WS.seq ?_
  refine WS.region ?_
  refine WL.v (V.move rfl) rfl ?_
  refine WL.callB k.RValid (wk 1) rfl rfl rfl ?_
  rintro _ _ ⟨rfl, rfl⟩
  cases hv : ((k.view.waiting k.x.sqb).isSome && (k.view.room k.x.cqb).isSome)
  · refine WL.v (V.not rfl) rfl ?_
    refine WL.v (V.assign rfl) rfl ?_
    refine WL.done ?_
    refine WS.condT rfl ?_
    refine WS.seq ?_
    refine WS.region ?_
    refine WL.v (V.assign rfl) rfl ?_
    refine WL.done ?_
    refine WS.pick (wk 1) rfl ?_
    refine WS.ret rfl ?_
    exact ⟨k, rfl, by simp [AS.enter, hv], by simp [AS.enter, hv, retV], rfl⟩
  · simp only [Bool.and_eq_true] at hv
    have hgood := hg hv.1 hv.2
    refine WL.v (V.not rfl) rfl ?_
    refine WL.v (V.assign rfl) rfl ?_
    refine WL.done ?_
    refine WS.condF rfl ?_
    refine WS.skip ?_
    refine WS.blk ?_
    refine WS.seq ?_
    refine WS.region ?_
    refine WL.v (V.move rfl) rfl ?_
    refine WL.callB (k.RFlush0 hover) (wk 1) rfl rfl rfl ?_
    rintro _ _ ⟨rfl, rfl⟩
    refine WL.done ?_
    refine WS.seq ?_
    refine WS.seq ?_
    refine WS.region ?_
    refine WL.v (V.move rfl) rfl ?_
    refine WL.callB (k.ROver (by rw [show k.r.over.xs = [] from hover]; simp)) (wk 1) rfl rfl rfl ?_
    rintro _ _ ⟨s, hs, rfl, rfl⟩
    have hs0 : s.xs.length = 0 := by rw [hs, hover]; rfl
    refine WL.v (V.lenSL rfl) rfl ?_
    refine WL.v (V.ge rfl rfl) rfl ?_
    refine WL.done ?_
    (refine WS.condD rfl ?_ ?_) <;> intro h_ <;> try (exfalso; omega)
    refine WS.skip ?_
    refine WS.seq ?_
    refine WS.region ?_
    refine WL.v (V.move rfl) rfl ?_
    refine WL.v (V.fieldAddr rfl) rfl ?_
    refine WL.r (V.load1 0 rfl rfl rfl) rfl ?_
    refine WL.v (V.move rfl) rfl ?_
    refine WL.callB (k.Take4 (bud b) hb64 hv.1 hv.2 hL hring htk (by rw [hover]; simp) (by omega) hnd) (wk 2) rfl rfl rfl ?_
    rintro _ _ ⟨k1, hx1, hv1, rfl, rfl⟩
    rw [show k.p = k1.p from by rw [KW.p, KW.p, hx1]]
    refine WL.v (V.assign rfl) rfl ?_
    refine WL.done ?_
    refine WS.seq ?_
    refine WS.region ?_
    refine WL.v (V.move rfl) rfl ?_
    refine WL.v (V.fieldAddr rfl) rfl ?_
    refine WL.r (V.load1 0 rfl rfl rfl) rfl ?_
    refine WL.v (V.move rfl) rfl ?_
    refine WL.callB (k1.Run (bud b) (by omega) (by rw [hv1]; exact hgood)) (wk 2) rfl rfl rfl ?_
    rintro _ _ ⟨k2, hx2, hv2, rfl, rfl⟩
    refine WL.done ?_
    refine WS.seq ?_
    refine WS.region ?_
    refine WL.v (V.move rfl) rfl ?_
    refine WL.v (V.assign rfl) rfl ?_
    refine WL.done ?_
    refine WS.pick (wk 2) rfl ?_
    refine WS.ret rfl ?_
    refine ⟨k2, hx2.trans hx1, ?_, ?_, rfl⟩
    · rw [hv2, hv1, hx1]; simp [AS.enter, hv]
    · simp [AS.enter, hv, retV]
end Go.Proofs
