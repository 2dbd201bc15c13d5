/- Part of the proof: W16. -/
import Derived.Test.YtjdjialgjmphjaaGreatW15
set_option linter.all false
set_option maxRecDepth 100000
set_option maxHeartbeats 8000000
namespace Go.Proofs
open Go Go.Sep
attribute [local irreducible] WS WL WH WHT OpV OpR

/-! ## a request begins -/

def AS.started (a : AS) (q : Req) : AS := { a with L := a.L.map (fun r => if r.id = q.id then { q with started := true } else r) }

/-- Start, where the request is there and has not begun, and its act ends -/
theorem KW.StartR (k : KW) (id : ID) (q : Req) (a : AS) (e : End) (hf : k.t.find id = some q) (hr : id.ring = 4) (hs : q.started = false) (hb : k.t.L.length ≤ 12)
    (hd : ∀ k1 : KW, k1.x = k.x → k1.view = k.view.started q → Does k1 { q with started := true } id a e)
    (ho : a.over.length ≤ 1000) (hj : a.J.length ≤ 1000) (haL : a.L.length ≤ 12) :
    Spec Tryz.prog 37 [k.p, kID id] k.chs (fun v A => ∃ k' : KW, k'.x = k.x ∧ k'.view = (if e.waits then a else a.decide k.x.cqb 12 id e.res e.val) ∧ v = B true ∧ A = k'.chs) := by
  have hget := k.Get id
  rw [hf] at hget
  refine Spec.of Tryz.func37 rfl Tryz.call37 rfl (fun R => ?_)
  refine WS.seq ?_
  refine WS.region ?_
  refine WL.box rfl rfl ?_
  intro bx
  refine WL.v (V.assign rfl) rfl ?_
  refine WL.done ?_
  refine WS.seq ?_
  refine WS.regionM (X := Nat) (fun r => [(6, B true), (5, ptr r 0), (3, ptr bx 0), (0, k.p)])
    (fun r => blk r 210 (encR q) :: blk bx 41 (cellsV (kID id)) :: k.chs) [blk bx 41 (cellsV (kID id))] Tryz.mixed rfl ?_ ?_
  · refine WH.pick rfl ?_
    refine WHT.v (V.move rfl) rfl rfl rfl rfl ?_
    refine WH.pick rfl ?_
    refine WHT.rh (V.loadN 0 rfl rfl rfl) rfl (by simp) rfl rfl rfl rfl ?_
    (refine WH.two rfl rfl rfl rfl rfl ?_ ?_) <;> intro _ _
    rotate_left
    refine WL.alloc rfl ?_; intro r_
    refine WL.nextH (ok := by assumption) (hns := by assumption) (by simp) ?_
    refine WH.big rfl rfl rfl ?_; intro _ _
    rotate_left
    · refine WL.callB k.Reqs (wk 1) rfl rfl rfl ?_
      rintro _ _ ⟨rfl, rfl⟩
      refine WL.nextH (ok := by assumption) (hns := by assumption) (by simp) ?_
      (refine WH.two rfl rfl rfl rfl rfl ?_ ?_) <;> intro _ _
      rotate_left
      refine WL.alloc rfl ?_; intro r_
      refine WL.nextH (ok := by assumption) (hns := by assumption) (by simp) ?_
      refine WH.big rfl rfl rfl ?_; intro _ _
      rotate_left
      · refine WL.callB hget (wk 1) rfl rfl rfl ?_
        rintro _ _ ⟨rfl, rfl⟩
        refine WL.nextH (ok := by assumption) (hns := by assumption) (by simp) ?_
        refine WH.pick rfl ?_
        refine WHT.v (V.move rfl) rfl rfl rfl rfl ?_
        refine WH.pick rfl ?_
        refine WHT.v (V.extractL rfl rfl) rfl rfl rfl rfl ?_
        refine WH.pick rfl ?_
        refine WHT.v (V.extractL rfl rfl) rfl rfl rfl rfl ?_
        refine WH.big rfl rfl rfl ?_; intro _ _
        refine WL.alloc rfl ?_; intro r_
        refine WL.nextH (ok := by assumption) (hns := by assumption) (by simp) ?_
        refine WH.bigSt rfl rfl rfl ?_; intro _ _
        refine WL.store 0 rfl rfl rfl rfl rfl rfl ?_
        refine WL.nextH (ok := by assumption) (hns := by assumption) (by simp) ?_
        refine WH.pick rfl ?_
        refine WHT.v (V.assign rfl) rfl rfl rfl rfl ?_
        exact WH.doneM r_ (subEnv_restr [6, 5, 3, 0] rfl rfl) (0 :: 0 :: wk 0) rfl
      · refine WL.callB hget (wk 2) rfl rfl rfl ?_
        rintro _ _ ⟨rfl, rfl⟩
        refine WL.nextH (ok := by assumption) (hns := by assumption) (by simp) ?_
        refine WH.pick rfl ?_
        refine WHT.v (V.move rfl) rfl rfl rfl rfl ?_
        refine WH.pick rfl ?_
        refine WHT.v (V.extractL rfl rfl) rfl rfl rfl rfl ?_
        refine WH.pick rfl ?_
        refine WHT.v (V.extractL rfl rfl) rfl rfl rfl rfl ?_
        refine WH.bigSt rfl rfl rfl ?_; intro _ _
        refine WL.store 0 rfl rfl rfl rfl rfl rfl ?_
        refine WL.nextH (ok := by assumption) (hns := by assumption) (by simp) ?_
        refine WH.pick rfl ?_
        refine WHT.v (V.assign rfl) rfl rfl rfl rfl ?_
        exact WH.doneM r_ (subEnv_restr [6, 5, 3, 0] rfl rfl) (0 :: 0 :: wk 0) rfl
    · refine WL.callB k.Reqs (wk 2) rfl rfl rfl ?_
      rintro _ _ ⟨rfl, rfl⟩
      refine WL.nextH (ok := by assumption) (hns := by assumption) (by simp) ?_
      refine WH.big rfl rfl rfl ?_; intro _ _
      refine WL.callB hget (wk 2) rfl rfl rfl ?_
      rintro _ _ ⟨rfl, rfl⟩
      refine WL.nextH (ok := by assumption) (hns := by assumption) (by simp) ?_
      refine WH.pick rfl ?_
      refine WHT.v (V.move rfl) rfl rfl rfl rfl ?_
      refine WH.pick rfl ?_
      refine WHT.v (V.extractL rfl rfl) rfl rfl rfl rfl ?_
      refine WH.pick rfl ?_
      refine WHT.v (V.extractL rfl rfl) rfl rfl rfl rfl ?_
      refine WH.bigSt rfl rfl rfl ?_; intro _ _
      refine WL.store 0 rfl rfl rfl rfl rfl rfl ?_
      refine WL.nextH (ok := by assumption) (hns := by assumption) (by simp) ?_
      refine WH.pick rfl ?_
      refine WHT.v (V.assign rfl) rfl rfl rfl rfl ?_
      exact WH.doneM r_ (subEnv_restr [6, 5, 3, 0] rfl rfl) (0 :: 0 :: wk 0) rfl
  · intro r1
    refine WS.seq ?_
    refine WS.seq ?_
    refine WS.region ?_
    refine WL.v (V.move rfl) rfl ?_
    refine WL.v (V.not rfl) rfl ?_
    refine WL.v (V.move rfl) rfl ?_
    refine WL.gy rfl rfl ?_
    refine WL.v (V.fieldAddr rfl) rfl ?_
    refine WL.gy rfl rfl ?_
    refine WL.r (V.load1 0 rfl rfl rfl) rfl ?_
    refine WL.v (V.pickF rfl rfl) rfl ?_
    refine WL.done ?_
    rw [hs]
    refine WS.condF rfl ?_
    refine WS.skip ?_
    refine WS.seq ?_
    refine WS.regionK [1] rfl Tryz.mixed rfl ?_
    refine WH.pick rfl ?_
    refine WHT.v (V.move rfl) rfl rfl rfl rfl ?_
    refine WH.pick rfl ?_
    refine WHT.rh (V.loadN 0 rfl rfl rfl) rfl (by simp) rfl rfl rfl rfl ?_
    refine WH.big rfl rfl rfl ?_; intro _ _
    refine WL.callB k.Reqs (wk 2) rfl rfl rfl ?_
    rintro _ _ ⟨rfl, rfl⟩
    refine WL.nextH (ok := by assumption) (hns := by assumption) (by simp) ?_
    refine WH.big rfl rfl rfl ?_; intro _ _
    refine WL.callB (k.Start id q hf) (wk 2) rfl rfl rfl ?_
    rintro _ _ ⟨t', ht', rfl, rfl⟩
    generalize hk1 : ({ k with t := t' } : KW) = k1
    have hx1 : k1.x = k.x := by rw [← hk1]
    have hv1 : k1.view = k.view.started q := by rw [← hk1]; simp only [KW.view, AS.started, ht', RT.upd]
    have hd1 := hd k1 hx1 hv1
    have hL1 : k1.t.L = k.t.upd { q with started := true } := by rw [← hk1]; exact ht'
    have hf1 : k1.t.find id = some { q with started := true } := by
      have hid := find_id hf
      unfold RT.find
      rw [hL1]
      unfold RT.upd
      rw [List.find?_map]
      have : (List.find? ((fun r : Req => decide (r.id = id)) ∘ fun r => if r.id = ({ q with started := true } : Req).id then { q with started := true } else r) k.t.L) = k.t.L.find? (fun r => decide (r.id = id)) := by
        congr 1
        funext r
        simp only [Function.comp]
        split
        · rename_i h; simp [h, hid]
        · rfl
      rw [this]
      have hf' : k.t.L.find? (fun r => decide (r.id = id)) = some q := hf
      rw [hf']
      simp
    rw [show k.p = k1.p from by rw [KW.p, KW.p, hx1]]
    refine WL.nextH (ok := by assumption) (hns := by assumption) (by simp) ?_
    refine WH.done ?_
    refine WS.seq ?_
    refine WS.seq ?_
    refine WS.region ?_
    refine WL.v (V.move rfl) rfl ?_
    refine WL.r (V.loadN 1 rfl rfl rfl) rfl ?_
    refine WL.callB (k1.Act id _ a e hf1 hr hd1) (wk 2) rfl rfl rfl ?_
    rintro _ _ ⟨k2, hx2, hv2, rfl, rfl⟩
    rw [show k1.p = k2.p from by rw [KW.p, KW.p, hx2]]
    obtain ⟨res, val, waits⟩ := e
    cases waits
    · refine WL.v (V.move rfl) rfl ?_
      refine WL.v (V.extractL rfl rfl) rfl ?_
      refine WL.v (V.extractL rfl rfl) rfl ?_
      refine WL.v (V.extractL rfl rfl) rfl ?_
      refine WL.v (V.assign rfl) rfl ?_
      refine WL.v (V.assign rfl) rfl ?_
      refine WL.v (V.assign rfl) rfl ?_
      refine WL.done ?_
      refine WS.seq ?_
      refine WS.region ?_
      refine WL.v (V.move rfl) rfl ?_
      refine WL.done ?_
      refine WS.condT rfl ?_
      refine WS.region ?_
      refine WL.v (V.move rfl) rfl ?_
      refine WL.r (V.loadN 1 rfl rfl rfl) rfl ?_
      refine WL.v (V.move rfl) rfl ?_
      refine WL.v (V.move rfl) rfl ?_
      have hLe : k2.t.L = a.L := congrArg AS.L hv2
      have hoe : k2.r.over.xs = a.over := congrArg AS.over hv2
      have hje : k2.j.xs = a.J := congrArg AS.J hv2
      refine WL.callB (KW.Decide 12 k2 id res val (by rw [hLe]; exact haL) (by rw [hLe]; exact haL) hr (by rw [hoe]; omega) (by rw [hje]; omega)) (wk 2) rfl rfl rfl ?_
      rintro _ _ ⟨k3, hx3, hv3, rfl, rfl⟩
      refine WL.done ?_
      refine WS.seq ?_
      refine WS.region ?_
      refine WL.v (V.assign rfl) rfl ?_
      refine WL.done ?_
      refine WS.pick (wk 2) rfl ?_
      refine WS.ret rfl ?_
      refine ⟨k3, hx3.trans (hx2.trans hx1), ?_, rfl, rfl⟩
      rw [hv3, hv2, hx2, hx1]
      rfl
    · refine WL.v (V.move rfl) rfl ?_
      refine WL.v (V.extractL rfl rfl) rfl ?_
      refine WL.v (V.extractL rfl rfl) rfl ?_
      refine WL.v (V.extractL rfl rfl) rfl ?_
      refine WL.v (V.assign rfl) rfl ?_
      refine WL.v (V.assign rfl) rfl ?_
      refine WL.v (V.assign rfl) rfl ?_
      refine WL.done ?_
      refine WS.seq ?_
      refine WS.region ?_
      refine WL.v (V.move rfl) rfl ?_
      refine WL.done ?_
      refine WS.condF rfl ?_
      refine WS.skip ?_
      refine WS.seq ?_
      refine WS.region ?_
      refine WL.v (V.assign rfl) rfl ?_
      refine WL.done ?_
      refine WS.pick (wk 2) rfl ?_
      refine WS.ret rfl ?_
      exact ⟨k2, hx2.trans hx1, hv2, rfl, rfl⟩
end Go.Proofs
