/- Part of the proof: W14. -/
import Derived.Test.YtjdjialgjmphjaaGreatW13
import Derived.Test.YtjdjialgjmphjaaGreatS5
set_option linter.all false
set_option maxRecDepth 100000
set_option maxHeartbeats 8000000
namespace Go.Proofs
open Go Go.Sep
attribute [local irreducible] WS WL WH WHT OpV OpR

/-! ## a request's end -/

def AS.decide (cb : Nat) : Nat → AS → ID → Int → UInt32 → AS
  | 0, a, _, _, _ => a
  | n + 1, a, id, res, val => match a.find id with
    | none => a
    | some r =>
      let a1 := (a.drop id).tell cb ⟨id.ring, id.seq, r.e.tag, r.e.op, res, val, false⟩
      match a1.after id with
      | none => a1
      | some nx => if (nx.soft && Decidable.decide (res < 0)) = true then AS.decide cb n a1 nx.id (-9) 0 else a1

theorem AS.post_over (cb : Nat) (a : AS) (c : Cqe) : (a.post cb c).over.length ≤ a.over.length + 1 ∧ (a.post cb c).L = a.L ∧ (a.post cb c).J = a.J := by
  unfold AS.post
  split
  · exact ⟨by simp [AS.out, AS.wr], rfl, rfl⟩
  · simp

/-- there is no such request -/
theorem KW.Decide_none (k : KW) (id : ID) (res : Int) (val : UInt32) (a : AS) (hf : k.t.find id = none) (ha : a = k.view) :
    Spec Tryz.prog 154 [k.p, kID id, I res, U val] k.chs (fun v A => ∃ k' : KW, k'.x = k.x ∧ k'.view = a ∧ v = B (k.t.find id).isSome ∧ A = k'.chs) := by
  refine Spec.of Tryz.func154 rfl Tryz.call154 rfl (fun R => ?_)
  refine WS.seq ?_
  refine WS.region ?_
  refine WL.box rfl rfl ?_
  intro bx
  refine WL.v (V.assign rfl) rfl ?_
  refine WL.done ?_
  refine WS.seq ?_
  refine WS.regionM (X := Nat) (fun r => [(10, B (k.t.find id).isSome), (9, ptr r 0), (5, ptr bx 0), (0, k.p), (2, I res), (3, U val)])
    (fun r => blk r 210 (encR ((k.t.find id).getD zR)) :: blk bx 41 (cellsV (kID id)) :: k.chs) [blk bx 41 (cellsV (kID id))] Tryz.mixed rfl ?_ ?_
  · refine WH.pick rfl ?_
    refine WHT.v (V.move rfl) rfl rfl rfl rfl ?_
    refine WH.pick rfl ?_
    refine WHT.rh (V.loadN 0 rfl rfl rfl) rfl (by simp) rfl rfl rfl rfl ?_
    (refine WH.two rfl rfl rfl rfl rfl ?_ ?_) <;> intro _ _
    rotate_left
    refine WL.alloc rfl ?_; intro r_
    refine WL.nextH (ok := by assumption) (hns := by assumption) (by simp) ?_
    refine WH.big rfl rfl rfl ?_; intro _ _
    rotate_left
    · refine WL.callB k.Reqs (wk 1) rfl rfl rfl ?_
      rintro _ _ ⟨rfl, rfl⟩
      refine WL.nextH (ok := by assumption) (hns := by assumption) (by simp) ?_
      (refine WH.two rfl rfl rfl rfl rfl ?_ ?_) <;> intro _ _
      rotate_left
      refine WL.alloc rfl ?_; intro r_
      refine WL.nextH (ok := by assumption) (hns := by assumption) (by simp) ?_
      refine WH.big rfl rfl rfl ?_; intro _ _
      rotate_left
      · refine WL.callB (k.Get id) (wk 1) rfl rfl rfl ?_
        rintro _ _ ⟨rfl, rfl⟩
        refine WL.nextH (ok := by assumption) (hns := by assumption) (by simp) ?_
        refine WH.pick rfl ?_
        refine WHT.v (V.move rfl) rfl rfl rfl rfl ?_
        refine WH.pick rfl ?_
        refine WHT.v (V.extractL rfl rfl) rfl rfl rfl rfl ?_
        refine WH.pick rfl ?_
        refine WHT.v (V.extractL rfl rfl) rfl rfl rfl rfl ?_
        refine WH.big rfl rfl rfl ?_; intro _ _
        refine WL.alloc rfl ?_; intro r_
        refine WL.nextH (ok := by assumption) (hns := by assumption) (by simp) ?_
        refine WH.bigSt rfl rfl rfl ?_; intro _ _
        refine WL.store 0 rfl rfl rfl rfl rfl rfl ?_
        refine WL.nextH (ok := by assumption) (hns := by assumption) (by simp) ?_
        refine WH.pick rfl ?_
        refine WHT.v (V.assign rfl) rfl rfl rfl rfl ?_
        exact WH.doneM r_ (subEnv_restr [10, 9, 5, 0, 2, 3] rfl rfl) (0 :: 0 :: wk 0) rfl
      · refine WL.callB (k.Get id) (wk 2) rfl rfl rfl ?_
        rintro _ _ ⟨rfl, rfl⟩
        refine WL.nextH (ok := by assumption) (hns := by assumption) (by simp) ?_
        refine WH.pick rfl ?_
        refine WHT.v (V.move rfl) rfl rfl rfl rfl ?_
        refine WH.pick rfl ?_
        refine WHT.v (V.extractL rfl rfl) rfl rfl rfl rfl ?_
        refine WH.pick rfl ?_
        refine WHT.v (V.extractL rfl rfl) rfl rfl rfl rfl ?_
        refine WH.bigSt rfl rfl rfl ?_; intro _ _
        refine WL.store 0 rfl rfl rfl rfl rfl rfl ?_
        refine WL.nextH (ok := by assumption) (hns := by assumption) (by simp) ?_
        refine WH.pick rfl ?_
        refine WHT.v (V.assign rfl) rfl rfl rfl rfl ?_
        exact WH.doneM r_ (subEnv_restr [10, 9, 5, 0, 2, 3] rfl rfl) (0 :: 0 :: wk 0) rfl
    · refine WL.callB k.Reqs (wk 2) rfl rfl rfl ?_
      rintro _ _ ⟨rfl, rfl⟩
      refine WL.nextH (ok := by assumption) (hns := by assumption) (by simp) ?_
      refine WH.big rfl rfl rfl ?_; intro _ _
      refine WL.callB (k.Get id) (wk 2) rfl rfl rfl ?_
      rintro _ _ ⟨rfl, rfl⟩
      refine WL.nextH (ok := by assumption) (hns := by assumption) (by simp) ?_
      refine WH.pick rfl ?_
      refine WHT.v (V.move rfl) rfl rfl rfl rfl ?_
      refine WH.pick rfl ?_
      refine WHT.v (V.extractL rfl rfl) rfl rfl rfl rfl ?_
      refine WH.pick rfl ?_
      refine WHT.v (V.extractL rfl rfl) rfl rfl rfl rfl ?_
      refine WH.bigSt rfl rfl rfl ?_; intro _ _
      refine WL.store 0 rfl rfl rfl rfl rfl rfl ?_
      refine WL.nextH (ok := by assumption) (hns := by assumption) (by simp) ?_
      refine WH.pick rfl ?_
      refine WHT.v (V.assign rfl) rfl rfl rfl rfl ?_
      exact WH.doneM r_ (subEnv_restr [10, 9, 5, 0, 2, 3] rfl rfl) (0 :: 0 :: wk 0) rfl
  · intro r1
    rw [hf]
    refine WS.seq ?_
    refine WS.seq ?_
    refine WS.region ?_
    refine WL.v (V.move rfl) rfl ?_
    refine WL.v (V.not rfl) rfl ?_
    refine WL.done ?_
    refine WS.condT rfl ?_
    refine WS.seq ?_
    refine WS.region ?_
    refine WL.v (V.assign rfl) rfl ?_
    refine WL.done ?_
    refine WS.pick (wk 2) rfl ?_
    refine WS.ret rfl ?_
    exact ⟨k, rfl, ha.symm, rfl, rfl⟩

theorem KW.Decide : ∀ (n : Nat) (k : KW) (id : ID) (res : Int) (val : UInt32), k.t.L.length ≤ n → k.t.L.length ≤ 12 → id.ring = 4 → k.r.over.xs.length + n ≤ 100000 → k.j.xs.length + n ≤ 100000 →
    Spec Tryz.prog 154 [k.p, kID id, I res, U val] k.chs (fun v A => ∃ k' : KW, k'.x = k.x ∧ k'.view = k.view.decide k.x.cqb n id res val ∧ v = B (k.t.find id).isSome ∧ A = k'.chs) := by
  intro n
  induction n with
  | zero =>
    intro k id res val hn _ hr ho hj
    have hL : k.t.L = [] := List.length_eq_zero_iff.1 (by omega)
    have hf : k.t.find id = none := by simp [RT.find, hL]
    exact KW.Decide_none k id res val _ hf rfl
  | succ n ihn =>
    intro k id res val hn hL hr ho hj
    refine Spec.of Tryz.func154 rfl Tryz.call154 rfl (fun R => ?_)
    refine WS.seq ?_
    refine WS.region ?_
    refine WL.box rfl rfl ?_
    intro bx
    refine WL.v (V.assign rfl) rfl ?_
    refine WL.done ?_
    refine WS.seq ?_
    refine WS.regionM (X := Nat) (fun r => [(10, B (k.t.find id).isSome), (9, ptr r 0), (5, ptr bx 0), (0, k.p), (2, I res), (3, U val)])
      (fun r => blk r 210 (encR ((k.t.find id).getD zR)) :: blk bx 41 (cellsV (kID id)) :: k.chs) [blk bx 41 (cellsV (kID id))] Tryz.mixed rfl ?_ ?_
    · refine WH.pick rfl ?_
      refine WHT.v (V.move rfl) rfl rfl rfl rfl ?_
      refine WH.pick rfl ?_
      refine WHT.rh (V.loadN 0 rfl rfl rfl) rfl (by simp) rfl rfl rfl rfl ?_
      (refine WH.two rfl rfl rfl rfl rfl ?_ ?_) <;> intro _ _
      rotate_left
      refine WL.alloc rfl ?_; intro r_
      refine WL.nextH (ok := by assumption) (hns := by assumption) (by simp) ?_
      refine WH.big rfl rfl rfl ?_; intro _ _
      rotate_left
      · refine WL.callB k.Reqs (wk 1) rfl rfl rfl ?_
        rintro _ _ ⟨rfl, rfl⟩
        refine WL.nextH (ok := by assumption) (hns := by assumption) (by simp) ?_
        (refine WH.two rfl rfl rfl rfl rfl ?_ ?_) <;> intro _ _
        rotate_left
        refine WL.alloc rfl ?_; intro r_
        refine WL.nextH (ok := by assumption) (hns := by assumption) (by simp) ?_
        refine WH.big rfl rfl rfl ?_; intro _ _
        rotate_left
        · refine WL.callB (k.Get id) (wk 1) rfl rfl rfl ?_
          rintro _ _ ⟨rfl, rfl⟩
          refine WL.nextH (ok := by assumption) (hns := by assumption) (by simp) ?_
          refine WH.pick rfl ?_
          refine WHT.v (V.move rfl) rfl rfl rfl rfl ?_
          refine WH.pick rfl ?_
          refine WHT.v (V.extractL rfl rfl) rfl rfl rfl rfl ?_
          refine WH.pick rfl ?_
          refine WHT.v (V.extractL rfl rfl) rfl rfl rfl rfl ?_
          refine WH.big rfl rfl rfl ?_; intro _ _
          refine WL.alloc rfl ?_; intro r_
          refine WL.nextH (ok := by assumption) (hns := by assumption) (by simp) ?_
          refine WH.bigSt rfl rfl rfl ?_; intro _ _
          refine WL.store 0 rfl rfl rfl rfl rfl rfl ?_
          refine WL.nextH (ok := by assumption) (hns := by assumption) (by simp) ?_
          refine WH.pick rfl ?_
          refine WHT.v (V.assign rfl) rfl rfl rfl rfl ?_
          exact WH.doneM r_ (subEnv_restr [10, 9, 5, 0, 2, 3] rfl rfl) (0 :: 0 :: wk 0) rfl
        · refine WL.callB (k.Get id) (wk 2) rfl rfl rfl ?_
          rintro _ _ ⟨rfl, rfl⟩
          refine WL.nextH (ok := by assumption) (hns := by assumption) (by simp) ?_
          refine WH.pick rfl ?_
          refine WHT.v (V.move rfl) rfl rfl rfl rfl ?_
          refine WH.pick rfl ?_
          refine WHT.v (V.extractL rfl rfl) rfl rfl rfl rfl ?_
          refine WH.pick rfl ?_
          refine WHT.v (V.extractL rfl rfl) rfl rfl rfl rfl ?_
          refine WH.bigSt rfl rfl rfl ?_; intro _ _
          refine WL.store 0 rfl rfl rfl rfl rfl rfl ?_
          refine WL.nextH (ok := by assumption) (hns := by assumption) (by simp) ?_
          refine WH.pick rfl ?_
          refine WHT.v (V.assign rfl) rfl rfl rfl rfl ?_
          exact WH.doneM r_ (subEnv_restr [10, 9, 5, 0, 2, 3] rfl rfl) (0 :: 0 :: wk 0) rfl
      · refine WL.callB k.Reqs (wk 2) rfl rfl rfl ?_
        rintro _ _ ⟨rfl, rfl⟩
        refine WL.nextH (ok := by assumption) (hns := by assumption) (by simp) ?_
        refine WH.big rfl rfl rfl ?_; intro _ _
        refine WL.callB (k.Get id) (wk 2) rfl rfl rfl ?_
        rintro _ _ ⟨rfl, rfl⟩
        refine WL.nextH (ok := by assumption) (hns := by assumption) (by simp) ?_
        refine WH.pick rfl ?_
        refine WHT.v (V.move rfl) rfl rfl rfl rfl ?_
        refine WH.pick rfl ?_
        refine WHT.v (V.extractL rfl rfl) rfl rfl rfl rfl ?_
        refine WH.pick rfl ?_
        refine WHT.v (V.extractL rfl rfl) rfl rfl rfl rfl ?_
        refine WH.bigSt rfl rfl rfl ?_; intro _ _
        refine WL.store 0 rfl rfl rfl rfl rfl rfl ?_
        refine WL.nextH (ok := by assumption) (hns := by assumption) (by simp) ?_
        refine WH.pick rfl ?_
        refine WHT.v (V.assign rfl) rfl rfl rfl rfl ?_
        exact WH.doneM r_ (subEnv_restr [10, 9, 5, 0, 2, 3] rfl rfl) (0 :: 0 :: wk 0) rfl
    · intro r1
      cases hf : k.t.find id with
      | none =>
        refine WS.seq ?_
        refine WS.seq ?_
        refine WS.region ?_
        refine WL.v (V.move rfl) rfl ?_
        refine WL.v (V.not rfl) rfl ?_
        refine WL.done ?_
        refine WS.condT rfl ?_
        refine WS.seq ?_
        refine WS.region ?_
        refine WL.v (V.assign rfl) rfl ?_
        refine WL.done ?_
        refine WS.pick (wk 2) rfl ?_
        refine WS.ret rfl ?_
        refine ⟨k, rfl, ?_, rfl, rfl⟩
        have : k.view.find id = none := hf
        simp only [AS.decide, this]
      | some q =>
        refine WS.seq ?_
        refine WS.seq ?_
        refine WS.region ?_
        refine WL.v (V.move rfl) rfl ?_
        refine WL.v (V.not rfl) rfl ?_
        refine WL.done ?_
        refine WS.condF rfl ?_
        refine WS.skip ?_
        refine WS.seq ?_
        refine WS.regionK [1] rfl Tryz.mixed rfl ?_
        refine WH.pick rfl ?_
        refine WHT.v (V.move rfl) rfl rfl rfl rfl ?_
        refine WH.pick rfl ?_
        refine WHT.rh (V.loadN 0 rfl rfl rfl) rfl (by simp) rfl rfl rfl rfl ?_
        refine WH.big rfl rfl rfl ?_; intro _ _
        refine WL.callB k.Reqs (wk 2) rfl rfl rfl ?_
        rintro _ _ ⟨rfl, rfl⟩
        refine WL.nextH (ok := by assumption) (hns := by assumption) (by simp) ?_
        refine WH.big rfl rfl rfl ?_; intro _ _
        refine WL.callB (k.Drop id) (wk 2) rfl rfl rfl ?_
        rintro _ _ ⟨rfl, rfl⟩
        refine WL.nextH (ok := by assumption) (hns := by assumption) (by simp) ?_
        refine WH.done ?_
        refine WS.seq ?_
        refine WS.region ?_
        refine WL.v (V.move rfl) rfl ?_
        refine WL.r (V.loadN 1 rfl rfl rfl) rfl ?_
        refine WL.callB ((k.drop id).Forget id) (wk 2) rfl rfl rfl ?_
        rintro _ _ rfl
        refine WL.done ?_
        refine WS.seq ?_
        refine WS.region ?_
        refine WL.v (V.move rfl) rfl ?_
        refine WL.r (V.loadN 1 rfl rfl rfl) rfl ?_
        refine WL.v (V.fieldAddr rfl) rfl ?_
        refine WL.v (V.fieldAddr rfl) rfl ?_
        refine WL.r (V.load1 0 rfl rfl rfl) rfl ?_
        refine WL.v (V.fieldAddr rfl) rfl ?_
        refine WL.v (V.fieldAddr rfl) rfl ?_
        refine WL.r (V.load1 0 rfl rfl rfl) rfl ?_
        refine WL.v (V.move rfl) rfl ?_
        refine WL.v (V.move rfl) rfl ?_
        refine WL.v (V.build rfl rfl rfl) rfl ?_
        refine WL.callB ((k.drop id).Tell ⟨id.ring, id.seq, q.e.tag, q.e.op, res, val, false⟩ hr (by show k.r.over.xs.length ≤ _; omega) (by show k.j.xs.length ≤ _; omega)) (wk 2) rfl rfl rfl ?_
        rintro _ _ ⟨k2, hx2, hv2, rfl⟩
        have hx : k2.x = k.x := hx2
        have hqL : q ∈ k.t.L := find_mem hf
        have hpo := AS.post_over k.x.cqb { (k.drop id).view with J := (k.drop id).view.J ++ [⟨id.ring, id.seq, q.e.tag, q.e.op, res, val, false⟩] } (Cqe.of ⟨id.ring, id.seq, q.e.tag, q.e.op, res, val, false⟩)
        have hv2' : k2.view = AS.post k.x.cqb { (k.drop id).view with J := (k.drop id).view.J ++ [⟨id.ring, id.seq, q.e.tag, q.e.op, res, val, false⟩] } (Cqe.of ⟨id.ring, id.seq, q.e.tag, q.e.op, res, val, false⟩) := hv2
        rw [← hv2'] at hpo
        have hL2 : k2.t.L = k.t.L.filter (fun r => Decidable.decide (r.id ≠ id)) := hpo.2.1
        have ho2 : k2.r.over.xs.length ≤ k.r.over.xs.length + 1 := hpo.1
        have hj2 : k2.j.xs.length = k.j.xs.length + 1 := by
          have h : k2.j.xs = k.j.xs ++ [_] := hpo.2.2
          rw [h]; simp
        have hlt : k2.t.L.length < k.t.L.length := by
          rw [hL2, List.length_filter_lt_length_iff_exists]
          exact ⟨q, hqL, by simp [find_id hf]⟩
        have hofl : (k2.t.of id.ring).length ≤ 12 := Nat.le_trans (List.length_filter_le _ _) (by omega)
        have hfv : k.view.find id = some q := hf
        have hav : k2.view.after id = k2.t.after id := rfl
        have hd : k.view.decide k.x.cqb (n + 1) id res val = match k2.t.after id with
            | none => k2.view
            | some nx => if (nx.soft && Decidable.decide (res < 0)) = true then AS.decide k.x.cqb n k2.view nx.id (-9) 0 else k2.view := by
          have e : (k.view.drop id).tell k.x.cqb ⟨id.ring, id.seq, q.e.tag, q.e.op, res, val, false⟩ = k2.view := by rw [hv2]; rfl
          simp only [AS.decide, hfv, e, hav]
        rw [hd]
        rw [show k.p = k2.p from by rw [KW.p, KW.p, hx]]
        refine WL.done ?_
        refine WS.seq ?_
        refine WS.seq ?_
        refine WS.regionM (X := Nat) (fun r => [(12, B (k2.t.after id).isSome), (11, ptr r 0), (0, k2.p), (2, I res)])
          (fun r => blk r 210 (encR ((k2.t.after id).getD zR)) :: k2.chs) [blk bx 41 (cellsV (kID id))] Tryz.mixed rfl ?_ ?_
        · refine WH.pick rfl ?_
          refine WHT.v (V.move rfl) rfl rfl rfl rfl ?_
          refine WH.pick rfl ?_
          refine WHT.rh (V.loadN 0 rfl rfl rfl) rfl (by simp) rfl rfl rfl rfl ?_
          (refine WH.two rfl rfl rfl rfl rfl ?_ ?_) <;> intro _ _
          rotate_left
          refine WL.alloc rfl ?_; intro r_
          refine WL.nextH (ok := by assumption) (hns := by assumption) (by simp) ?_
          refine WH.big rfl rfl rfl ?_; intro _ _
          rotate_left
          · refine WL.callB k2.Reqs (wk 2) rfl rfl rfl ?_
            rintro _ _ ⟨rfl, rfl⟩
            refine WL.nextH (ok := by assumption) (hns := by assumption) (by simp) ?_
            (refine WH.two rfl rfl rfl rfl rfl ?_ ?_) <;> intro _ _
            rotate_left
            refine WL.alloc rfl ?_; intro r_
            refine WL.nextH (ok := by assumption) (hns := by assumption) (by simp) ?_
            refine WH.big rfl rfl rfl ?_; intro _ _
            rotate_left
            · refine WL.callB (k2.After id hofl (by omega)) (wk 2) rfl rfl rfl ?_
              rintro _ _ ⟨rfl, rfl⟩
              refine WL.nextH (ok := by assumption) (hns := by assumption) (by simp) ?_
              refine WH.pick rfl ?_
              refine WHT.v (V.move rfl) rfl rfl rfl rfl ?_
              refine WH.pick rfl ?_
              refine WHT.v (V.extractL rfl rfl) rfl rfl rfl rfl ?_
              refine WH.pick rfl ?_
              refine WHT.v (V.extractL rfl rfl) rfl rfl rfl rfl ?_
              refine WH.big rfl rfl rfl ?_; intro _ _
              refine WL.alloc rfl ?_; intro r_
              refine WL.nextH (ok := by assumption) (hns := by assumption) (by simp) ?_
              refine WH.bigSt rfl rfl rfl ?_; intro _ _
              refine WL.store 0 rfl rfl rfl rfl rfl rfl ?_
              refine WL.nextH (ok := by assumption) (hns := by assumption) (by simp) ?_
              refine WH.pick rfl ?_
              refine WHT.v (V.assign rfl) rfl rfl rfl rfl ?_
              exact WH.doneM r_ (subEnv_restr [12, 11, 0, 2] rfl rfl) (0 :: wk 2) rfl
            · refine WL.callB (k2.After id hofl (by omega)) (wk 3) rfl rfl rfl ?_
              rintro _ _ ⟨rfl, rfl⟩
              refine WL.nextH (ok := by assumption) (hns := by assumption) (by simp) ?_
              refine WH.pick rfl ?_
              refine WHT.v (V.move rfl) rfl rfl rfl rfl ?_
              refine WH.pick rfl ?_
              refine WHT.v (V.extractL rfl rfl) rfl rfl rfl rfl ?_
              refine WH.pick rfl ?_
              refine WHT.v (V.extractL rfl rfl) rfl rfl rfl rfl ?_
              refine WH.bigSt rfl rfl rfl ?_; intro _ _
              refine WL.store 0 rfl rfl rfl rfl rfl rfl ?_
              refine WL.nextH (ok := by assumption) (hns := by assumption) (by simp) ?_
              refine WH.pick rfl ?_
              refine WHT.v (V.assign rfl) rfl rfl rfl rfl ?_
              exact WH.doneM r_ (subEnv_restr [12, 11, 0, 2] rfl rfl) (0 :: wk 2) rfl
          · refine WL.callB k2.Reqs (wk 3) rfl rfl rfl ?_
            rintro _ _ ⟨rfl, rfl⟩
            refine WL.nextH (ok := by assumption) (hns := by assumption) (by simp) ?_
            refine WH.big rfl rfl rfl ?_; intro _ _
            refine WL.callB (k2.After id hofl (by omega)) (wk 3) rfl rfl rfl ?_
            rintro _ _ ⟨rfl, rfl⟩
            refine WL.nextH (ok := by assumption) (hns := by assumption) (by simp) ?_
            refine WH.pick rfl ?_
            refine WHT.v (V.move rfl) rfl rfl rfl rfl ?_
            refine WH.pick rfl ?_
            refine WHT.v (V.extractL rfl rfl) rfl rfl rfl rfl ?_
            refine WH.pick rfl ?_
            refine WHT.v (V.extractL rfl rfl) rfl rfl rfl rfl ?_
            refine WH.bigSt rfl rfl rfl ?_; intro _ _
            refine WL.store 0 rfl rfl rfl rfl rfl rfl ?_
            refine WL.nextH (ok := by assumption) (hns := by assumption) (by simp) ?_
            refine WH.pick rfl ?_
            refine WHT.v (V.assign rfl) rfl rfl rfl rfl ?_
            exact WH.doneM r_ (subEnv_restr [12, 11, 0, 2] rfl rfl) (0 :: wk 2) rfl
        · intro r2
          cases haf : k2.t.after id with
          | none =>
            refine WS.seq ?_
            refine WS.region ?_
            refine WL.v (V.move rfl) rfl ?_
            refine WL.v (V.move rfl) rfl ?_
            refine WL.gn2 rfl rfl rfl rfl ?_
            refine WL.gn2 rfl rfl rfl rfl ?_
            refine WL.v (V.pickF rfl rfl) rfl ?_
            refine WL.v (V.move rfl) rfl ?_
            refine WL.gn2 rfl rfl rfl rfl ?_
            refine WL.gn2 rfl rfl rfl rfl ?_
            refine WL.v (V.pickF rfl rfl) rfl ?_
            refine WL.done ?_
            refine WS.condF rfl ?_
            refine WS.skip ?_
            refine WS.seq ?_
            refine WS.region ?_
            refine WL.v (V.assign rfl) rfl ?_
            refine WL.done ?_
            refine WS.pick (wk 1) rfl ?_
            refine WS.ret rfl ?_
            exact ⟨k2, hx, rfl, rfl, rfl⟩
          | some nx =>
            have hnr : nx.id.ring = 4 := by
              have h1 := List.mem_of_find?_eq_some haf
              have h2 := (List.mem_filter.1 h1).2
              simp at h2
              omega
            rw [show ((some nx).getD zR) = nx from rfl]
            clear hpo hv2' hd
            refine WS.seq ?_
            refine WS.region ?_
            refine WL.v (V.move rfl) rfl ?_
            refine WL.v (V.move rfl) rfl ?_
            refine WL.gy rfl rfl ?_
            refine WL.v (V.fieldAddr rfl) rfl ?_
            refine WL.gy rfl rfl ?_
            refine WL.r (V.load1 0 rfl rfl rfl) rfl ?_
            refine WL.v (V.pickT rfl rfl) rfl ?_
            refine WL.v (V.move rfl) rfl ?_
            cases hs : nx.soft
            · refine WL.gn2 rfl rfl rfl rfl ?_
              refine WL.gn2 rfl rfl rfl rfl ?_
              refine WL.v (V.pickF rfl rfl) rfl ?_
              refine WL.done ?_
              refine WS.condF rfl ?_
              refine WS.skip ?_
              refine WS.seq ?_
              refine WS.region ?_
              refine WL.v (V.assign rfl) rfl ?_
              refine WL.done ?_
              refine WS.pick (wk 1) rfl ?_
              refine WS.ret rfl ?_
              exact ⟨k2, hx, by simp [hs], rfl, rfl⟩
            · refine WL.gy rfl rfl ?_
              refine WL.v (V.move rfl) rfl ?_
              refine WL.gy rfl rfl ?_
              refine WL.v (V.lt rfl rfl) rfl ?_
              refine WL.v (V.pickT rfl rfl) rfl ?_
              refine WL.done ?_
              (refine WS.condD rfl ?_ ?_) <;> intro h_ <;> try (exfalso; omega)
              refine WS.region ?_
              refine WL.v (V.move rfl) rfl ?_
              refine WL.v (V.fieldAddr rfl) rfl ?_
              refine WL.r (V.loadN 0 rfl rfl rfl) rfl ?_
              rotate_left
              refine WS.skip ?_
              refine WS.seq ?_
              refine WS.region ?_
              refine WL.v (V.assign rfl) rfl ?_
              refine WL.done ?_
              rotate_left
              · refine WL.callB (ihn k2 nx.id (-9) 0 (by omega) (by omega) hnr (by omega) (by omega)) (wk 1) rfl rfl rfl ?_
                rintro _ _ ⟨k3, hx3, hv3, rfl, rfl⟩
                refine WL.done ?_
                refine WS.seq ?_
                refine WS.region ?_
                refine WL.v (V.assign rfl) rfl ?_
                refine WL.done ?_
                refine WS.pick (wk 1) rfl ?_
                refine WS.ret rfl ?_
                refine ⟨k3, hx3.trans hx, ?_, rfl, rfl⟩
                rw [hv3, hx]
                simp [hs, h_]
              · refine WS.pick (wk 1) rfl ?_
                refine WS.ret rfl ?_
                exact ⟨k2, hx, by simp [hs, h_], rfl, rfl⟩
end Go.Proofs
