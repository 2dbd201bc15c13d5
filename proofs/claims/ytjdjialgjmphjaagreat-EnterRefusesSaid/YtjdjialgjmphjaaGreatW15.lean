/- Part of the proof: W15. -/
import Derived.Test.YtjdjialgjmphjaaGreatW14
set_option linter.all false
set_option maxRecDepth 100000
set_option maxHeartbeats 8000000
namespace Go.Proofs
open Go Go.Sep
attribute [local irreducible] WS WL WH WHT OpV OpR

/-! ## what an entry does -/

structure End where
  res : Int
  val : UInt32
  waits : Bool
def encE (e : End) : List Value := [I e.res, U e.val, B e.waits]
def actorC (k : KW) (q : Req) (id : ID) : List Value := [k.p] ++ (encTh th1 ++ (encR q ++ [I id.ring, I id.seq]))

/-- what is done of a request comes to this -/
def Does (k : KW) (q : Req) (id : ID) (a : AS) (e : End) : Prop :=
  ∀ ab : Nat, Spec Tryz.prog 158 [ptr ab 0] (blk ab 311 (actorC k q id) :: k.chs) (fun v A => ∃ k' : KW, k'.x = k.x ∧ k'.view = a ∧ v = .agg (encE e).toArray ∧ A = blk ab 311 (actorC k q id) :: k'.chs)

theorem Does.nop (k : KW) (q : Req) (id : ID) (h : q.e.op = 1) : Does k q id k.view ⟨0, 0, false⟩ := by
  intro ab
  refine Spec.of Tryz.func158 rfl Tryz.call158 rfl (fun R => ?_)
  refine WS.seq ?_
  refine WS.region ?_
  refine WL.alloc rfl ?_; intro r_
  refine WL.done ?_
  refine WS.seq ?_
  refine WS.seq ?_
  refine WS.region ?_
  refine WL.v (V.move rfl) rfl ?_
  refine WL.v (V.nilCheck rfl) rfl ?_
  refine WL.v (V.fieldAddr rfl) rfl ?_
  refine WL.v (V.fieldAddr rfl) rfl ?_
  refine WL.v (V.fieldAddr rfl) rfl ?_
  refine WL.r (V.load1 1 rfl rfl rfl) rfl ?_
  refine WL.v (V.assign rfl) rfl ?_
  refine WL.done ?_
  refine WS.seq ?_
  refine WS.region ?_
  refine WL.v (V.move rfl) rfl ?_
  refine WL.done ?_
  refine WS.block ?_
  refine WS.seq ?_
  refine WS.region ?_
  refine WL.v (V.eqi rfl rfl) rfl ?_
  refine WL.v (V.assign rfl) rfl ?_
  refine WL.done ?_
  (refine WS.condD rfl ?_ ?_) <;> intro h_ <;> try (exfalso; omega)
  refine WS.seq ?_
  refine WS.region ?_
  refine WL.v (V.build rfl rfl rfl) rfl ?_
  refine WL.store 0 rfl rfl rfl rfl rfl rfl ?_
  refine WL.done ?_
  refine WS.retM (1 :: wk 1) (.cell rfl (.agg 0 rfl rfl) .nil) rfl ?_
  exact ⟨k, rfl, rfl, rfl, rfl⟩

def actV (e : End) : Value := if e.waits then .tuple #[I 0, U 0, B false] else .tuple #[I e.res, U e.val, B true]

theorem KW.Act (k : KW) (id : ID) (q : Req) (a : AS) (e : End) (hf : k.t.find id = some q) (hr : id.ring = 4) (hd : Does k q id a e) :
    Spec Tryz.prog 41 [k.p, kID id] k.chs (fun v A => ∃ k' : KW, k'.x = k.x ∧ k'.view = a ∧ v = actV e ∧ A = k'.chs) := by
  have hget := k.Get id
  rw [hf] at hget
  refine Spec.of Tryz.func41 rfl Tryz.call41 rfl (fun R => ?_)
  refine WS.seq ?_
  refine WS.region ?_
  refine WL.box rfl rfl ?_
  intro bx
  refine WL.v (V.assign rfl) rfl ?_
  refine WL.v (V.assign rfl) rfl ?_
  refine WL.v (V.assign rfl) rfl ?_
  refine WL.done ?_
  refine WS.seq ?_
  refine WS.regionM (X := Nat) (fun r => [(8, B true), (7, ptr r 0), (3, ptr bx 0), (0, k.p)])
    (fun r => blk r 210 (encR q) :: blk bx 41 (cellsV (kID id)) :: k.chs) [blk bx 41 (cellsV (kID id))] Tryz.mixed rfl ?_ ?_
  · refine WH.pick rfl ?_
    refine WHT.v (V.move rfl) rfl rfl rfl rfl ?_
    refine WH.pick rfl ?_
    refine WHT.rh (V.loadN 0 rfl rfl rfl) rfl (by simp) rfl rfl rfl rfl ?_
    (refine WH.two rfl rfl rfl rfl rfl ?_ ?_) <;> intro _ _
    rotate_left
    refine WL.alloc rfl ?_; intro r_
    refine WL.nextH (ok := by assumption) (hns := by assumption) (by simp) ?_
    refine WH.big rfl rfl rfl ?_; intro _ _
    rotate_left
    · refine WL.callB k.Reqs (wk 1) rfl rfl rfl ?_
      rintro _ _ ⟨rfl, rfl⟩
      refine WL.nextH (ok := by assumption) (hns := by assumption) (by simp) ?_
      (refine WH.two rfl rfl rfl rfl rfl ?_ ?_) <;> intro _ _
      rotate_left
      refine WL.alloc rfl ?_; intro r_
      refine WL.nextH (ok := by assumption) (hns := by assumption) (by simp) ?_
      refine WH.big rfl rfl rfl ?_; intro _ _
      rotate_left
      · refine WL.callB hget (wk 1) rfl rfl rfl ?_
        rintro _ _ ⟨rfl, rfl⟩
        refine WL.nextH (ok := by assumption) (hns := by assumption) (by simp) ?_
        refine WH.pick rfl ?_
        refine WHT.v (V.move rfl) rfl rfl rfl rfl ?_
        refine WH.pick rfl ?_
        refine WHT.v (V.extractL rfl rfl) rfl rfl rfl rfl ?_
        refine WH.pick rfl ?_
        refine WHT.v (V.extractL rfl rfl) rfl rfl rfl rfl ?_
        refine WH.big rfl rfl rfl ?_; intro _ _
        refine WL.alloc rfl ?_; intro r_
        refine WL.nextH (ok := by assumption) (hns := by assumption) (by simp) ?_
        refine WH.bigSt rfl rfl rfl ?_; intro _ _
        refine WL.store 0 rfl rfl rfl rfl rfl rfl ?_
        refine WL.nextH (ok := by assumption) (hns := by assumption) (by simp) ?_
        refine WH.pick rfl ?_
        refine WHT.v (V.assign rfl) rfl rfl rfl rfl ?_
        exact WH.doneM r_ (subEnv_restr [8, 7, 3, 0] rfl rfl) (0 :: 0 :: wk 0) rfl
      · refine WL.callB hget (wk 2) rfl rfl rfl ?_
        rintro _ _ ⟨rfl, rfl⟩
        refine WL.nextH (ok := by assumption) (hns := by assumption) (by simp) ?_
        refine WH.pick rfl ?_
        refine WHT.v (V.move rfl) rfl rfl rfl rfl ?_
        refine WH.pick rfl ?_
        refine WHT.v (V.extractL rfl rfl) rfl rfl rfl rfl ?_
        refine WH.pick rfl ?_
        refine WHT.v (V.extractL rfl rfl) rfl rfl rfl rfl ?_
        refine WH.bigSt rfl rfl rfl ?_; intro _ _
        refine WL.store 0 rfl rfl rfl rfl rfl rfl ?_
        refine WL.nextH (ok := by assumption) (hns := by assumption) (by simp) ?_
        refine WH.pick rfl ?_
        refine WHT.v (V.assign rfl) rfl rfl rfl rfl ?_
        exact WH.doneM r_ (subEnv_restr [8, 7, 3, 0] rfl rfl) (0 :: 0 :: wk 0) rfl
    · refine WL.callB k.Reqs (wk 2) rfl rfl rfl ?_
      rintro _ _ ⟨rfl, rfl⟩
      refine WL.nextH (ok := by assumption) (hns := by assumption) (by simp) ?_
      refine WH.big rfl rfl rfl ?_; intro _ _
      refine WL.callB hget (wk 2) rfl rfl rfl ?_
      rintro _ _ ⟨rfl, rfl⟩
      refine WL.nextH (ok := by assumption) (hns := by assumption) (by simp) ?_
      refine WH.pick rfl ?_
      refine WHT.v (V.move rfl) rfl rfl rfl rfl ?_
      refine WH.pick rfl ?_
      refine WHT.v (V.extractL rfl rfl) rfl rfl rfl rfl ?_
      refine WH.pick rfl ?_
      refine WHT.v (V.extractL rfl rfl) rfl rfl rfl rfl ?_
      refine WH.bigSt rfl rfl rfl ?_; intro _ _
      refine WL.store 0 rfl rfl rfl rfl rfl rfl ?_
      refine WL.nextH (ok := by assumption) (hns := by assumption) (by simp) ?_
      refine WH.pick rfl ?_
      refine WHT.v (V.assign rfl) rfl rfl rfl rfl ?_
      exact WH.doneM r_ (subEnv_restr [8, 7, 3, 0] rfl rfl) (0 :: 0 :: wk 0) rfl
  · intro r1
    refine WS.seq ?_
    refine WS.seq ?_
    refine WS.region ?_
    refine WL.v (V.move rfl) rfl ?_
    refine WL.v (V.not rfl) rfl ?_
    refine WL.done ?_
    refine WS.condF rfl ?_
    refine WS.skip ?_
    refine WS.seq ?_
    refine WS.region ?_
    refine WL.v (V.move rfl) rfl ?_
    refine WL.v (V.fieldAddr rfl) rfl ?_
    refine WL.r (V.load1 1 rfl rfl rfl) rfl ?_
    have how : Spec Tryz.prog 131 [k.p, I id.ring] k.chs (fun v A => v = .tuple #[vTh th1, B true] ∧ A = k.chs) := by rw [hr]; exact k.Owner
    refine WL.callB how (wk 2) rfl rfl rfl ?_
    rintro _ _ ⟨rfl, rfl⟩
    refine WL.v (V.move rfl) rfl ?_
    refine WL.v (V.extractL rfl rfl) rfl ?_
    refine WL.v (V.extractL rfl rfl) rfl ?_
    refine WL.alloc rfl ?_; intro r_
    refine WL.store 0 rfl rfl rfl rfl rfl rfl ?_
    refine WL.v (V.assign rfl) rfl ?_
    refine WL.done ?_
    refine WS.seq ?_
    refine WS.seq ?_
    refine WS.region ?_
    refine WL.v (V.move rfl) rfl ?_
    refine WL.v (V.not rfl) rfl ?_
    refine WL.done ?_
    refine WS.condF rfl ?_
    refine WS.skip ?_
    refine WS.seq ?_
    refine WS.region ?_
    refine WL.v (V.move rfl) rfl ?_
    refine WL.r (V.loadN 0 rfl rfl rfl) rfl ?_
    refine WL.r (V.loadN 1 rfl rfl rfl) rfl ?_
    refine WL.r (V.loadN 2 rfl rfl rfl) rfl ?_
    refine WL.v (V.build rfl rfl rfl) rfl ?_
    refine WL.box rfl rfl ?_; intro r_
    refine WL.callB (hd r_) (0 :: wk 3) rfl rfl rfl ?_
    rintro _ _ ⟨k', hx', hv', rfl, rfl⟩
    obtain ⟨res, val, waits⟩ := e
    refine WL.alloc rfl ?_; intro r_
    refine WL.store 0 rfl rfl rfl rfl rfl rfl ?_
    refine WL.done ?_
    refine WS.seq ?_
    refine WS.seq ?_
    refine WS.region ?_
    refine WL.v (V.fieldAddr rfl) rfl ?_
    refine WL.r (V.load1 0 rfl rfl rfl) rfl ?_
    refine WL.done ?_
    cases waits
    · refine WS.condF rfl ?_
      refine WS.skip ?_
      refine WS.seq ?_
      refine WS.regionD [] Tryz.mixed rfl ?_
      refine WH.pick rfl ?_
      refine WHT.v (V.fieldAddr rfl) rfl rfl rfl rfl ?_
      refine WH.pick rfl ?_
      refine WHT.r (V.load1 0 rfl rfl rfl) rfl rfl rfl rfl rfl ?_
      refine WH.pick rfl ?_
      refine WHT.v (V.fieldAddr rfl) rfl rfl rfl rfl ?_
      refine WH.pick rfl ?_
      refine WHT.r (V.load1 0 rfl rfl rfl) rfl rfl rfl rfl rfl ?_
      refine WH.pick rfl ?_
      refine WHT.v (V.assign rfl) rfl rfl rfl rfl ?_
      refine WH.pick rfl ?_
      refine WHT.v (V.assign rfl) rfl rfl rfl rfl ?_
      refine WH.pick rfl ?_
      refine WHT.v (V.assign rfl) rfl rfl rfl rfl ?_
      refine WH.done ?_
      refine WS.pick (wk 5) rfl ?_
      refine WS.ret rfl ?_
      exact ⟨k', hx', hv', rfl, rfl⟩
    · refine WS.condT rfl ?_
      refine WS.seq ?_
      refine WS.region ?_
      refine WL.v (V.assign rfl) rfl ?_
      refine WL.v (V.assign rfl) rfl ?_
      refine WL.v (V.assign rfl) rfl ?_
      refine WL.done ?_
      refine WS.pick (wk 5) rfl ?_
      refine WS.ret rfl ?_
      exact ⟨k', hx', hv', rfl, rfl⟩
end Go.Proofs
