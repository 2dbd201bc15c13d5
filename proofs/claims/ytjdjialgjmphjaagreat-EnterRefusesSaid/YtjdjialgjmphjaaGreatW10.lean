/- Part of the proof: W10. -/
import Derived.Test.YtjdjialgjmphjaaGreatW9
set_option linter.all false
set_option maxRecDepth 100000
set_option maxHeartbeats 8000000
namespace Go.Proofs
open Go Go.Sep
attribute [local irreducible] WS WL WH WHT OpV OpR

/-! ## the state's parts -/

abbrev kI (z : Int) : Value := .int .i64 z
abbrev vP (b : Nat) : Value := ptr b 0
def ptrO : Option Nat → Value
  | none => .pointer none
  | some b => ptr b 0

structure Thr where
  unit : Nat
  space : Nat
  ring : Nat
  kind : Int
  obj : Int
  size : Int
  badge : Int
  rights : Int
deriving DecidableEq
def encTh (t : Thr) : List Value := [I t.unit, I t.space, I t.ring, I t.kind, I t.obj, I t.size, I t.badge, I t.rights]
abbrev vTh (t : Thr) : Value := .agg (encTh t).toArray
def zTh : Thr := ⟨0, 0, 0, 0, 0, 0, 0, 0⟩

theorem core_Reqs (sb : Nat) (cells : List Value) : Spec Tryz.prog 32 [ptr sb 0] [blk sb 260 cells] (fun v A => v = ptr sb 10 ∧ A = [blk sb 260 cells]) := by
  refine Spec.of Tryz.func32 rfl Tryz.call32 rfl (fun R => ?_)
  refine WS.seq ?_
  refine WS.region ?_
  refine WL.v (V.assign rfl) rfl ?_
  refine WL.done ?_
  refine WS.seq ?_
  refine WS.region ?_
  refine WL.v (V.move rfl) rfl ?_
  refine WL.v (V.nilCheck rfl) rfl ?_
  refine WL.v (V.fieldAddr rfl) rfl ?_
  refine WL.v (V.assign rfl) rfl ?_
  refine WL.done ?_
  refine WS.ret rfl ?_
  exact ⟨rfl, rfl⟩

theorem core_Journal (sb : Nat) (cells : List Value) : Spec Tryz.prog 51 [ptr sb 0] [blk sb 260 cells] (fun v A => v = ptr sb 12 ∧ A = [blk sb 260 cells]) := by
  refine Spec.of Tryz.func51 rfl Tryz.call51 rfl (fun R => ?_)
  refine WS.seq ?_
  refine WS.region ?_
  refine WL.v (V.assign rfl) rfl ?_
  refine WL.done ?_
  refine WS.seq ?_
  refine WS.region ?_
  refine WL.v (V.move rfl) rfl ?_
  refine WL.v (V.nilCheck rfl) rfl ?_
  refine WL.v (V.fieldAddr rfl) rfl ?_
  refine WL.v (V.assign rfl) rfl ?_
  refine WL.done ?_
  refine WS.ret rfl ?_
  exact ⟨rfl, rfl⟩

theorem core_Timers (sb : Nat) (cells : List Value) : Spec Tryz.prog 74 [ptr sb 0] [blk sb 260 cells] (fun v A => v = ptr sb 11 ∧ A = [blk sb 260 cells]) := by
  refine Spec.of Tryz.func74 rfl Tryz.call74 rfl (fun R => ?_)
  refine WS.seq ?_
  refine WS.region ?_
  refine WL.v (V.assign rfl) rfl ?_
  refine WL.done ?_
  refine WS.seq ?_
  refine WS.region ?_
  refine WL.v (V.move rfl) rfl ?_
  refine WL.v (V.nilCheck rfl) rfl ?_
  refine WL.v (V.fieldAddr rfl) rfl ?_
  refine WL.v (V.assign rfl) rfl ?_
  refine WL.done ?_
  refine WS.ret rfl ?_
  exact ⟨rfl, rfl⟩

theorem core_Slots (sb : Nat) (cells : List Value) : Spec Tryz.prog 69 [ptr sb 0] [blk sb 260 cells] (fun v A => v = ptr sb 6 ∧ A = [blk sb 260 cells]) := by
  refine Spec.of Tryz.func69 rfl Tryz.call69 rfl (fun R => ?_)
  refine WS.seq ?_
  refine WS.region ?_
  refine WL.v (V.assign rfl) rfl ?_
  refine WL.done ?_
  refine WS.seq ?_
  refine WS.region ?_
  refine WL.v (V.move rfl) rfl ?_
  refine WL.v (V.nilCheck rfl) rfl ?_
  refine WL.v (V.fieldAddr rfl) rfl ?_
  refine WL.v (V.assign rfl) rfl ?_
  refine WL.done ?_
  refine WS.ret rfl ?_
  exact ⟨rfl, rfl⟩

theorem core_Maps (sb : Nat) (cells : List Value) : Spec Tryz.prog 118 [ptr sb 0] [blk sb 260 cells] (fun v A => v = ptr sb 8 ∧ A = [blk sb 260 cells]) := by
  refine Spec.of Tryz.func118 rfl Tryz.call118 rfl (fun R => ?_)
  refine WS.seq ?_
  refine WS.region ?_
  refine WL.v (V.assign rfl) rfl ?_
  refine WL.done ?_
  refine WS.seq ?_
  refine WS.region ?_
  refine WL.v (V.move rfl) rfl ?_
  refine WL.v (V.nilCheck rfl) rfl ?_
  refine WL.v (V.fieldAddr rfl) rfl ?_
  refine WL.v (V.assign rfl) rfl ?_
  refine WL.done ?_
  refine WS.ret rfl ?_
  exact ⟨rfl, rfl⟩

theorem core_Queue (sb : Nat) (cells : List Value) : Spec Tryz.prog 167 [ptr sb 0] [blk sb 260 cells] (fun v A => v = ptr sb 9 ∧ A = [blk sb 260 cells]) := by
  refine Spec.of Tryz.func167 rfl Tryz.call167 rfl (fun R => ?_)
  refine WS.seq ?_
  refine WS.region ?_
  refine WL.v (V.assign rfl) rfl ?_
  refine WL.done ?_
  refine WS.seq ?_
  refine WS.region ?_
  refine WL.v (V.move rfl) rfl ?_
  refine WL.v (V.nilCheck rfl) rfl ?_
  refine WL.v (V.fieldAddr rfl) rfl ?_
  refine WL.v (V.assign rfl) rfl ?_
  refine WL.done ?_
  refine WS.ret rfl ?_
  exact ⟨rfl, rfl⟩

theorem core_Ring (sb mb : Nat) (cells : List Value) (m : GMap Int Nat) (u : Int) (hc : getN 16 1 cells = some [.map (some mb)]) :
    Spec Tryz.prog 55 [ptr sb 0, I u] [blk sb 260 cells, mapC mb kI vP m] (fun v A => v = ptrO (m.get u) ∧ A = [blk sb 260 cells, mapC mb kI vP m]) := by
  refine Spec.of Tryz.func55 rfl Tryz.call55 rfl (fun R => ?_)
  refine WS.seq ?_
  refine WS.region ?_
  refine WL.v (V.assign rfl) rfl ?_
  refine WL.done ?_
  refine WS.seq ?_
  refine WS.region ?_
  refine WL.v (V.move rfl) rfl ?_
  refine WL.v (V.nilCheck rfl) rfl ?_
  refine WL.v (V.fieldAddr rfl) rfl ?_
  refine WL.r (V.load1 0 rfl rfl hc) rfl ?_
  refine WL.v (V.move rfl) rfl ?_
  refine WL.r (V.lookup1 (kenc := kI) (venc := vP) (k := u) 1 rfl rfl rfl) rfl ?_
  refine WL.v (V.assign rfl) rfl ?_
  refine WL.done ?_
  refine WS.ret rfl ?_
  refine ⟨?_, rfl⟩
  simp only [retV, ptrO]
  cases m.get u <;> rfl

theorem core_Notif (sb mb : Nat) (cells : List Value) (m : GMap Int Nat) (u : Int) (hc : getN 13 1 cells = some [.map (some mb)]) :
    Spec Tryz.prog 330 [ptr sb 0, I u] [blk sb 260 cells, mapC mb kI vP m] (fun v A => v = ptrO (m.get u) ∧ A = [blk sb 260 cells, mapC mb kI vP m]) := by
  refine Spec.of Tryz.func330 rfl Tryz.call330 rfl (fun R => ?_)
  refine WS.seq ?_
  refine WS.region ?_
  refine WL.v (V.assign rfl) rfl ?_
  refine WL.done ?_
  refine WS.seq ?_
  refine WS.region ?_
  refine WL.v (V.move rfl) rfl ?_
  refine WL.v (V.nilCheck rfl) rfl ?_
  refine WL.v (V.fieldAddr rfl) rfl ?_
  refine WL.r (V.load1 0 rfl rfl hc) rfl ?_
  refine WL.v (V.move rfl) rfl ?_
  refine WL.r (V.lookup1 (kenc := kI) (venc := vP) (k := u) 1 rfl rfl rfl) rfl ?_
  refine WL.v (V.assign rfl) rfl ?_
  refine WL.done ?_
  refine WS.ret rfl ?_
  refine ⟨?_, rfl⟩
  simp only [retV, ptrO]
  cases m.get u <;> rfl

theorem core_Endpoint (sb mb : Nat) (cells : List Value) (m : GMap Int Nat) (u : Int) (hc : getN 14 1 cells = some [.map (some mb)]) :
    Spec Tryz.prog 72 [ptr sb 0, I u] [blk sb 260 cells, mapC mb kI vP m] (fun v A => v = ptrO (m.get u) ∧ A = [blk sb 260 cells, mapC mb kI vP m]) := by
  refine Spec.of Tryz.func72 rfl Tryz.call72 rfl (fun R => ?_)
  refine WS.seq ?_
  refine WS.region ?_
  refine WL.v (V.assign rfl) rfl ?_
  refine WL.done ?_
  refine WS.seq ?_
  refine WS.region ?_
  refine WL.v (V.move rfl) rfl ?_
  refine WL.v (V.nilCheck rfl) rfl ?_
  refine WL.v (V.fieldAddr rfl) rfl ?_
  refine WL.r (V.load1 0 rfl rfl hc) rfl ?_
  refine WL.v (V.move rfl) rfl ?_
  refine WL.r (V.lookup1 (kenc := kI) (venc := vP) (k := u) 1 rfl rfl rfl) rfl ?_
  refine WL.v (V.assign rfl) rfl ?_
  refine WL.done ?_
  refine WS.ret rfl ?_
  refine ⟨?_, rfl⟩
  simp only [retV, ptrO]
  cases m.get u <;> rfl

theorem core_Reply (sb mb : Nat) (cells : List Value) (m : GMap Int Nat) (u : Int) (hc : getN 15 1 cells = some [.map (some mb)]) :
    Spec Tryz.prog 331 [ptr sb 0, I u] [blk sb 260 cells, mapC mb kI vP m] (fun v A => v = ptrO (m.get u) ∧ A = [blk sb 260 cells, mapC mb kI vP m]) := by
  refine Spec.of Tryz.func331 rfl Tryz.call331 rfl (fun R => ?_)
  refine WS.seq ?_
  refine WS.region ?_
  refine WL.v (V.assign rfl) rfl ?_
  refine WL.done ?_
  refine WS.seq ?_
  refine WS.region ?_
  refine WL.v (V.move rfl) rfl ?_
  refine WL.v (V.nilCheck rfl) rfl ?_
  refine WL.v (V.fieldAddr rfl) rfl ?_
  refine WL.r (V.load1 0 rfl rfl hc) rfl ?_
  refine WL.v (V.move rfl) rfl ?_
  refine WL.r (V.lookup1 (kenc := kI) (venc := vP) (k := u) 1 rfl rfl rfl) rfl ?_
  refine WL.v (V.assign rfl) rfl ?_
  refine WL.done ?_
  refine WS.ret rfl ?_
  refine ⟨?_, rfl⟩
  simp only [retV, ptrO]
  cases m.get u <;> rfl

theorem core_Mem (sb : Nat) (cells : List Value) (v0 : Value) (hc : getN 5 1 cells = some [v0]) : Spec Tryz.prog 47 [ptr sb 0] [blk sb 260 cells] (fun v A => v = v0 ∧ A = [blk sb 260 cells]) := by
  refine Spec.of Tryz.func47 rfl Tryz.call47 rfl (fun R => ?_)
  refine WS.seq ?_
  refine WS.region ?_
  refine WL.v (V.assign rfl) rfl ?_
  refine WL.done ?_
  refine WS.seq ?_
  refine WS.region ?_
  refine WL.v (V.move rfl) rfl ?_
  refine WL.v (V.nilCheck rfl) rfl ?_
  refine WL.v (V.fieldAddr rfl) rfl ?_
  refine WL.r (V.load1 0 rfl rfl hc) rfl ?_
  refine WL.v (V.assign rfl) rfl ?_
  refine WL.done ?_
  refine WS.ret rfl ?_
  exact ⟨rfl, rfl⟩

theorem core_Now (sb : Nat) (cells : List Value) (v0 : Value) (hc : getN 22 1 cells = some [v0]) : Spec Tryz.prog 170 [ptr sb 0] [blk sb 260 cells] (fun v A => v = v0 ∧ A = [blk sb 260 cells]) := by
  refine Spec.of Tryz.func170 rfl Tryz.call170 rfl (fun R => ?_)
  refine WS.seq ?_
  refine WS.region ?_
  refine WL.v (V.assign rfl) rfl ?_
  refine WL.done ?_
  refine WS.seq ?_
  refine WS.region ?_
  refine WL.v (V.move rfl) rfl ?_
  refine WL.v (V.nilCheck rfl) rfl ?_
  refine WL.v (V.fieldAddr rfl) rfl ?_
  refine WL.r (V.load1 0 rfl rfl hc) rfl ?_
  refine WL.v (V.assign rfl) rfl ?_
  refine WL.done ?_
  refine WS.ret rfl ?_
  exact ⟨rfl, rfl⟩

theorem core_Taken (sb mb : Nat) (cells : List Value) (m : GMap Int Int) (u : Int) (hc : getN 21 1 cells = some [.map (some mb)]) :
    Spec Tryz.prog 63 [ptr sb 0, I u] [blk sb 260 cells, mapC mb kI kI m] (fun v A => v = I ((m.get u).getD 0) ∧ A = [blk sb 260 cells, mapC mb kI kI m]) := by
  refine Spec.of Tryz.func63 rfl Tryz.call63 rfl (fun R => ?_)
  refine WS.seq ?_
  refine WS.region ?_
  refine WL.v (V.assign rfl) rfl ?_
  refine WL.done ?_
  refine WS.seq ?_
  refine WS.region ?_
  refine WL.v (V.move rfl) rfl ?_
  refine WL.v (V.nilCheck rfl) rfl ?_
  refine WL.v (V.fieldAddr rfl) rfl ?_
  refine WL.r (V.load1 0 rfl rfl hc) rfl ?_
  refine WL.v (V.move rfl) rfl ?_
  refine WL.r (V.lookup1 (kenc := kI) (venc := kI) (k := u) 1 rfl rfl rfl) rfl ?_
  refine WL.v (V.assign rfl) rfl ?_
  refine WL.done ?_
  refine WS.ret rfl ?_
  refine ⟨?_, rfl⟩
  simp only [retV]
  cases m.get u <;> rfl

theorem core_Thread (sb mb : Nat) (cells : List Value) (m : GMap Int Thr) (u : Int) (hc : getN 17 1 cells = some [.map (some mb)]) :
    Spec Tryz.prog 104 [ptr sb 0, I u] [blk sb 260 cells, mapC mb kI vTh m] (fun v A => v = .tuple #[vTh ((m.get u).getD zTh), B (m.get u).isSome] ∧ A = [blk sb 260 cells, mapC mb kI vTh m]) := by
  refine Spec.of Tryz.func104 rfl Tryz.call104 rfl (fun R => ?_)
  refine WS.seq ?_
  refine WS.region ?_
  refine WL.alloc rfl ?_; intro r_
  refine WL.v (V.assign rfl) rfl ?_
  refine WL.done ?_
  refine WS.seq ?_
  refine WS.region ?_
  refine WL.v (V.move rfl) rfl ?_
  refine WL.v (V.nilCheck rfl) rfl ?_
  refine WL.v (V.fieldAddr rfl) rfl ?_
  refine WL.r (V.load1 1 rfl rfl hc) rfl ?_
  refine WL.v (V.move rfl) rfl ?_
  refine WL.r (V.lookup2 (kenc := kI) (venc := vTh) (k := u) 2 rfl rfl rfl) rfl ?_
  cases m.get u with
  | none =>
    refine WL.v (V.move rfl) rfl ?_
    refine WL.v (V.extractL rfl rfl) rfl ?_
    refine WL.v (V.extractL rfl rfl) rfl ?_
    refine WL.alloc rfl ?_; intro r_
    refine WL.store 0 rfl rfl rfl rfl rfl rfl ?_
    refine WL.v (V.assign rfl) rfl ?_
    refine WL.done ?_
    refine WS.seq ?_
    refine WS.region ?_
    refine WL.r (V.loadN 0 rfl rfl rfl) rfl ?_
    refine WL.v (V.move rfl) rfl ?_
    refine WL.store 1 rfl rfl rfl rfl rfl rfl ?_
    refine WL.v (V.assign rfl) rfl ?_
    refine WL.done ?_
    refine WS.retM [2, 2] (.cell rfl (.agg 0 rfl rfl) (.tmp rfl .nil)) rfl ?_
    exact ⟨rfl, rfl⟩
  | some t =>
    refine WL.v (V.move rfl) rfl ?_
    refine WL.v (V.extractL rfl rfl) rfl ?_
    refine WL.v (V.extractL rfl rfl) rfl ?_
    refine WL.alloc rfl ?_; intro r_
    refine WL.store 0 rfl rfl rfl rfl rfl rfl ?_
    refine WL.v (V.assign rfl) rfl ?_
    refine WL.done ?_
    refine WS.seq ?_
    refine WS.region ?_
    refine WL.r (V.loadN 0 rfl rfl rfl) rfl ?_
    refine WL.v (V.move rfl) rfl ?_
    refine WL.store 1 rfl rfl rfl rfl rfl rfl ?_
    refine WL.v (V.assign rfl) rfl ?_
    refine WL.done ?_
    refine WS.retM [2, 2] (.cell rfl (.agg 0 rfl rfl) (.tmp rfl .nil)) rfl ?_
    exact ⟨rfl, rfl⟩

/-- whose ring it is, where there is one thread -/
theorem core_Owner (sb mb : Nat) (cells : List Value) (m : GMap Int Thr) (th : Thr) (ring : Nat) (hc : getN 17 1 cells = some [.map (some mb)]) (hm : m.es.map (·.v) = [th]) (hr : th.ring = ring) :
    Spec Tryz.prog 131 [ptr sb 0, I ring] [blk sb 260 cells, mapC mb kI vTh m] (fun v A => v = .tuple #[vTh th, B true] ∧ A = [blk sb 260 cells, mapC mb kI vTh m]) := by
  refine Spec.of Tryz.func131 rfl Tryz.call131 rfl (fun R => ?_)
  refine WS.seq ?_
  refine WS.region ?_
  refine WL.alloc rfl ?_; intro r_
  refine WL.v (V.assign rfl) rfl ?_
  refine WL.done ?_
  refine WS.seq ?_
  refine WS.seq ?_
  refine WS.region ?_
  refine WL.v (V.move rfl) rfl ?_
  refine WL.v (V.nilCheck rfl) rfl ?_
  refine WL.v (V.fieldAddr rfl) rfl ?_
  refine WL.r (V.load1 1 rfl rfl hc) rfl ?_
  refine WL.range (kenc := kI) (venc := vTh) 2 rfl rfl rfl ?_
  intro it
  refine WL.done ?_
  refine WS.block ?_
  refine WS.loop_rounds 1 ?_
  refine WS.round ?_
  refine WS.seq ?_
  refine WS.region ?_
  refine WL.next (kenc := kI) (venc := vTh) 0 3 rfl rfl rfl rfl ?_ ?_
  · intro h
    exfalso
    have : left m [] = m.es := by unfold left; exact List.filter_eq_self.2 (fun _ _ => rfl)
    rw [this] at h
    rw [h] at hm
    simp at hm
  · intro e he
    have hem : e ∈ m.es := (List.mem_filter.1 he).1
    have hev : e.v = th := by
      have : e.v ∈ m.es.map (·.v) := List.mem_map_of_mem hem
      rw [hm] at this
      simpa using this
    refine WL.v (V.extractL rfl rfl) rfl ?_
    refine WL.done ?_
    refine WS.seq ?_
    refine WS.condT rfl ?_
    refine WS.skip ?_
    refine WS.block ?_
    refine WS.seq ?_
    refine WS.region ?_
    refine WL.r (V.entry 0 3 hem rfl rfl rfl) rfl ?_
    rw [hev]
    refine WL.v (V.extractL rfl rfl) rfl ?_
    refine WL.alloc rfl ?_; intro r_
    refine WL.store 0 rfl rfl rfl rfl rfl rfl ?_
    refine WL.done ?_
    refine WS.seq ?_
    refine WS.region ?_
    refine WL.v (V.fieldAddr rfl) rfl ?_
    refine WL.r (V.load1 0 rfl rfl rfl) rfl ?_
    refine WL.v (V.move rfl) rfl ?_
    refine WL.v (V.eqi rfl rfl) rfl ?_
    refine WL.done ?_
    (refine WS.condD rfl ?_ ?_) <;> intro h_ <;> try (exfalso; omega)
    refine WS.seq ?_
    refine WS.region ?_
    refine WL.r (V.loadN 0 rfl rfl rfl) rfl ?_
    refine WL.store 2 rfl rfl rfl rfl rfl rfl ?_
    refine WL.v (V.assign rfl) rfl ?_
    refine WL.done ?_
    refine WS.retM [3, 3] (.cell rfl (.agg 0 rfl rfl) (.tmp rfl .nil)) rfl ?_
    exact ⟨rfl, rfl⟩
end Go.Proofs
