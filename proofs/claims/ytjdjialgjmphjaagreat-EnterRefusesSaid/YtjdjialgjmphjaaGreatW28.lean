/- Part of the proof: W28. -/
import Derived.Test.YtjdjialgjmphjaaGreatW26
import Derived.Test.YtjdjialgjmphjaaGreatS6
set_option linter.all false
set_option maxRecDepth 100000
set_option maxHeartbeats 16000000
namespace Go.Proofs
open Go Go.Sep
attribute [local irreducible] WS WL WH WHT OpV OpR

theorem core_cut (n lo hi : Int) : Spec Tryz.prog 139 [I n, I lo, I hi] [] (fun v A => v = I (min (max n lo) hi) ∧ A = []) := by
  refine Spec.of Tryz.func139 rfl Tryz.call139 rfl (fun R => ?_)
  refine WS.seq ?_
  refine WS.region ?_
  refine WL.v (V.assign rfl) rfl ?_
  refine WL.done ?_
  refine WS.seq ?_
  refine WS.region ?_
  refine WL.v (V.move rfl) rfl ?_
  refine WL.v (V.move rfl) rfl ?_
  refine WL.v (V.max2 rfl rfl) rfl ?_
  refine WL.v (V.move rfl) rfl ?_
  refine WL.v (V.min2 rfl rfl) rfl ?_
  refine WL.v (V.assign rfl) rfl ?_
  refine WL.done ?_
  refine WS.ret rfl ?_
  exact ⟨rfl, rfl⟩

theorem ring_New (mb sq cq sb cb : Nat) (h1 : sb ≤ 3) (h2 : cb ≤ 4) :
    Spec Tryz.prog 274 [ptr mb 0, I sq, I cq, I sb, I cb] [] (fun v A => ∃ b, v = ptr b 0 ∧ A = [blk b 341 [ptr mb 0, I sq, I cq, I sb, I cb, U 0, U 0, .slice none 0 0]]) := by
  refine Spec.of Tryz.func274 rfl Tryz.call274 rfl (fun R => ?_)
  refine WS.seq ?_
  refine WS.region ?_
  refine WL.v (V.assign rfl) rfl ?_
  refine WL.done ?_
  refine WS.seq ?_
  refine WS.region ?_
  refine WL.v (V.move rfl) rfl ?_
  refine WL.v (V.move rfl) rfl ?_
  refine WL.v (V.move rfl) rfl ?_
  refine WL.v (V.move rfl) rfl ?_
  refine WL.v (V.max2 rfl rfl) rfl ?_
  refine WL.v (V.min2 rfl rfl) rfl ?_
  refine WL.v (V.move rfl) rfl ?_
  refine WL.v (V.max2 rfl rfl) rfl ?_
  refine WL.v (V.min2 rfl rfl) rfl ?_
  refine WL.v (V.build rfl rfl rfl) rfl ?_
  refine WL.box rfl rfl ?_; intro r_
  refine WL.v (V.assign rfl) rfl ?_
  refine WL.done ?_
  refine WS.ret rfl ?_
  refine ⟨_, rfl, ?_⟩
  rw [show min (max (sb : Int) 0) 3 = sb from by omega, show min (max (cb : Int) 0) 4 = cb from by omega]
  rfl

/-! ## memory at first -/

def encH (b : Nat) : List Value := [sl b 0 512 512]
instance : Enc encH 1 := ⟨fun _ => rfl, fun _ => rfl, by omega⟩
theorem flat_encH (us : List (Nat × List UInt8)) : flat encH (us.map (·.1)) = hdrs us := by
  induction us with
  | nil => rfl
  | cons p us ih => simp only [List.map_cons, flat, ih]; rfl

def zeros : List UInt8 := List.replicate 512 0
theorem flat_zeros : flat encY zeros = List.replicate 512 (.int .u8 0) := by
  rw [flat_encY, zeros, List.map_replicate]
  rfl

theorem phys_New : Spec Tryz.prog 140 [I 64] [] (fun v A => ∃ m : Mm, m.us.map (·.2) = List.replicate 64 zeros ∧ v = ptr m.mb 0 ∧ A = m.chs) := by
  refine Spec.of Tryz.func140 rfl Tryz.call140 rfl (fun R => ?_)
  refine WS.seq ?_
  refine WS.region ?_
  refine WL.v (V.assign rfl) rfl ?_
  refine WL.done ?_
  refine WS.seq ?_
  refine WS.region ?_
  refine WL.v (V.build rfl rfl rfl) rfl ?_
  refine WL.box rfl rfl ?_; intro r_
  refine WL.v (V.assign rfl) rfl ?_
  refine WL.done ?_
  refine WS.seq ?_
  refine WS.seq ?_
  refine WS.region ?_
  refine WL.v (V.move rfl) rfl ?_
  refine WL.v (V.max2 rfl rfl) rfl ?_
  refine WL.v (V.min2 rfl rfl) rfl ?_
  refine WL.v (V.move rfl) rfl ?_
  refine WL.done ?_
  refine WS.block ?_
  rw [show min (max (64 : Int) 1) 64 = 64 from rfl]
  generalize r_ = mb
  refine WS.keep [9, 8, 3] rfl ?_
  refine WS.perm (pre' := [blk mb 415 [(SL.empty : SL encH 1).val], (SL.empty : SL encH 1).ch 57, usC []]) (by simp [usC]; rfl) ?_
  refine WS.loop (ι := {p : Nat × SL encH 1 × List (Nat × List UInt8) // p.1 ≤ 64 ∧ p.2.1.xs = p.2.2.map (·.1) ∧ p.2.2.map (·.2) = List.replicate p.1 zeros})
    (fun p => [(9, I p.1.1), (8, I 64), (3, ptr mb 0)]) (fun p => [blk mb 415 [p.1.2.1.val], p.1.2.1.ch 57, usC p.1.2.2]) (fun p => 64 - p.1.1) ⟨(0, SL.empty, []), by simp⟩ ?_
  rintro ⟨⟨i, row, us⟩, hi, hrow, hus⟩ X ih
  simp only at ih hi hrow hus ⊢
  have husl : us.length = i := by simpa using congrArg List.length hus
  have hrl : row.xs.length = i := by rw [hrow]; simpa using husl
  refine WS.seq ?_
  refine WS.region ?_
  refine WL.v (V.lt rfl rfl) rfl ?_
  refine WL.done ?_
  refine WS.seq ?_
  (refine WS.condD rfl ?_ ?_) <;> intro h_ <;> try (exfalso; omega)
  refine WS.skip ?_
  refine WS.seq ?_
  refine WS.block ?_
  rotate_left
  refine WS.exit rfl ?_
  refine WS.seq ?_
  refine WS.region ?_
  refine WL.v (V.move rfl) rfl ?_
  refine WL.v (V.assign rfl) rfl ?_
  refine WL.done ?_
  rotate_left
  · refine WS.regionK [0] rfl Tryz.mixed rfl ?_
    refine WH.pick rfl ?_
    refine WHT.v (V.move rfl) rfl rfl rfl rfl ?_
    refine WH.pick rfl ?_
    refine WHT.v (V.move rfl) rfl rfl rfl rfl ?_
    refine WH.pick rfl ?_
    refine WHT.v (V.nilCheck rfl) rfl rfl rfl rfl ?_
    refine WH.pick rfl ?_
    refine WHT.v (V.fieldAddr rfl) rfl rfl rfl rfl ?_
    refine WH.pick rfl ?_
    refine WHT.rh (V.load1 0 rfl rfl rfl) rfl (by simp) rfl rfl rfl rfl ?_
    refine WH.big rfl rfl rfl ?_; intro _ _
    refine WL.makeSlice1 (m := 512) rfl rfl rfl (by omega) (by omega) rfl ?_
    intro nb
    refine WL.nextH (ok := by assumption) (hns := by assumption) (by simp) ?_
    refine WH.big rfl rfl rfl ?_; intro _ _
    refine WL.slice1 (m := 1) rfl rfl rfl (by omega) (by omega) rfl ?_
    intro n1
    refine WL.nextH (ok := by assumption) (hns := by assumption) (by simp) ?_
    refine WH.big rfl rfl rfl ?_; intro _ _
    refine WL.append (enc := encH) [nb] 3 row rfl rfl rfl rfl (.inr ⟨n1, 0, 1, 0, 57, _, rfl, rfl, rfl⟩) (by simp only [List.length_cons, List.length_nil]; omega) rfl ?_
    intro row' hrow'
    refine WL.nextH (ok := by assumption) (hns := by assumption) (by simp) ?_
    refine WH.pick rfl ?_
    refine WHT.v (V.nilCheck rfl) rfl rfl rfl rfl ?_
    refine WH.pick rfl ?_
    refine WHT.v (V.fieldAddr rfl) rfl rfl rfl rfl ?_
    refine WH.bigSt rfl rfl rfl ?_; intro _ _
    refine WL.storeSL 3 rfl rfl rfl rfl ?_
    refine WL.nextH (ok := by assumption) (hns := by assumption) (by simp) ?_
    refine WH.done ?_
    refine WS.blk ?_
    refine WS.region ?_
    refine WL.v (V.add rfl rfl (fits_i64 (by omega) (by omega))) rfl ?_
    refine WL.v (V.move rfl) rfl ?_
    refine WL.done ?_
    refine WS.keep [9, 8, 3] rfl ?_
    refine WS.pick [0, 0, 1, 1] rfl ?_
    refine WS.perm (pre' := [blk mb 415 [row'.val], row'.ch 57, usC (us ++ [(nb, zeros)])]) (by
      simp only [usC, List.map_append, List.map_cons, List.map_nil, flat_zeros, List.flatten_cons, List.flatten_nil, List.append_nil, List.singleton_append]
      refine List.Perm.cons _ (List.Perm.append_left _ ?_)
      exact List.perm_append_comm) ?_
    exact ih ⟨(i + 1, row', us ++ [(nb, zeros)]), by omega, by simp only; rw [hrow', hrow]; simp, by simp only [List.map_append, hus, List.map_cons, List.map_nil]; rw [← List.replicate_succ']⟩ (by simp only; omega)
  · have hi64 : i = 64 := by omega
    subst hi64
    obtain ⟨xs, lb, cap, junk, hnil, hfit⟩ := row
    simp only at hrow hrl
    cases lb with
    | none => have := hnil rfl; rw [this] at hrl; simp at hrl
    | some lb =>
      let m : Mm := ⟨mb, lb, cap, junk, us, husl, fun p hp => by
        have : p.2 ∈ us.map (·.2) := List.mem_map_of_mem hp
        rw [hus] at this
        rw [List.eq_of_mem_replicate this]
        simp [zeros]⟩
      skip
      refine WS.perm (pre' := m.chs) (by
        simp only [Mm.chs, m, SL.val, SL.ch]
        rw [hrl, hrow, flat_encH]) ?_
      refine WS.ret rfl ?_
      exact ⟨m, hus, rfl, rfl⟩

/-! ## who may run -/

structure QOne where
  thread : Int
  prio : Int
deriving DecidableEq
def encQ (x : QOne) : List Value := [I x.thread, I x.prio]
instance : Enc encQ 2 := ⟨fun _ => rfl, fun _ => rfl, by omega⟩

theorem runq_index_nil (f : Value) : Spec Tryz.prog 485 [.slice none 0 0, f] [] (fun v A => v = I (-1) ∧ A = []) := by
  refine Spec.of Tryz.func485 rfl Tryz.call485 rfl (fun R => ?_)
  refine WS.seq ?_
  refine WS.region ?_
  refine WL.v (V.assign rfl) rfl ?_
  refine WL.done ?_
  refine WS.seq ?_
  refine WS.seq ?_
  refine WS.region ?_
  refine WL.v (V.move rfl) rfl ?_
  refine WL.v (V.lenS rfl) rfl ?_
  refine WL.v (V.move rfl) rfl ?_
  refine WL.done ?_
  refine WS.block ?_
  refine WS.loop_rounds 1 ?_
  refine WS.round ?_
  refine WS.seq ?_
  refine WS.region ?_
  refine WL.v (V.lt rfl rfl) rfl ?_
  refine WL.done ?_
  refine WS.seq ?_
  refine WS.condF rfl ?_
  refine WS.exit rfl ?_
  refine WS.seq ?_
  refine WS.region ?_
  refine WL.v (V.assign rfl) rfl ?_
  refine WL.done ?_
  refine WS.ret rfl ?_
  exact ⟨rfl, rfl⟩

theorem runq_at_nil (sb o E0 : Nat) (cells : List Value) (th : Int) (hc : getN o 1 cells = some [.slice none 0 0]) :
    Spec Tryz.prog 396 [ptr sb o, I th] [blk sb E0 cells] (fun v A => v = I (-1) ∧ A = [blk sb E0 cells]) := by
  refine Spec.of Tryz.func396 rfl Tryz.call396 rfl (fun R => ?_)
  refine WS.seq ?_
  refine WS.region ?_
  refine WL.box rfl rfl ?_; intro r_
  refine WL.v (V.assign rfl) rfl ?_
  refine WL.done ?_
  refine WS.seq ?_
  refine WS.region ?_
  refine WL.v (V.move rfl) rfl ?_
  refine WL.v (V.nilCheck rfl) rfl ?_
  refine WL.v (V.fieldAddr rfl) rfl ?_
  refine WL.r (V.load1 1 rfl rfl hc) rfl ?_
  skip
  refine WL.v (V.mkClo rfl) rfl ?_
  skip
  refine WL.callB (runq_index_nil _) [] rfl rfl rfl ?_
  rintro _ _ ⟨rfl, rfl⟩
  refine WL.v (V.assign rfl) rfl ?_
  refine WL.done ?_
  refine WS.pick [1] rfl ?_
  refine WS.ret rfl ?_
  exact ⟨rfl, rfl⟩

theorem runq_right (n : Int) (h1 : 0 ≤ n) (h2 : n < 8) : Spec Tryz.prog 397 [I n] [] (fun v A => v = B true ∧ A = []) := by
  refine Spec.of Tryz.func397 rfl Tryz.call397 rfl (fun R => ?_)
  refine WS.seq ?_
  refine WS.region ?_
  refine WL.v (V.assign rfl) rfl ?_
  refine WL.done ?_
  refine WS.seq ?_
  refine WS.region ?_
  refine WL.v (V.move rfl) rfl ?_
  refine WL.v (V.ge rfl rfl) rfl ?_
  refine WL.v (V.move rfl) rfl ?_
  (refine WL.gcaseD rfl rfl ?_ ?_) <;> intro h_ <;> try (exfalso; omega)
  refine WL.gy rfl rfl ?_
  refine WL.v (V.move rfl) rfl ?_
  refine WL.gy rfl rfl ?_
  refine WL.v (V.lt rfl rfl) rfl ?_
  refine WL.v (V.pickT rfl rfl) rfl ?_
  refine WL.v (V.assign rfl) rfl ?_
  refine WL.done ?_
  refine WS.ret rfl ?_
  exact ⟨by simp [retV, h2], rfl⟩

theorem runq_Add_nil (sb o E0 : Nat) (cells : List Value) (th pr : Int) (hc : getN o 1 cells = some [.slice none 0 0]) (h1 : 0 ≤ pr) (h2 : pr < 8) :
    Spec Tryz.prog 275 [ptr sb o, I th, I pr] [blk sb E0 cells]
      (fun v A => ∃ s : SL encQ 2, ∃ cells', s.xs = [⟨th, pr⟩] ∧ setN o [s.val] cells = some cells' ∧ v = B true ∧ A = [blk sb E0 cells', s.ch 474]) := by
  refine Spec.of Tryz.func275 rfl Tryz.call275 rfl (fun R => ?_)
  refine WS.seq ?_
  refine WS.region ?_
  refine WL.v (V.assign rfl) rfl ?_
  refine WL.done ?_
  refine WS.seq ?_
  refine WS.seq ?_
  refine WS.region ?_
  refine WL.v (V.move rfl) rfl ?_
  refine WL.v (V.move rfl) rfl ?_
  refine WL.callB (runq_at_nil sb o E0 cells th hc) [0] rfl rfl rfl ?_
  rintro _ _ ⟨rfl, rfl⟩
  refine WL.v (V.ge rfl rfl) rfl ?_
  refine WL.v (V.move rfl) rfl ?_
  refine WL.gy rfl rfl ?_
  refine WL.v (V.move rfl) rfl ?_
  refine WL.gy rfl rfl ?_
  refine WL.callB (runq_right pr h1 h2) [] rfl rfl rfl ?_
  rintro _ _ ⟨rfl, rfl⟩
  refine WL.gy rfl rfl ?_
  refine WL.v (V.not rfl) rfl ?_
  refine WL.v (V.pickF rfl rfl) rfl ?_
  refine WL.done ?_
  refine WS.condF rfl ?_
  refine WS.skip ?_
  refine WS.seq ?_
  refine WS.region ?_
  refine WL.v (V.move rfl) rfl ?_
  refine WL.v (V.move rfl) rfl ?_
  refine WL.v (V.nilCheck rfl) rfl ?_
  refine WL.v (V.fieldAddr rfl) rfl ?_
  refine WL.r (V.load1 0 rfl rfl hc) rfl ?_
  refine WL.v (V.move rfl) rfl ?_
  refine WL.v (V.move rfl) rfl ?_
  refine WL.v (V.build rfl rfl rfl) rfl ?_
  refine WL.slice1 (m := 2) rfl rfl rfl (by omega) (by omega) rfl ?_
  intro nb
  refine WL.perm (pre' := [(SL.empty : SL encQ 2).ch 474, blk nb 474 (cellsV (Value.agg #[I th, I pr])), blk sb E0 cells]) (by simp) ?_
  refine WL.append (enc := encQ) [⟨th, pr⟩] 0 (SL.empty : SL encQ 2) rfl rfl rfl rfl (.inr ⟨nb, 0, 1, 1, 474, _, rfl, rfl, rfl⟩) (by simp) rfl ?_
  intro s' hs'
  obtain ⟨cells', hs1, hs2⟩ := setN_ex cells o (.slice none 0 0) s'.val hc
  refine WL.v (V.nilCheck rfl) rfl ?_
  refine WL.v (V.fieldAddr rfl) rfl ?_
  refine WL.storeSL 2 rfl rfl rfl hs1 ?_
  refine WL.done ?_
  refine WS.seq ?_
  refine WS.region ?_
  refine WL.v (V.assign rfl) rfl ?_
  refine WL.done ?_
  refine WS.pick [0, 0] rfl ?_
  refine WS.ret rfl ?_
  exact ⟨s', cells', by simpa using hs', hs1, rfl, rfl⟩
end Go.Proofs
