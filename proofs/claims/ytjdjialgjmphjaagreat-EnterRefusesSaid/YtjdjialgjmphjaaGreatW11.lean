/- Part of the proof: W11. -/
import Derived.Test.YtjdjialgjmphjaaGreatW10
set_option linter.all false
set_option maxRecDepth 100000
set_option maxHeartbeats 8000000
namespace Go.Proofs
open Go Go.Sep
attribute [local irreducible] WS WL WH WHT OpV OpR

def vB (p : Int × UInt32) : Value := .agg #[I p.1, U p.2]

theorem core_Bell (sb mb : Nat) (cells : List Value) (m : GMap Int (Int × UInt32)) (u : Int) (hc : getN 20 1 cells = some [.map (some mb)]) (hm : m.get u = none) :
    Spec Tryz.prog 358 [ptr sb 0, I u] [blk sb 260 cells, mapC mb kI vB m] (fun v A => v = .tuple #[I 0, U 0] ∧ A = [blk sb 260 cells, mapC mb kI vB m]) := by
  refine Spec.of Tryz.func358 rfl Tryz.call358 rfl (fun R => ?_)
  refine WS.seq ?_
  refine WS.region ?_
  refine WL.v (V.assign rfl) rfl ?_
  refine WL.v (V.assign rfl) rfl ?_
  refine WL.done ?_
  refine WS.seq ?_
  refine WS.region ?_
  refine WL.v (V.move rfl) rfl ?_
  refine WL.v (V.nilCheck rfl) rfl ?_
  refine WL.v (V.fieldAddr rfl) rfl ?_
  refine WL.r (V.load1 0 rfl rfl hc) rfl ?_
  refine WL.v (V.move rfl) rfl ?_
  refine WL.r (V.lookup1 (kenc := kI) (venc := vB) (k := u) 1 rfl rfl rfl) rfl ?_
  rw [hm]
  refine WL.alloc rfl ?_; intro r_
  refine WL.store 0 rfl rfl rfl rfl rfl rfl ?_
  refine WL.done ?_
  refine WS.seq ?_
  refine WS.regionD [] Tryz.mixed rfl ?_
  refine WH.pick rfl ?_
  refine WHT.v (V.fieldAddr rfl) rfl rfl rfl rfl ?_
  refine WH.pick rfl ?_
  refine WHT.r (V.load1 0 rfl rfl rfl) rfl rfl rfl rfl rfl ?_
  refine WH.pick rfl ?_
  refine WHT.v (V.fieldAddr rfl) rfl rfl rfl rfl ?_
  refine WH.pick rfl ?_
  refine WHT.r (V.load1 0 rfl rfl rfl) rfl rfl rfl rfl rfl ?_
  refine WH.pick rfl ?_
  refine WHT.v (V.assign rfl) rfl rfl rfl rfl ?_
  refine WH.pick rfl ?_
  refine WHT.v (V.assign rfl) rfl rfl rfl rfl ?_
  refine WH.done ?_
  refine WS.pick [1, 1] rfl ?_
  refine WS.ret rfl ?_
  exact ⟨rfl, rfl⟩

/-- so many more were taken: the first one's number -/
theorem core_Take (sb mb : Nat) (cells : List Value) (m : GMap Int Int) (u : Int) (k n : Nat) (hc : getN 21 1 cells = some [.map (some mb)]) (hm : m.get u = some (k : Int)) (hk : k ≤ 1000000) (hn : n ≤ 1000)
    (hput : (m.put u ((k : Int) + n)).get u = some ((k : Int) + n)) :
    Spec Tryz.prog 149 [ptr sb 0, I u, I n] [blk sb 260 cells, mapC mb kI kI m] (fun v A => v = I ((k + 1 : Nat) : Int) ∧ A = [blk sb 260 cells, mapC mb kI kI (m.put u ((k : Int) + n))]) := by
  refine Spec.of Tryz.func149 rfl Tryz.call149 rfl (fun R => ?_)
  refine WS.seq ?_
  refine WS.region ?_
  refine WL.v (V.assign rfl) rfl ?_
  refine WL.done ?_
  refine WS.seq ?_
  refine WS.seq ?_
  refine WS.region ?_
  refine WL.v (V.move rfl) rfl ?_
  refine WL.v (V.nilCheck rfl) rfl ?_
  refine WL.v (V.fieldAddr rfl) rfl ?_
  refine WL.r (V.load1 0 rfl rfl hc) rfl ?_
  refine WL.v (V.move rfl) rfl ?_
  refine WL.r (V.lookup2 (kenc := kI) (venc := kI) (k := u) 1 rfl rfl rfl) rfl ?_
  rw [hm]
  refine WL.v (V.move rfl) rfl ?_
  refine WL.v (V.extractL rfl rfl) rfl ?_
  refine WL.v (V.extractL rfl rfl) rfl ?_
  refine WL.v (V.assign rfl) rfl ?_
  refine WL.v (V.assign rfl) rfl ?_
  refine WL.done ?_
  refine WS.seq ?_
  refine WS.region ?_
  refine WL.v (V.move rfl) rfl ?_
  refine WL.v (V.not rfl) rfl ?_
  refine WL.done ?_
  refine WS.condF rfl ?_
  refine WS.skip ?_
  refine WS.seq ?_
  refine WS.region ?_
  refine WL.v (V.move rfl) rfl ?_
  refine WL.v (V.nilCheck rfl) rfl ?_
  refine WL.v (V.fieldAddr rfl) rfl ?_
  refine WL.r (V.load1 0 rfl rfl hc) rfl ?_
  refine WL.v (V.move rfl) rfl ?_
  refine WL.r (V.lookup1 (kenc := kI) (venc := kI) (k := u) 1 rfl rfl rfl) rfl ?_
  rw [hm]
  refine WL.v (V.move rfl) rfl ?_
  refine WL.v (V.add rfl rfl (fits_i64 (by omega) (by omega))) rfl ?_
  refine WL.mapUpdate (kenc := kI) (venc := kI) (k := u) (v := (k : Int) + n) 1 rfl rfl rfl rfl ?_
  refine WL.done ?_
  refine WS.seq ?_
  refine WS.region ?_
  refine WL.v (V.move rfl) rfl ?_
  refine WL.v (V.nilCheck rfl) rfl ?_
  refine WL.v (V.fieldAddr rfl) rfl ?_
  refine WL.r (V.load1 1 rfl rfl hc) rfl ?_
  refine WL.v (V.move rfl) rfl ?_
  refine WL.r (V.lookup1 (kenc := kI) (venc := kI) (k := u) 0 rfl rfl rfl) rfl ?_
  rw [hput]
  refine WL.v (V.move rfl) rfl ?_
  refine WL.v (V.sub rfl rfl (fits_i64 (by omega) (by omega))) rfl ?_
  refine WL.v (V.add rfl rfl (fits_i64 (by omega) (by omega))) rfl ?_
  refine WL.v (V.assign rfl) rfl ?_
  refine WL.done ?_
  refine WS.pick [1, 0] rfl ?_
  refine WS.ret rfl ?_
  refine ⟨?_, rfl⟩
  simp only [retV]
  congr 1
  omega

/-! ## the journal -/

theorem journal_Add (sb o E0 : Nat) (cells : List Value) (s : SL encD 7) (d : Deed) (hc : getN o 1 cells = some [s.val]) (hb : s.xs.length ≤ 100000) :
    Spec Tryz.prog 245 [ptr sb o, .agg (encD d).toArray] [blk sb E0 cells, s.ch 73]
      (fun v A => ∃ s' : SL encD 7, ∃ cells', s'.xs = s.xs ++ [d] ∧ setN o [s'.val] cells = some cells' ∧ A = [blk sb E0 cells', s'.ch 73]) := by
  refine Spec.of Tryz.func245 rfl Tryz.call245 rfl (fun R => ?_)
  refine WS.seq ?_
  refine WS.region ?_
  refine WL.box rfl rfl ?_; intro r_
  refine WL.done ?_
  refine WS.regionK [0,0] rfl Tryz.mixed rfl ?_
  refine WH.pick rfl ?_
  refine WHT.v (V.move rfl) rfl rfl rfl rfl ?_
  refine WH.pick rfl ?_
  refine WHT.v (V.move rfl) rfl rfl rfl rfl ?_
  refine WH.pick rfl ?_
  refine WHT.v (V.nilCheck rfl) rfl rfl rfl rfl ?_
  refine WH.pick rfl ?_
  refine WHT.v (V.fieldAddr rfl) rfl rfl rfl rfl ?_
  refine WH.pick rfl ?_
  refine WHT.rh (V.load1 1 rfl rfl hc) rfl (by simp) rfl rfl rfl rfl ?_
  refine WH.pick rfl ?_
  refine WHT.r (V.loadN 0 rfl rfl rfl) rfl rfl rfl rfl rfl ?_
  refine WH.big rfl rfl rfl ?_; intro _ _
  refine WL.slice1 (m := 7) rfl rfl rfl (by omega) (by omega) rfl ?_
  intro nb
  refine WL.nextH (ok := by assumption) (hns := by assumption) (by simp) ?_
  refine WH.big rfl rfl rfl ?_; intro _ _
  refine WL.append (enc := encD) [d] 3 s rfl rfl rfl rfl (.inr ⟨nb, 0, 1, 0, 73, _, rfl, rfl, rfl⟩) (by simp only [List.length_cons, List.length_nil]; omega) rfl ?_
  intro s' hs'
  obtain ⟨cells', h1, h2⟩ := setN_ex cells o s.val s'.val hc
  refine WL.nextH (ok := by assumption) (hns := by assumption) (by simp) ?_
  refine WH.pick rfl ?_
  refine WHT.v (V.nilCheck rfl) rfl rfl rfl rfl ?_
  refine WH.pick rfl ?_
  refine WHT.v (V.fieldAddr rfl) rfl rfl rfl rfl ?_
  refine WH.bigSt rfl rfl rfl ?_; intro _ _
  refine WL.storeSL 3 rfl rfl rfl h1 ?_
  refine WL.nextH (ok := by assumption) (hns := by assumption) (by simp) ?_
  refine WH.done ?_
  refine WS.pick [0, 0] rfl ?_
  refine WS.fin rfl ?_
  exact ⟨s', cells', hs', h1, rfl⟩

theorem V.mkClo {P : Program} {env : List (Nat × Value)} {T : TypeId} {f : FuncId} {xs : List Operand} {vs : List Value} (hx : evs env xs = some vs) :
    OpV P (.makeFunc (.func f) #[] xs.toArray) T env (.func (.func f) #[] vs.toArray) :=
  V.mkFunc (fun _ _ => by simp) (fun ρ hs => by rw [List.map_toArray, evs_map hs xs vs hx]) (fun w => rfl)

theorem clone_deeds (s : SL encD 7) (hb : s.xs.length ≤ 100000) :
    Spec Tryz.prog 190 [s.val] [s.ch 73] (fun v A => ∃ s' : SL encD 7, s'.xs = s.xs ∧ v = s'.val ∧ A = [s'.ch 73, s.ch 73]) := by
  refine Spec.of Tryz.func190 rfl Tryz.call190 rfl (fun R => ?_)
  obtain ⟨xs, sb, cap, junk, hnil, hfit⟩ := s
  cases sb with
  | none =>
    have := hnil rfl
    subst this
    refine WS.seq ?_
    refine WS.region ?_
    refine WL.v (V.assign rfl) rfl ?_
    refine WL.done ?_
    refine WS.seq ?_
    refine WS.seq ?_
    refine WS.region ?_
    refine WL.v (V.move rfl) rfl ?_
    refine WL.v (V.eqNilS rfl rfl) rfl ?_
    refine WL.done ?_
    refine WS.condT rfl ?_
    refine WS.seq ?_
    refine WS.region ?_
    refine WL.v (V.assign rfl) rfl ?_
    refine WL.done ?_
    refine WS.perm (pre' := [[], []]) (by simp [SL.ch]) ?_
    refine WS.ret rfl ?_
    exact ⟨SL.empty, rfl, rfl, rfl⟩
  | some sb =>
    refine WS.seq ?_
    refine WS.region ?_
    refine WL.v (V.assign rfl) rfl ?_
    refine WL.done ?_
    refine WS.seq ?_
    refine WS.seq ?_
    refine WS.region ?_
    refine WL.v (V.move rfl) rfl ?_
    refine WL.v (V.eqNilS rfl rfl) rfl ?_
    refine WL.done ?_
    refine WS.condF rfl ?_
    refine WS.skip ?_
    refine WS.seq ?_
    refine WS.region ?_
    refine WL.slice0 rfl ?_
    intro r
    refine WL.v (V.move rfl) rfl ?_
    refine WL.append (enc := encD) xs 0 (at0 r) rfl rfl rfl rfl (.inr ⟨sb, 0, cap, 1, 73, flat encD xs ++ junk, rfl, rfl, getN_append_left _ _ _ (flat_length xs)⟩) (by simp only [at0, List.length_nil]; simp only at hb; omega) rfl ?_
    intro s' hs'
    refine WL.v (V.assign rfl) rfl ?_
    refine WL.done ?_
    refine WS.ret rfl ?_
    exact ⟨s', by simpa [at0] using hs', rfl, rfl⟩

theorem journal_All (sb o E0 : Nat) (cells : List Value) (s : SL encD 7) (hc : getN o 1 cells = some [s.val]) (hb : s.xs.length ≤ 100000) :
    Spec Tryz.prog 52 [ptr sb o] [blk sb E0 cells, s.ch 73] (fun v A => ∃ s' : SL encD 7, s'.xs = s.xs ∧ v = s'.val ∧ A = [s'.ch 73, blk sb E0 cells, s.ch 73]) := by
  refine Spec.of Tryz.func52 rfl Tryz.call52 rfl (fun R => ?_)
  refine WS.seq ?_
  refine WS.region ?_
  refine WL.v (V.assign rfl) rfl ?_
  refine WL.done ?_
  refine WS.seq ?_
  refine WS.region ?_
  refine WL.v (V.move rfl) rfl ?_
  refine WL.v (V.nilCheck rfl) rfl ?_
  refine WL.v (V.fieldAddr rfl) rfl ?_
  refine WL.r (V.load1 0 rfl rfl hc) rfl ?_
  refine WL.call (clone_deeds s hb) [1] rfl rfl rfl ?_
  rintro _ _ ⟨s', hs', rfl, rfl⟩
  refine WL.v (V.assign rfl) rfl ?_
  refine WL.done ?_
  refine WS.pick [0, 1, 0] rfl ?_
  refine WS.ret rfl ?_
  exact ⟨s', hs', rfl, rfl⟩

/-! ## timers, replies: none -/

theorem timer_index_nil (f : Value) : Spec Tryz.prog 526 [.slice none 0 0, f] [] (fun v A => v = I (-1) ∧ A = []) := by
  refine Spec.of Tryz.func526 rfl Tryz.call526 rfl (fun R => ?_)
  refine WS.seq ?_
  refine WS.region ?_
  refine WL.v (V.assign rfl) rfl ?_
  refine WL.done ?_
  refine WS.seq ?_
  refine WS.seq ?_
  refine WS.region ?_
  refine WL.v (V.move rfl) rfl ?_
  refine WL.v (V.lenS rfl) rfl ?_
  refine WL.v (V.move rfl) rfl ?_
  refine WL.done ?_
  refine WS.block ?_
  refine WS.loop_rounds 1 ?_
  refine WS.round ?_
  refine WS.seq ?_
  refine WS.region ?_
  refine WL.v (V.lt rfl rfl) rfl ?_
  refine WL.done ?_
  refine WS.seq ?_
  refine WS.condF rfl ?_
  refine WS.exit rfl ?_
  refine WS.seq ?_
  refine WS.region ?_
  refine WL.v (V.assign rfl) rfl ?_
  refine WL.done ?_
  refine WS.ret rfl ?_
  exact ⟨rfl, rfl⟩

theorem timer_delete_nil (f : Value) : Spec Tryz.prog 466 [.slice none 0 0, f] [] (fun v A => v = .slice none 0 0 ∧ A = []) := by
  refine Spec.of Tryz.func466 rfl Tryz.call466 rfl (fun R => ?_)
  refine WS.seq ?_
  refine WS.region ?_
  refine WL.v (V.assign rfl) rfl ?_
  refine WL.done ?_
  refine WS.seq ?_
  refine WS.region ?_
  refine WL.v (V.move rfl) rfl ?_
  refine WL.v (V.move rfl) rfl ?_
  refine WL.call (timer_index_nil f) [] rfl rfl rfl ?_
  rintro _ _ ⟨rfl, rfl⟩
  refine WL.v (V.assign rfl) rfl ?_
  refine WL.done ?_
  refine WS.seq ?_
  refine WS.seq ?_
  refine WS.region ?_
  refine WL.v (V.move rfl) rfl ?_
  refine WL.v (V.eqi rfl rfl) rfl ?_
  refine WL.done ?_
  refine WS.condT rfl ?_
  refine WS.seq ?_
  refine WS.region ?_
  refine WL.v (V.move rfl) rfl ?_
  refine WL.v (V.assign rfl) rfl ?_
  refine WL.done ?_
  refine WS.ret rfl ?_
  exact ⟨rfl, rfl⟩

theorem timer_Drop_nil (sb o E0 : Nat) (cells : List Value) (id : ID) (hc : getN o 1 cells = some [.slice none 0 0]) :
    Spec Tryz.prog 361 [ptr sb o, kID id] [blk sb E0 cells] (fun v A => v = B false ∧ A = [blk sb E0 cells]) := by
  refine Spec.of Tryz.func361 rfl Tryz.call361 rfl (fun R => ?_)
  refine WS.seq ?_
  refine WS.region ?_
  refine WL.box rfl rfl ?_; intro r_
  refine WL.v (V.assign rfl) rfl ?_
  refine WL.done ?_
  refine WS.seq ?_
  refine WS.region ?_
  refine WL.v (V.move rfl) rfl ?_
  refine WL.v (V.nilCheck rfl) rfl ?_
  refine WL.v (V.fieldAddr rfl) rfl ?_
  refine WL.r (V.load1 1 rfl rfl hc) rfl ?_
  refine WL.v (V.lenS rfl) rfl ?_
  refine WL.v (V.assign rfl) rfl ?_
  refine WL.done ?_
  refine WS.seq ?_
  refine WS.region ?_
  refine WL.v (V.move rfl) rfl ?_
  refine WL.v (V.move rfl) rfl ?_
  refine WL.v (V.nilCheck rfl) rfl ?_
  refine WL.v (V.fieldAddr rfl) rfl ?_
  refine WL.r (V.load1 1 rfl rfl hc) rfl ?_
  skip
  refine WL.v (V.mkClo rfl) rfl ?_
  refine WL.call (timer_delete_nil _) [] rfl rfl rfl ?_
  rintro _ _ ⟨rfl, rfl⟩
  refine WL.v (V.nilCheck rfl) rfl ?_
  refine WL.v (V.fieldAddr rfl) rfl ?_
  refine WL.store 1 rfl rfl rfl rfl rfl (setN_same _ _ _ hc) ?_
  refine WL.done ?_
  refine WS.seq ?_
  refine WS.region ?_
  refine WL.v (V.move rfl) rfl ?_
  refine WL.v (V.nilCheck rfl) rfl ?_
  refine WL.v (V.fieldAddr rfl) rfl ?_
  refine WL.r (V.load1 0 rfl rfl hc) rfl ?_
  refine WL.v (V.lenS rfl) rfl ?_
  refine WL.v (V.move rfl) rfl ?_
  refine WL.v (V.lt rfl rfl) rfl ?_
  refine WL.v (V.assign rfl) rfl ?_
  refine WL.done ?_
  refine WS.pick [0] rfl ?_
  refine WS.ret rfl ?_
  exact ⟨rfl, rfl⟩

theorem cell_Drop_no (cb : Nat) (x y : Value) (id : ID) :
    Spec Tryz.prog 400 [ptr cb 0, kID id] [blk cb 354 [x, y, B false]] (fun v A => v = B false ∧ A = [blk cb 354 [x, y, B false]]) := by
  refine Spec.of Tryz.func400 rfl Tryz.call400 rfl (fun R => ?_)
  refine WS.seq ?_
  refine WS.region ?_
  refine WL.box rfl rfl ?_; intro r_
  refine WL.v (V.assign rfl) rfl ?_
  refine WL.done ?_
  refine WS.seq ?_
  refine WS.seq ?_
  refine WS.regionA Tryz.mixed rfl ?_
  refine WH.pick rfl ?_
  refine WHT.v (V.move rfl) rfl rfl rfl rfl ?_
  refine WH.pick rfl ?_
  refine WHT.v (V.nilCheck rfl) rfl rfl rfl rfl ?_
  refine WH.pick rfl ?_
  refine WHT.v (V.fieldAddr rfl) rfl rfl rfl rfl ?_
  refine WH.pick rfl ?_
  refine WHT.r (V.load1 1 rfl rfl rfl) rfl rfl rfl rfl rfl ?_
  refine WH.pick rfl ?_
  refine WHT.v (V.not rfl) rfl rfl rfl rfl ?_
  refine WH.pick rfl ?_
  refine WHT.v (V.move rfl) rfl rfl rfl rfl ?_
  refine WH.pick rfl ?_
  refine WHT.gn rfl rfl rfl rfl rfl ?_
  refine WH.pick rfl ?_
  refine WHT.gn rfl rfl rfl rfl rfl ?_
  refine WH.pick rfl ?_
  refine WHT.gn rfl rfl rfl rfl rfl ?_
  refine WH.pick rfl ?_
  refine WHT.gn rfl rfl rfl rfl rfl ?_
  refine WH.pick rfl ?_
  refine WHT.gn rfl rfl rfl rfl rfl ?_
  refine WH.pick rfl ?_
  refine WHT.gn rfl rfl rfl rfl rfl ?_
  refine WH.pick rfl ?_
  refine WHT.v (V.pickT rfl rfl) rfl rfl rfl rfl ?_
  refine WH.done ?_
  refine WS.condT rfl ?_
  refine WS.seq ?_
  refine WS.region ?_
  refine WL.v (V.assign rfl) rfl ?_
  refine WL.done ?_
  refine WS.pick [1] rfl ?_
  refine WS.ret rfl ?_
  exact ⟨rfl, rfl⟩
end Go.Proofs
