/- Part of the proof: W25. -/
import Derived.Test.YtjdjialgjmphjaaGreatW13
set_option linter.all false
set_option maxRecDepth 100000
set_option maxHeartbeats 16000000
namespace Go.Proofs
open Go Go.Sep
attribute [local irreducible] WS WL WH WHT OpV OpR

/-! ## capabilities, slots: what New needs -/

structure Cap where
  kind : Int
  obj : Int
  size : Int
  badge : Int
  rights : Int
deriving DecidableEq
def encCap (c : Cap) : List Value := [I c.kind, I c.obj, I c.size, I c.badge, I c.rights]
instance : Enc encCap 5 := ⟨fun _ => rfl, fun _ => rfl, by omega⟩
abbrev vCap (c : Cap) : Value := .agg (encCap c).toArray
structure Place where
  node : Int
  slot : Int
deriving DecidableEq
abbrev kPl (x : Place) : Value := .agg #[.int .i64 x.node, .int .i64 x.slot]
instance : KeyEnc Tryz.prog 101 kPl := key2 (α := Place) (fun a => a.node) (fun a => a.slot) (fun a b => by cases a; cases b; simp)
structure Slt where
  c : Cap
  par : Place
deriving DecidableEq
def encSlt (s : Slt) : List Value := [I s.c.kind, I s.c.obj, I s.c.size, I s.c.badge, I s.c.rights, I s.par.node, I s.par.slot]
abbrev vSlt (s : Slt) : Value := .agg (encSlt s).toArray

theorem caps_in (n lo hi : Int) : Spec Tryz.prog 348 [I n, I lo, I hi] [] (fun v A => v = B (decide (lo ≤ n) && decide (n ≤ hi)) ∧ A = []) := by
  refine Spec.of Tryz.func348 rfl Tryz.call348 rfl (fun R => ?_)
  refine WS.seq ?_
  refine WS.region ?_
  refine WL.v (V.assign rfl) rfl ?_
  refine WL.done ?_
  refine WS.seq ?_
  refine WS.region ?_
  refine WL.v (V.move rfl) rfl ?_
  refine WL.v (V.move rfl) rfl ?_
  refine WL.v (V.ge rfl rfl) rfl ?_
  refine WL.v (V.move rfl) rfl ?_
  (refine WL.gcaseD rfl rfl ?_ ?_) <;> intro h_ <;> try (exfalso; omega)
  refine WL.gy rfl rfl ?_
  refine WL.v (V.move rfl) rfl ?_
  refine WL.gy rfl rfl ?_
  refine WL.v (V.move rfl) rfl ?_
  refine WL.gy rfl rfl ?_
  refine WL.v (V.le rfl rfl) rfl ?_
  refine WL.v (V.pickT rfl rfl) rfl ?_
  refine WL.v (V.assign rfl) rfl ?_
  refine WL.done ?_
  rotate_left
  refine WL.gn2 rfl rfl rfl rfl ?_
  refine WL.gn2 rfl rfl rfl rfl ?_
  refine WL.gn2 rfl rfl rfl rfl ?_
  refine WL.v (V.pickF rfl rfl) rfl ?_
  refine WL.v (V.assign rfl) rfl ?_
  refine WL.done ?_
  rotate_left
  all_goals refine WS.ret rfl ?_
  all_goals refine ⟨?_, rfl⟩
  all_goals simp [retV, *]

theorem caps_in_yes (n lo hi : Int) (h1 : lo ≤ n) (h2 : n ≤ hi) : Spec Tryz.prog 348 [I n, I lo, I hi] [] (fun v A => v = B true ∧ A = []) := by
  have := caps_in n lo hi
  simpa [h1, h2] using this

/-- one that is right: of memory, a node without a guard, or one without size and badge -/
structure Cap.new (c : Cap) : Prop where
  k1 : 1 ≤ c.kind
  k9 : c.kind ≤ 9
  r0 : 0 ≤ c.rights
  r7 : c.rights ≤ 7
  o1 : 1 ≤ c.obj
  o64 : c.obj ≤ 64
  un : c.kind = 1 → 1 ≤ c.size ∧ c.size ≤ 64 - c.obj + 1
  sz : c.kind ≠ 1 → c.size = 0
  bd : c.badge = 0

theorem caps_Check_new (c : Cap) (h : c.new) : Spec Tryz.prog 202 [vCap c] [] (fun v A => v = B true ∧ A = []) := by
  obtain ⟨kind, obj, size, badge, rights⟩ := c
  obtain ⟨k1, k9, r0, r7, o1, o64, un, sz, bd⟩ := h
  simp only at k1 k9 r0 r7 o1 o64 un sz bd
  subst bd
  show Spec Tryz.prog 202 [.agg [I kind, I obj, I size, I 0, I rights].toArray] [] _
  refine Spec.of Tryz.func202 rfl Tryz.call202 rfl (fun R => ?_)
  refine WS.seq ?_
  refine WS.region ?_
  refine WL.box rfl rfl ?_; intro r_
  refine WL.v (V.assign rfl) rfl ?_
  refine WL.done ?_
  refine WS.seq ?_
  refine WS.seq ?_
  refine WS.region ?_
  refine WL.v (V.fieldAddr rfl) rfl ?_
  refine WL.r (V.load1 0 rfl rfl rfl) rfl ?_
  refine WL.callB (caps_in_yes kind 1 9 k1 k9) [] rfl rfl rfl ?_
  rintro _ _ ⟨rfl, rfl⟩
  refine WL.v (V.not rfl) rfl ?_
  refine WL.v (V.move rfl) rfl ?_
  refine WL.gy rfl rfl ?_
  refine WL.v (V.fieldAddr rfl) rfl ?_
  refine WL.gy rfl rfl ?_
  refine WL.r (V.load1 0 rfl rfl rfl) rfl ?_
  refine WL.gy rfl rfl ?_
  refine WL.callB (caps_in_yes rights 0 7 r0 r7) [] rfl rfl rfl ?_
  rintro _ _ ⟨rfl, rfl⟩
  refine WL.gy rfl rfl ?_
  refine WL.v (V.not rfl) rfl ?_
  refine WL.v (V.pickF rfl rfl) rfl ?_
  refine WL.v (V.move rfl) rfl ?_
  refine WL.gy rfl rfl ?_
  refine WL.v (V.fieldAddr rfl) rfl ?_
  refine WL.gy rfl rfl ?_
  refine WL.r (V.load1 0 rfl rfl rfl) rfl ?_
  refine WL.gy rfl rfl ?_
  refine WL.callB (caps_in_yes obj 1 64 o1 o64) [] rfl rfl rfl ?_
  rintro _ _ ⟨rfl, rfl⟩
  by_cases h1 : kind = 1
  · obtain ⟨s1, s2⟩ := un h1
    refine WL.gy rfl rfl ?_
    refine WL.v (V.not rfl) rfl ?_
    refine WL.v (V.pickF rfl rfl) rfl ?_
    refine WL.done ?_
    refine WS.condF rfl ?_
    refine WS.skip ?_
    refine WS.seq ?_
    refine WS.seq ?_
    refine WS.region ?_
    refine WL.v (V.fieldAddr rfl) rfl ?_
    refine WL.r (V.load1 0 rfl rfl rfl) rfl ?_
    refine WL.done ?_
    refine WS.block ?_
    refine WS.seq ?_
    refine WS.region ?_
    refine WL.v (V.eqi rfl rfl) rfl ?_
    refine WL.v (V.assign rfl) rfl ?_
    refine WL.done ?_
    (refine WS.condD rfl ?_ ?_) <;> intro h_ <;> try (exfalso; omega)
    refine WS.seq ?_
    refine WS.region ?_
    refine WL.v (V.fieldAddr rfl) rfl ?_
    refine WL.r (V.load1 0 rfl rfl rfl) rfl ?_
    refine WL.v (V.fieldAddr rfl) rfl ?_
    refine WL.r (V.load1 0 rfl rfl rfl) rfl ?_
    refine WL.v (V.sub rfl rfl (fits_i64 (by omega) (by omega))) rfl ?_
    refine WL.v (V.add rfl rfl (fits_i64 (by omega) (by omega))) rfl ?_
    refine WL.callB (caps_in_yes size 1 (64 - obj + 1) s1 s2) [] rfl rfl rfl ?_
    rintro _ _ ⟨rfl, rfl⟩
    refine WL.v (V.move rfl) rfl ?_
    refine WL.gy rfl rfl ?_
    refine WL.v (V.fieldAddr rfl) rfl ?_
    refine WL.gy rfl rfl ?_
    refine WL.r (V.load1 0 rfl rfl rfl) rfl ?_
    refine WL.gy rfl rfl ?_
    refine WL.v (V.eqi rfl rfl) rfl ?_
    refine WL.v (V.pickT rfl rfl) rfl ?_
    refine WL.v (V.assign rfl) rfl ?_
    refine WL.done ?_
    refine WS.pick [] rfl ?_
    refine WS.ret rfl ?_
    exact ⟨rfl, rfl⟩
  · have s0 := sz h1
    subst s0
    by_cases h2 : kind = 2
    · refine WL.gy rfl rfl ?_
      refine WL.v (V.not rfl) rfl ?_
      refine WL.v (V.pickF rfl rfl) rfl ?_
      refine WL.done ?_
      refine WS.condF rfl ?_
      refine WS.skip ?_
      refine WS.seq ?_
      refine WS.seq ?_
      refine WS.region ?_
      refine WL.v (V.fieldAddr rfl) rfl ?_
      refine WL.r (V.load1 0 rfl rfl rfl) rfl ?_
      refine WL.done ?_
      refine WS.block ?_
      refine WS.seq ?_
      refine WS.region ?_
      refine WL.v (V.eqi rfl rfl) rfl ?_
      refine WL.v (V.assign rfl) rfl ?_
      refine WL.done ?_
      (refine WS.condD rfl ?_ ?_) <;> intro h_ <;> try (exfalso; omega)
      refine WS.seq ?_
      refine WS.region ?_
      refine WL.v (V.eqi rfl rfl) rfl ?_
      refine WL.v (V.assign rfl) rfl ?_
      refine WL.done ?_
      (refine WS.condD rfl ?_ ?_) <;> intro h_ <;> try (exfalso; omega)
      refine WS.seq ?_
      refine WS.regionD [] Tryz.mixed rfl ?_
      refine WH.pick rfl ?_
      refine WHT.v (V.fieldAddr rfl) rfl rfl rfl rfl ?_
      refine WH.pick rfl ?_
      refine WHT.r (V.load1 0 rfl rfl rfl) rfl rfl rfl rfl rfl ?_
      refine WH.big rfl rfl rfl ?_; intro _ _
      refine WL.callB (caps_in_yes 0 0 8 (by omega) (by omega)) [] rfl rfl rfl ?_
      rintro _ _ ⟨rfl, rfl⟩
      refine WL.nextH (ok := by assumption) (hns := by assumption) (by simp) ?_
      refine WH.pick rfl ?_
      refine WHT.v (V.move rfl) rfl rfl rfl rfl ?_
      refine WH.pick rfl ?_
      refine WHT.v (V.fieldAddr rfl) rfl rfl rfl rfl ?_
      refine WH.pick rfl ?_
      refine WHT.r (V.load1 0 rfl rfl rfl) rfl rfl rfl rfl rfl ?_
      refine WH.pick rfl ?_
      refine WHT.v (V.fieldAddr rfl) rfl rfl rfl rfl ?_
      refine WH.pick rfl ?_
      refine WHT.r (V.load1 0 rfl rfl rfl) rfl rfl rfl rfl rfl ?_
      refine WH.pick rfl ?_
      refine WHT.v (V.shl rfl rfl (by omega)) rfl rfl rfl rfl ?_
      refine WH.pick rfl ?_
      refine WHT.v (V.sub rfl rfl (show IntKind.wrap .i64 _ = _ from by decide)) rfl rfl rfl rfl ?_
      refine WH.big rfl rfl rfl ?_; intro _ _
      refine WL.gy rfl rfl ?_
      refine WL.callB (caps_in_yes 0 0 0 (by omega) (by omega)) [] rfl rfl rfl ?_
      rintro _ _ ⟨rfl, rfl⟩
      refine WL.nextH (ok := by assumption) (hns := by assumption) (by simp) ?_
      refine WH.pick rfl ?_
      refine WHT.v (V.pickT rfl rfl) rfl rfl rfl rfl ?_
      refine WH.pick rfl ?_
      refine WHT.v (V.assign rfl) rfl rfl rfl rfl ?_
      refine WH.done ?_
      refine WS.pick [] rfl ?_
      refine WS.ret rfl ?_
      exact ⟨rfl, rfl⟩
    · refine WL.gy rfl rfl ?_
      refine WL.v (V.not rfl) rfl ?_
      refine WL.v (V.pickF rfl rfl) rfl ?_
      refine WL.done ?_
      refine WS.condF rfl ?_
      refine WS.skip ?_
      refine WS.seq ?_
      refine WS.seq ?_
      refine WS.region ?_
      refine WL.v (V.fieldAddr rfl) rfl ?_
      refine WL.r (V.load1 0 rfl rfl rfl) rfl ?_
      refine WL.done ?_
      refine WS.block ?_
      refine WS.seq ?_
      refine WS.region ?_
      refine WL.v (V.eqi rfl rfl) rfl ?_
      refine WL.v (V.assign rfl) rfl ?_
      refine WL.done ?_
      (refine WS.condD rfl ?_ ?_) <;> intro h_ <;> try (exfalso; omega)
      refine WS.seq ?_
      refine WS.region ?_
      refine WL.v (V.eqi rfl rfl) rfl ?_
      refine WL.v (V.assign rfl) rfl ?_
      refine WL.done ?_
      (refine WS.condD rfl ?_ ?_) <;> intro h_ <;> try (exfalso; omega)
      refine WS.seq ?_
      refine WS.seq ?_
      refine WS.region ?_
      refine WL.v (V.eqi rfl rfl) rfl ?_
      refine WL.v (V.assign rfl) rfl ?_
      refine WL.done ?_
      (refine WS.condD rfl ?_ ?_) <;> intro h_ <;> try (exfalso; omega)
      refine WS.skip ?_
      (refine WS.condD rfl ?_ ?_) <;> intro h_ <;> try (exfalso; omega)
      refine WS.seq ?_
      refine WS.region ?_
      refine WL.v (V.fieldAddr rfl) rfl ?_
      refine WL.r (V.load1 0 rfl rfl rfl) rfl ?_
      refine WL.v (V.eqi rfl rfl) rfl ?_
      refine WL.v (V.move rfl) rfl ?_
      refine WL.gy rfl rfl ?_
      refine WL.v (V.fieldAddr rfl) rfl ?_
      refine WL.gy rfl rfl ?_
      refine WL.r (V.load1 0 rfl rfl rfl) rfl ?_
      refine WL.gy rfl rfl ?_
      rotate_left
      refine WS.region ?_
      refine WL.v (V.eqi rfl rfl) rfl ?_
      refine WL.v (V.assign rfl) rfl ?_
      refine WL.done ?_
      (refine WS.condD rfl ?_ ?_) <;> intro h_ <;> try (exfalso; omega)
      refine WS.seq ?_
      refine WS.region ?_
      refine WL.v (V.fieldAddr rfl) rfl ?_
      refine WL.r (V.load1 0 rfl rfl rfl) rfl ?_
      refine WL.v (V.eqi rfl rfl) rfl ?_
      refine WL.v (V.move rfl) rfl ?_
      refine WL.gy rfl rfl ?_
      refine WL.v (V.fieldAddr rfl) rfl ?_
      refine WL.gy rfl rfl ?_
      refine WL.r (V.load1 0 rfl rfl rfl) rfl ?_
      refine WL.gy rfl rfl ?_
      rotate_left
      refine WS.skip ?_
      refine WS.blk ?_
      refine WS.seq ?_
      refine WS.region ?_
      refine WL.v (V.fieldAddr rfl) rfl ?_
      refine WL.r (V.load1 0 rfl rfl rfl) rfl ?_
      refine WL.v (V.eqi rfl rfl) rfl ?_
      refine WL.v (V.move rfl) rfl ?_
      refine WL.gy rfl rfl ?_
      refine WL.v (V.fieldAddr rfl) rfl ?_
      refine WL.gy rfl rfl ?_
      refine WL.r (V.load1 0 rfl rfl rfl) rfl ?_
      refine WL.gy rfl rfl ?_
      refine WL.v (V.eqi rfl rfl) rfl ?_
      refine WL.v (V.pickT rfl rfl) rfl ?_
      refine WL.v (V.assign rfl) rfl ?_
      refine WL.done ?_
      rotate_left
      · refine WL.callB (caps_in_yes 0 0 2147483647 (by omega) (by omega)) [] rfl rfl rfl ?_
        rintro _ _ ⟨rfl, rfl⟩
        refine WL.v (V.pickT rfl rfl) rfl ?_
        refine WL.v (V.assign rfl) rfl ?_
        refine WL.done ?_
        refine WS.pick [] rfl ?_
        refine WS.ret rfl ?_
        exact ⟨rfl, rfl⟩
      · refine WL.callB (caps_in_yes 0 0 2147483647 (by omega) (by omega)) [] rfl rfl rfl ?_
        rintro _ _ ⟨rfl, rfl⟩
        refine WL.v (V.pickT rfl rfl) rfl ?_
        refine WL.v (V.assign rfl) rfl ?_
        refine WL.done ?_
        refine WS.pick [] rfl ?_
        refine WS.ret rfl ?_
        exact ⟨rfl, rfl⟩
      · refine WS.pick [] rfl ?_
        refine WS.ret rfl ?_
        exact ⟨rfl, rfl⟩

theorem slots_can (p : Place) (h1 : 1 ≤ p.node) (h2 : p.node ≤ 64) (h3 : 0 ≤ p.slot) (h4 : p.slot < 16) : Spec Tryz.prog 200 [kPl p] [] (fun v A => v = B true ∧ A = []) := by
  refine Spec.of Tryz.func200 rfl Tryz.call200 rfl (fun R => ?_)
  refine WS.seq ?_
  refine WS.region ?_
  refine WL.box rfl rfl ?_; intro r_
  refine WL.v (V.assign rfl) rfl ?_
  refine WL.done ?_
  refine WS.seq ?_
  refine WS.region ?_
  refine WL.v (V.fieldAddr rfl) rfl ?_
  refine WL.r (V.load1 0 rfl rfl rfl) rfl ?_
  refine WL.v (V.ge rfl rfl) rfl ?_
  refine WL.v (V.move rfl) rfl ?_
  (refine WL.gcaseD rfl rfl ?_ ?_) <;> intro h_ <;> try (exfalso; omega)
  refine WL.gy rfl rfl ?_
  refine WL.v (V.fieldAddr rfl) rfl ?_
  refine WL.gy rfl rfl ?_
  refine WL.r (V.load1 0 rfl rfl rfl) rfl ?_
  refine WL.gy rfl rfl ?_
  refine WL.v (V.le rfl rfl) rfl ?_
  refine WL.v (V.pickT rfl rfl) rfl ?_
  refine WL.v (V.move rfl) rfl ?_
  (refine WL.gcaseD rfl rfl ?_ ?_) <;> intro h_ <;> try (exfalso; omega)
  refine WL.gy rfl rfl ?_
  refine WL.v (V.fieldAddr rfl) rfl ?_
  refine WL.gy rfl rfl ?_
  refine WL.r (V.load1 0 rfl rfl rfl) rfl ?_
  refine WL.gy rfl rfl ?_
  refine WL.v (V.ge rfl rfl) rfl ?_
  refine WL.v (V.pickT rfl rfl) rfl ?_
  refine WL.v (V.move rfl) rfl ?_
  (refine WL.gcaseD rfl rfl ?_ ?_) <;> intro h_ <;> try (exfalso; omega)
  refine WL.gy rfl rfl ?_
  refine WL.v (V.fieldAddr rfl) rfl ?_
  refine WL.gy rfl rfl ?_
  refine WL.r (V.load1 0 rfl rfl rfl) rfl ?_
  refine WL.gy rfl rfl ?_
  refine WL.v (V.lt rfl rfl) rfl ?_
  refine WL.v (V.pickT rfl rfl) rfl ?_
  refine WL.v (V.assign rfl) rfl ?_
  refine WL.done ?_
  refine WS.pick [] rfl ?_
  refine WS.ret rfl ?_
  exact ⟨by simp [retV, h4], rfl⟩

abbrev ST := MP Place Slt

theorem slots_has (sb o E0 : Nat) (cells : List Value) (t : ST) (p : Place) (hc : getN o 1 cells = some [t.val]) :
    Spec Tryz.prog 201 [ptr sb o, kPl p] [blk sb E0 cells, t.ch kPl vSlt] (fun v A => v = B (t.get p).isSome ∧ A = [blk sb E0 cells, t.ch kPl vSlt]) := by
  refine Spec.of Tryz.func201 rfl Tryz.call201 rfl (fun R => ?_)
  refine WS.seq ?_
  refine WS.region ?_
  refine WL.box rfl rfl ?_; intro r_
  refine WL.v (V.assign rfl) rfl ?_
  refine WL.done ?_
  refine WS.seq ?_
  refine WS.regionA Tryz.mixed rfl ?_
  refine WH.pick rfl ?_
  refine WHT.v (V.move rfl) rfl rfl rfl rfl ?_
  refine WH.pick rfl ?_
  refine WHT.v (V.nilCheck rfl) rfl rfl rfl rfl ?_
  refine WH.pick rfl ?_
  refine WHT.v (V.fieldAddr rfl) rfl rfl rfl rfl ?_
  refine WH.pick rfl ?_
  refine WHT.rh (V.load1 1 rfl rfl hc) rfl (by simp) rfl rfl rfl rfl ?_
  refine WH.pick rfl ?_
  refine WHT.rh (V.loadN 0 rfl rfl rfl) rfl (by simp) rfl rfl rfl rfl ?_
  refine WH.pick rfl ?_
  refine WHT.rh (V.lookup2M (kenc := kPl) (k := p) 2 rfl rfl rfl) rfl (by simp) rfl rfl rfl rfl ?_
  cases hf : t.get p with
  | none =>
    refine WH.pick rfl ?_
    refine WHT.v (V.move rfl) rfl rfl rfl rfl ?_
    refine WH.pick rfl ?_
    refine WHT.v (V.extractL rfl rfl) rfl rfl rfl rfl ?_
    refine WH.pick rfl ?_
    refine WHT.v (V.extractL rfl rfl) rfl rfl rfl rfl ?_
    refine WH.big rfl rfl rfl ?_; intro _ _
    refine WL.alloc rfl ?_; intro r_
    refine WL.nextH (ok := by assumption) (hns := by assumption) (by simp) ?_
    refine WH.bigSt rfl rfl rfl ?_; intro _ _
    refine WL.store 0 rfl rfl rfl rfl rfl rfl ?_
    refine WL.nextH (ok := by assumption) (hns := by assumption) (by simp) ?_
    refine WH.pick rfl ?_
    refine WHT.v (V.assign rfl) rfl rfl rfl rfl ?_
    refine WH.done ?_
    refine WS.seq ?_
    refine WS.region ?_
    refine WL.v (V.move rfl) rfl ?_
    refine WL.v (V.assign rfl) rfl ?_
    refine WL.done ?_
    refine WS.pick [2, 2] rfl ?_
    refine WS.ret rfl ?_
    exact ⟨rfl, rfl⟩
  | some r =>
    refine WH.pick rfl ?_
    refine WHT.v (V.move rfl) rfl rfl rfl rfl ?_
    refine WH.pick rfl ?_
    refine WHT.v (V.extractL rfl rfl) rfl rfl rfl rfl ?_
    refine WH.pick rfl ?_
    refine WHT.v (V.extractL rfl rfl) rfl rfl rfl rfl ?_
    refine WH.big rfl rfl rfl ?_; intro _ _
    refine WL.alloc rfl ?_; intro r_
    refine WL.nextH (ok := by assumption) (hns := by assumption) (by simp) ?_
    refine WH.bigSt rfl rfl rfl ?_; intro _ _
    refine WL.store 0 rfl rfl rfl rfl rfl rfl ?_
    refine WL.nextH (ok := by assumption) (hns := by assumption) (by simp) ?_
    refine WH.pick rfl ?_
    refine WHT.v (V.assign rfl) rfl rfl rfl rfl ?_
    refine WH.done ?_
    refine WS.seq ?_
    refine WS.region ?_
    refine WL.v (V.move rfl) rfl ?_
    refine WL.v (V.assign rfl) rfl ?_
    refine WL.done ?_
    refine WS.pick [2, 2] rfl ?_
    refine WS.ret rfl ?_
    exact ⟨rfl, rfl⟩
end Go.Proofs
