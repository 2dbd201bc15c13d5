/- Part of the proof: W26. -/
import Derived.Test.YtjdjialgjmphjaaGreatW25
set_option linter.all false
set_option maxRecDepth 100000
set_option maxHeartbeats 16000000
namespace Go.Proofs
open Go Go.Sep
attribute [local irreducible] WS WL WH WHT OpV OpR

def MP.putAt {α β : Type} [DecidableEq α] (s : MP α β) (b : Nat) (k : α) (v : β) : MP α β := ⟨some b, s.m.put k v, fun h => by simp at h⟩
def MP.put' {α β : Type} [DecidableEq α] (s : MP α β) (b : Nat) (k : α) (v : β) : MP α β := match s.r with
  | none => ⟨some b, (GMap.empty : GMap α β).put k v, fun h => by simp at h⟩
  | some r => MP.putAt s r k v

theorem slots_lays (sb o E0 : Nat) (cells : List Value) (t : ST) (p : Place) (s : Slt) (hc : getN o 1 cells = some [t.val]) :
    Spec Tryz.prog 203 [ptr sb o, kPl p, vSlt s] [blk sb E0 cells, t.ch kPl vSlt]
      (fun _ A => ∃ t' : ST, ∃ cells', (∃ b, t' = MP.put' t b p s) ∧ setN o [t'.val] cells = some cells' ∧ A = [blk sb E0 cells', t'.ch kPl vSlt]) := by
  refine Spec.of Tryz.func203 rfl Tryz.call203 rfl (fun R => ?_)
  refine WS.seq ?_
  refine WS.region ?_
  refine WL.box rfl rfl ?_; intro r_
  refine WL.box rfl rfl ?_; intro r_
  refine WL.done ?_
  refine WS.seq ?_
  refine WS.seq ?_
  refine WS.region ?_
  refine WL.v (V.move rfl) rfl ?_
  refine WL.v (V.nilCheck rfl) rfl ?_
  refine WL.v (V.fieldAddr rfl) rfl ?_
  refine WL.r (V.load1 2 rfl rfl hc) rfl ?_
  cases hr : t.r with
  | none =>
    have hval : t.val = .map none := by simp only [MP.val, hr]
    rw [hval]
    refine WL.v (V.eqNilM rfl rfl) rfl ?_
    refine WL.done ?_
    refine WS.condT rfl ?_
    refine WS.region ?_
    refine WL.v (V.move rfl) rfl ?_
    refine WL.makeMap kPl vSlt rfl ?_
    intro b
    refine WL.v (V.nilCheck rfl) rfl ?_
    refine WL.v (V.fieldAddr rfl) rfl ?_
    obtain ⟨cells', hs1, hs2⟩ := setN_ex cells o t.val (.map (some b)) hc
    refine WL.store 3 rfl rfl rfl rfl rfl hs1 ?_
    refine WL.done ?_
    refine WS.regionD [] Tryz.mixed rfl ?_
    refine WH.pick rfl ?_
    refine WHT.v (V.move rfl) rfl rfl rfl rfl ?_
    refine WH.pick rfl ?_
    refine WHT.v (V.nilCheck rfl) rfl rfl rfl rfl ?_
    refine WH.pick rfl ?_
    refine WHT.v (V.fieldAddr rfl) rfl rfl rfl rfl ?_
    refine WH.pick rfl ?_
    refine WHT.r (V.load1 0 rfl rfl hs2) rfl rfl rfl rfl rfl ?_
    refine WH.pick rfl ?_
    refine WHT.r (V.loadN 3 rfl rfl rfl) rfl rfl rfl rfl rfl ?_
    refine WH.pick rfl ?_
    refine WHT.r (V.loadN 2 rfl rfl rfl) rfl rfl rfl rfl rfl ?_
    refine WH.big rfl rfl rfl ?_; intro _ _
    refine WL.mapUpdate (kenc := kPl) (venc := vSlt) (k := p) (v := s) 1 rfl rfl rfl rfl ?_
    refine WL.nextH (ok := by assumption) (hns := by assumption) (by simp) ?_
    refine WH.done ?_
    refine WS.pick [1, 0] rfl ?_
    refine WS.fin rfl ?_
    exact ⟨MP.put' t b p s, cells', ⟨b, rfl⟩, by rw [← hs1]; simp only [MP.put', hr, MP.val], by simp only [MP.put', hr, MP.ch]⟩
  | some b =>
    have hval : t.val = .map (some b) := by simp only [MP.val, hr]
    rw [hval]
    refine WL.v (V.eqNilM rfl rfl) rfl ?_
    refine WL.done ?_
    refine WS.condF rfl ?_
    refine WS.skip ?_
    refine WS.regionD [] Tryz.mixed rfl ?_
    refine WH.pick rfl ?_
    refine WHT.v (V.move rfl) rfl rfl rfl rfl ?_
    refine WH.pick rfl ?_
    refine WHT.v (V.nilCheck rfl) rfl rfl rfl rfl ?_
    refine WH.pick rfl ?_
    refine WHT.v (V.fieldAddr rfl) rfl rfl rfl rfl ?_
    refine WH.pick rfl ?_
    refine WHT.r (V.load1 2 rfl rfl hc) rfl rfl rfl rfl rfl ?_
    refine WH.pick rfl ?_
    refine WHT.r (V.loadN 1 rfl rfl rfl) rfl rfl rfl rfl rfl ?_
    refine WH.pick rfl ?_
    refine WHT.r (V.loadN 0 rfl rfl rfl) rfl rfl rfl rfl rfl ?_
    refine WH.big rfl rfl rfl ?_; intro _ _
    refine WL.mapUpdateM (kenc := kPl) (venc := vSlt) (k := p) (v := s) 3 hr rfl rfl rfl rfl ?_
    refine WL.nextH (ok := by assumption) (hns := by assumption) (by simp) ?_
    refine WH.done ?_
    refine WS.pick [3, 0] rfl ?_
    refine WS.fin rfl ?_
    refine ⟨MP.put' t b p s, cells, ⟨b, rfl⟩, ?_, ?_⟩
    · rw [show (MP.put' t b p s).val = t.val from by simp only [MP.put', MP.putAt, MP.val, hr]]; exact setN_same _ _ _ hc
    · simp only [MP.put', hr, MP.putAt, MP.ch]

/-- a capability into a slot that has none, of no parent -/
theorem slots_Put_new (sb o E0 : Nat) (cells : List Value) (t : ST) (p : Place) (c : Cap) (hc : getN o 1 cells = some [t.val])
    (h1 : 1 ≤ p.node) (h2 : p.node ≤ 64) (h3 : 0 ≤ p.slot) (h4 : p.slot < 16) (hn : t.get p = none) (hk : c.new) :
    Spec Tryz.prog 70 [ptr sb o, kPl p, vCap c, kPl ⟨0, 0⟩] [blk sb E0 cells, t.ch kPl vSlt]
      (fun v A => ∃ t' : ST, ∃ cells', (∃ b, t' = MP.put' t b p ⟨c, ⟨0, 0⟩⟩) ∧ setN o [t'.val] cells = some cells' ∧ v = B true ∧ A = [blk sb E0 cells', t'.ch kPl vSlt]) := by
  have hhas := slots_has sb o E0 cells t p hc
  rw [hn] at hhas
  refine Spec.of Tryz.func70 rfl Tryz.call70 rfl (fun R => ?_)
  refine WS.seq ?_
  refine WS.region ?_
  refine WL.box rfl rfl ?_; intro r_
  refine WL.box rfl rfl ?_; intro r_
  refine WL.box rfl rfl ?_; intro r_
  refine WL.v (V.assign rfl) rfl ?_
  refine WL.done ?_
  refine WS.seq ?_
  refine WS.seq ?_
  refine WS.region ?_
  refine WL.r (V.loadN 2 rfl rfl rfl) rfl ?_
  refine WL.callB (slots_can p h1 h2 h3 h4) [] rfl rfl rfl ?_
  rintro _ _ ⟨rfl, rfl⟩
  refine WL.v (V.not rfl) rfl ?_
  refine WL.v (V.move rfl) rfl ?_
  refine WL.gy rfl rfl ?_
  refine WL.v (V.move rfl) rfl ?_
  refine WL.gy rfl rfl ?_
  refine WL.r (V.loadN 2 rfl rfl rfl) rfl ?_
  refine WL.gy rfl rfl ?_
  refine WL.callB hhas [3, 3] rfl rfl rfl ?_
  rintro _ _ ⟨rfl, rfl⟩
  refine WL.v (V.pickF rfl rfl) rfl ?_
  refine WL.v (V.move rfl) rfl ?_
  refine WL.gy rfl rfl ?_
  refine WL.r (V.loadN 1 rfl rfl rfl) rfl ?_
  refine WL.gy rfl rfl ?_
  refine WL.callB (caps_Check_new c hk) [] rfl rfl rfl ?_
  rintro _ _ ⟨rfl, rfl⟩
  refine WL.gy rfl rfl ?_
  refine WL.v (V.not rfl) rfl ?_
  refine WL.v (V.pickF rfl rfl) rfl ?_
  refine WL.v (V.move rfl) rfl ?_
  refine WL.gy rfl rfl ?_
  refine WL.r (V.loadN 0 rfl rfl rfl) rfl ?_
  refine WL.gy rfl rfl ?_
  refine WL.v (V.build rfl rfl rfl) rfl ?_
  refine WL.gy rfl rfl ?_
  refine WL.v (V.ne2 rfl rfl) rfl ?_
  refine WL.gy rfl rfl ?_
  refine WL.v (V.move rfl) rfl ?_
  refine WL.gn2 rfl rfl rfl rfl ?_
  refine WL.gn2 rfl rfl rfl rfl ?_
  refine WL.gn2 rfl rfl rfl rfl ?_
  refine WL.gn2 rfl rfl rfl rfl ?_
  refine WL.gy rfl rfl ?_
  refine WL.v (V.pickF rfl rfl) rfl ?_
  refine WL.v (V.pickF rfl rfl) rfl ?_
  refine WL.done ?_
  refine WS.condF rfl ?_
  refine WS.skip ?_
  refine WS.seq ?_
  refine WS.region ?_
  refine WL.v (V.move rfl) rfl ?_
  refine WL.r (V.loadN 2 rfl rfl rfl) rfl ?_
  refine WL.r (V.loadN 1 rfl rfl rfl) rfl ?_
  refine WL.r (V.loadN 0 rfl rfl rfl) rfl ?_
  refine WL.v (V.build rfl rfl rfl) rfl ?_
  refine WL.callB (slots_lays sb o E0 cells t p ⟨c, ⟨0, 0⟩⟩ hc) [3, 3] rfl rfl rfl ?_
  rintro _ _ ⟨t', cells', ht, hs, rfl⟩
  refine WL.done ?_
  refine WS.seq ?_
  refine WS.region ?_
  refine WL.v (V.assign rfl) rfl ?_
  refine WL.done ?_
  refine WS.pick [3, 3] rfl ?_
  refine WS.ret rfl ?_
  exact ⟨t', cells', ht, hs, rfl, rfl⟩

theorem GMap.get_empty {α β : Type} [DecidableEq α] (k : α) : (GMap.empty : GMap α β).get k = none := rfl

theorem GMap.pos_upd {α β : Type} [DecidableEq α] (k k' : α) (v : β) : ∀ es : List (Ent α β), (GMap.pos k' (GMap.upd k v es)).map (·.2) = if k' = k then (GMap.pos k' es).map (fun _ => v) else (GMap.pos k' es).map (·.2)
  | [] => by simp [GMap.pos, GMap.upd]
  | e :: es => by
    have ih := GMap.pos_upd k k' v es
    simp only [GMap.upd, List.map_cons, GMap.pos] at ih ⊢
    by_cases h1 : e.k = k'
    · have h1a : (if e.k = k then ({ e with v := v } : Ent α β) else e).k = k' := by split <;> exact h1
      rw [if_pos h1a, if_pos h1]
      by_cases h2 : k' = k
      · simp [h1, h2]
      · simp [h1, h2]
    · have h1a : ¬ (if e.k = k then ({ e with v := v } : Ent α β) else e).k = k' := by split <;> exact h1
      rw [if_neg h1a, if_neg h1]
      cases hp : GMap.pos k' (es.map fun e => if e.k = k then { e with v := v } else e) with
      | none =>
        rw [hp] at ih
        cases hq : GMap.pos k' es with
        | none => simp
        | some x => rw [hq] at ih; simp at ih; split at ih <;> simp at ih
      | some x =>
        rw [hp] at ih
        cases hq : GMap.pos k' es with
        | none => rw [hq] at ih; simp at ih
        | some y => rw [hq] at ih; simpa using ih

theorem GMap.pos_snoc {α β : Type} [DecidableEq α] (k : α) (e : Ent α β) : ∀ es : List (Ent α β), (GMap.pos k (es ++ [e])).map (·.2) = match GMap.pos k es with
    | some x => some x.2
    | none => if e.k = k then some e.v else none
  | [] => by simp only [List.nil_append, GMap.pos]; split <;> simp
  | d :: es => by
    have ih := GMap.pos_snoc k e es
    simp only [List.cons_append, GMap.pos]
    split
    · simp
    · cases hp : GMap.pos k es with
      | none =>
        rw [hp] at ih
        cases hq : GMap.pos k (es ++ [e]) with
        | none => rw [hq] at ih; simpa using ih
        | some y => rw [hq] at ih; simpa using ih
      | some x =>
        rw [hp] at ih
        cases hq : GMap.pos k (es ++ [e]) with
        | none => rw [hq] at ih; simp at ih
        | some y => rw [hq] at ih; simpa using ih

theorem GMap.get_put' {α β : Type} [DecidableEq α] (m : GMap α β) (k k' : α) (v : β) : (m.put k v).get k' = if k' = k then some v else m.get k' := by
  unfold GMap.get
  cases hp : GMap.pos k m.es with
  | none =>
    rw [(GMap.put_none (v := v) hp).1, GMap.pos_snoc]
    by_cases h : k' = k
    · subst h; simp [hp]
    · have h' : ¬ k = k' := fun e => h e.symm
      simp only [if_neg h, if_neg h']
      cases GMap.pos k' m.es <;> simp
  | some x =>
    rw [(GMap.put_some (v := v) hp).1, GMap.pos_upd]
    by_cases h : k' = k
    · subst h; simp [hp]
    · simp [h]

theorem MP.get_put' {α β : Type} [DecidableEq α] (t : MP α β) (b : Nat) (k k' : α) (v : β) : (MP.put' t b k v).get k' = if k' = k then some v else t.get k' := by
  unfold MP.put' MP.get
  split
  · rename_i h
    rw [GMap.get_put', GMap.get_empty]
    have : t.m.get k' = none := by simp [GMap.get, t.nil h, GMap.pos]
    rw [this]
  · rename_i r h
    exact GMap.get_put' _ _ _ _

/-! ## pages -/

structure Map1 where
  frame : Int
  rights : Int
deriving DecidableEq
structure Page where
  space : Int
  page : Int
deriving DecidableEq
abbrev kPg (x : Page) : Value := .agg #[.int .i64 x.space, .int .i64 x.page]
abbrev vM1 (x : Map1) : Value := .agg #[.int .i64 x.frame, .int .i64 x.rights]
instance : KeyEnc Tryz.prog 287 kPg := key2 (α := Page) (fun a => a.space) (fun a => a.page) (fun a b => by cases a; cases b; simp)
abbrev PM := MP Page Map1

theorem space_unit (n : Int) (h1 : 1 ≤ n) (h2 : n ≤ 64) : Spec Tryz.prog 395 [I n] [] (fun v A => v = B true ∧ A = []) := by
  refine Spec.of Tryz.func395 rfl Tryz.call395 rfl (fun R => ?_)
  refine WS.seq ?_
  refine WS.region ?_
  refine WL.v (V.assign rfl) rfl ?_
  refine WL.done ?_
  refine WS.seq ?_
  refine WS.region ?_
  refine WL.v (V.move rfl) rfl ?_
  refine WL.v (V.ge rfl rfl) rfl ?_
  refine WL.v (V.move rfl) rfl ?_
  (refine WL.gcaseD rfl rfl ?_ ?_) <;> intro h_ <;> try (exfalso; omega)
  refine WL.gy rfl rfl ?_
  refine WL.v (V.move rfl) rfl ?_
  refine WL.gy rfl rfl ?_
  refine WL.v (V.le rfl rfl) rfl ?_
  refine WL.v (V.pickT rfl rfl) rfl ?_
  refine WL.v (V.assign rfl) rfl ?_
  refine WL.done ?_
  refine WS.ret rfl ?_
  exact ⟨by simp [retV, h2], rfl⟩

theorem space_Set_new (sb o E0 : Nat) (cells : List Value) (t : PM) (p : Page) (f : Map1) (hc : getN o 1 cells = some [t.val])
    (h1 : 0 ≤ p.page) (h2 : p.page < 8) (h3 : 1 ≤ p.space) (h4 : p.space ≤ 64) (h5 : 1 ≤ f.frame) (h6 : f.frame ≤ 64) (h7 : 1 ≤ f.rights) (h8 : f.rights ≤ 3) (hn : t.get p = none) :
    Spec Tryz.prog 273 [ptr sb o, kPg p, vM1 f] [blk sb E0 cells, t.ch kPg vM1]
      (fun v A => ∃ t' : PM, ∃ cells', (∃ b, t' = MP.put' t b p f) ∧ setN o [t'.val] cells = some cells' ∧ v = B true ∧ A = [blk sb E0 cells', t'.ch kPg vM1]) := by
  refine Spec.of Tryz.func273 rfl Tryz.call273 rfl (fun R => ?_)
  refine WS.seq ?_
  refine WS.region ?_
  refine WL.box rfl rfl ?_; intro r_
  refine WL.box rfl rfl ?_; intro r_
  refine WL.v (V.assign rfl) rfl ?_
  refine WL.done ?_
  refine WS.seq ?_
  refine WS.seq ?_
  refine WS.region ?_
  refine WL.v (V.fieldAddr rfl) rfl ?_
  refine WL.r (V.load1 1 rfl rfl rfl) rfl ?_
  refine WL.v (V.lt rfl rfl) rfl ?_
  refine WL.v (V.move rfl) rfl ?_
  (refine WL.gcaseD rfl rfl ?_ ?_) <;> intro h_ <;> try (exfalso; omega)
  refine WL.gy rfl rfl ?_
  refine WL.v (V.fieldAddr rfl) rfl ?_
  refine WL.gy rfl rfl ?_
  refine WL.r (V.load1 1 rfl rfl rfl) rfl ?_
  refine WL.gy rfl rfl ?_
  refine WL.v (V.ge rfl rfl) rfl ?_
  refine WL.v (V.pickF rfl rfl) rfl ?_
  refine WL.v (V.move rfl) rfl ?_
  (refine WL.gcaseD rfl rfl ?_ ?_) <;> intro h_ <;> try (exfalso; omega)
  refine WL.gy rfl rfl ?_
  refine WL.v (V.fieldAddr rfl) rfl ?_
  refine WL.gy rfl rfl ?_
  refine WL.r (V.load1 1 rfl rfl rfl) rfl ?_
  refine WL.gy rfl rfl ?_
  refine WL.callB (space_unit p.space h3 h4) [] rfl rfl rfl ?_
  rintro _ _ ⟨rfl, rfl⟩
  refine WL.gy rfl rfl ?_
  refine WL.v (V.not rfl) rfl ?_
  refine WL.v (V.pickF rfl rfl) rfl ?_
  refine WL.v (V.move rfl) rfl ?_
  refine WL.gy rfl rfl ?_
  refine WL.v (V.fieldAddr rfl) rfl ?_
  refine WL.gy rfl rfl ?_
  refine WL.r (V.load1 0 rfl rfl rfl) rfl ?_
  refine WL.gy rfl rfl ?_
  refine WL.callB (space_unit f.frame h5 h6) [] rfl rfl rfl ?_
  rintro _ _ ⟨rfl, rfl⟩
  refine WL.gy rfl rfl ?_
  refine WL.v (V.not rfl) rfl ?_
  refine WL.v (V.pickF rfl rfl) rfl ?_
  refine WL.v (V.move rfl) rfl ?_
  refine WL.gy rfl rfl ?_
  refine WL.v (V.fieldAddr rfl) rfl ?_
  refine WL.gy rfl rfl ?_
  refine WL.r (V.load1 0 rfl rfl rfl) rfl ?_
  refine WL.gy rfl rfl ?_
  refine WL.v (V.lt rfl rfl) rfl ?_
  refine WL.v (V.pickF rfl rfl) rfl ?_
  refine WL.v (V.move rfl) rfl ?_
  (refine WL.gcaseD rfl rfl ?_ ?_) <;> intro h_ <;> try (exfalso; omega)
  refine WL.gy rfl rfl ?_
  refine WL.v (V.fieldAddr rfl) rfl ?_
  refine WL.gy rfl rfl ?_
  refine WL.r (V.load1 0 rfl rfl rfl) rfl ?_
  refine WL.gy rfl rfl ?_
  refine WL.v (V.gt rfl rfl) rfl ?_
  refine WL.v (V.pickF rfl rfl) rfl ?_
  refine WL.done ?_
  (refine WS.condD rfl ?_ ?_) <;> intro h_ <;> try (exfalso; omega)
  refine WS.skip ?_
  refine WS.seq ?_
  refine WS.seq ?_
  refine WS.regionA Tryz.mixed rfl ?_
  refine WH.pick rfl ?_
  refine WHT.v (V.move rfl) rfl rfl rfl rfl ?_
  refine WH.pick rfl ?_
  refine WHT.v (V.nilCheck rfl) rfl rfl rfl rfl ?_
  refine WH.pick rfl ?_
  refine WHT.v (V.fieldAddr rfl) rfl rfl rfl rfl ?_
  refine WH.pick rfl ?_
  refine WHT.rh (V.load1 2 rfl rfl hc) rfl (by simp) rfl rfl rfl rfl ?_
  refine WH.pick rfl ?_
  refine WHT.rh (V.loadN 1 rfl rfl rfl) rfl (by simp) rfl rfl rfl rfl ?_
  refine WH.pick rfl ?_
  refine WHT.rh (V.lookup2M (kenc := kPg) (venc := vM1) (k := p) 3 rfl rfl rfl) rfl (by simp) rfl rfl rfl rfl ?_
  rw [hn]
  refine WH.pick rfl ?_
  refine WHT.v (V.move rfl) rfl rfl rfl rfl ?_
  refine WH.pick rfl ?_
  refine WHT.v (V.extractL rfl rfl) rfl rfl rfl rfl ?_
  refine WH.pick rfl ?_
  refine WHT.v (V.extractL rfl rfl) rfl rfl rfl rfl ?_
  refine WH.big rfl rfl rfl ?_; intro _ _
  refine WL.alloc rfl ?_; intro r_
  refine WL.nextH (ok := by assumption) (hns := by assumption) (by simp) ?_
  refine WH.bigSt rfl rfl rfl ?_; intro _ _
  refine WL.store 0 rfl rfl rfl rfl rfl rfl ?_
  refine WL.nextH (ok := by assumption) (hns := by assumption) (by simp) ?_
  refine WH.pick rfl ?_
  refine WHT.v (V.assign rfl) rfl rfl rfl rfl ?_
  refine WH.done ?_
  refine WS.seq ?_
  refine WS.region ?_
  refine WL.v (V.move rfl) rfl ?_
  refine WL.done ?_
  refine WS.condF rfl ?_
  refine WS.skip ?_
  refine WS.seq ?_
  refine WS.seq ?_
  refine WS.region ?_
  refine WL.v (V.move rfl) rfl ?_
  refine WL.v (V.nilCheck rfl) rfl ?_
  refine WL.v (V.fieldAddr rfl) rfl ?_
  refine WL.r (V.load1 3 rfl rfl hc) rfl ?_
  cases hr : t.r with
  | none =>
    have hval : t.val = .map none := by simp only [MP.val, hr]
    rw [hval]
    refine WL.v (V.eqNilM rfl rfl) rfl ?_
    refine WL.done ?_
    refine WS.condT rfl ?_
    refine WS.region ?_
    refine WL.v (V.move rfl) rfl ?_
    refine WL.makeMap kPg vM1 rfl ?_
    intro b
    refine WL.v (V.nilCheck rfl) rfl ?_
    refine WL.v (V.fieldAddr rfl) rfl ?_
    obtain ⟨cells', hs1, hs2⟩ := setN_ex cells o t.val (.map (some b)) hc
    refine WL.store 4 rfl rfl rfl rfl rfl hs1 ?_
    refine WL.done ?_
    refine WS.seq ?_
    refine WS.regionD [] Tryz.mixed rfl ?_
    refine WH.pick rfl ?_
    refine WHT.v (V.move rfl) rfl rfl rfl rfl ?_
    refine WH.pick rfl ?_
    refine WHT.v (V.nilCheck rfl) rfl rfl rfl rfl ?_
    refine WH.pick rfl ?_
    refine WHT.v (V.fieldAddr rfl) rfl rfl rfl rfl ?_
    refine WH.pick rfl ?_
    refine WHT.r (V.load1 0 rfl rfl hs2) rfl rfl rfl rfl rfl ?_
    refine WH.pick rfl ?_
    refine WHT.r (V.loadN 4 rfl rfl rfl) rfl rfl rfl rfl rfl ?_
    refine WH.pick rfl ?_
    refine WHT.r (V.loadN 3 rfl rfl rfl) rfl rfl rfl rfl rfl ?_
    refine WH.big rfl rfl rfl ?_; intro _ _
    refine WL.mapUpdate (kenc := kPg) (venc := vM1) (k := p) (v := f) 1 rfl rfl rfl rfl ?_
    refine WL.nextH (ok := by assumption) (hns := by assumption) (by simp) ?_
    refine WH.done ?_
    refine WS.seq ?_
    refine WS.region ?_
    refine WL.v (V.assign rfl) rfl ?_
    refine WL.done ?_
    refine WS.pick [1, 0] rfl ?_
    refine WS.ret rfl ?_
    exact ⟨MP.put' t b p f, cells', ⟨b, rfl⟩, by rw [← hs1]; simp only [MP.put', hr, MP.val], rfl, by simp only [MP.put', hr, MP.ch]⟩
  | some b =>
    have hval : t.val = .map (some b) := by simp only [MP.val, hr]
    rw [hval]
    refine WL.v (V.eqNilM rfl rfl) rfl ?_
    refine WL.done ?_
    refine WS.condF rfl ?_
    refine WS.skip ?_
    refine WS.seq ?_
    refine WS.regionD [] Tryz.mixed rfl ?_
    refine WH.pick rfl ?_
    refine WHT.v (V.move rfl) rfl rfl rfl rfl ?_
    refine WH.pick rfl ?_
    refine WHT.v (V.nilCheck rfl) rfl rfl rfl rfl ?_
    refine WH.pick rfl ?_
    refine WHT.v (V.fieldAddr rfl) rfl rfl rfl rfl ?_
    refine WH.pick rfl ?_
    refine WHT.r (V.load1 3 rfl rfl hc) rfl rfl rfl rfl rfl ?_
    refine WH.pick rfl ?_
    refine WHT.r (V.loadN 2 rfl rfl rfl) rfl rfl rfl rfl rfl ?_
    refine WH.pick rfl ?_
    refine WHT.r (V.loadN 1 rfl rfl rfl) rfl rfl rfl rfl rfl ?_
    refine WH.big rfl rfl rfl ?_; intro _ _
    refine WL.mapUpdateM (kenc := kPg) (venc := vM1) (k := p) (v := f) 4 hr rfl rfl rfl rfl ?_
    refine WL.nextH (ok := by assumption) (hns := by assumption) (by simp) ?_
    refine WH.done ?_
    refine WS.seq ?_
    refine WS.region ?_
    refine WL.v (V.assign rfl) rfl ?_
    refine WL.done ?_
    refine WS.pick [4, 0] rfl ?_
    refine WS.ret rfl ?_
    refine ⟨MP.put' t b p f, cells, ⟨b, rfl⟩, ?_, rfl, ?_⟩
    · rw [show (MP.put' t b p f).val = t.val from by simp only [MP.put', hr, MP.putAt, MP.val]]; exact setN_same _ _ _ hc
    · simp only [MP.put', hr, MP.putAt, MP.ch]
end Go.Proofs
