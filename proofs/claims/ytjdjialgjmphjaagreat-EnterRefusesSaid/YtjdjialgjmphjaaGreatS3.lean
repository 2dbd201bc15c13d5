/- Part of the proof: Sep8b SepA SepB SepC. -/
import Derived.Test.YtjdjialgjmphjaaGreatS2
set_option linter.all false
section
namespace Go.Sep
open Go

/-! ## ranging over a map that stays -/

abbrev iterC (it r ck : Nat) (seen : List Nat) : Chunk := [(it, .mapIter (some r) ck seen.toArray ck)]

section iter
variable {P : Program} {ops : Array Oper} {Q : Exit → Act → World → Prop} {n : Nat} {R : Fr} {rest : List Oper} {env : List (Nat × Value)} {pre : List Chunk}
  {T : TypeId} {pos : String} {aft : Array Edge} {d : Nat} {x y u : Operand} {α β : Type} [DecidableEq α] {kenc : α → Value} {venc : β → Value} {T1 KT VT : TypeId}

theorem WL.range (kp : Nat) {r : Nat} {m : GMap α β} [hu : TyU P T1 (.map KT VT)] (hx : ev env x = some (.map (some r))) (hc : nthC kp pre = some (mapC r kenc venc m)) (hd : Nat.blt d n = true)
    (k : ∀ it, WL P ops Q n R rest ((d, .pointer (some ⟨it, 0, none⟩)) :: env) (iterC it r m.ck [] :: pre)) :
    WL P ops Q n R (⟨some d, .range T1 x, T, pos, aft, none⟩ :: rest) env pre :=
  WL.turn (X := Nat) (fun it => .pointer (some ⟨it, 0, none⟩)) (fun it => iterC it r m.ck [] :: pre) hd (fun ρ w hs ho => by
    have hg := run_getMap (P := P) (ho.has.nth hc)
    refine ⟨w.heap.size, { w with heap := w.heap.push (.mapIter (some r) m.ck #[] m.ck) }, ?_, ho.new _⟩
    simp [execOp, hs x _ hx, Instr.range, underlying, hu.u, hg]) k

/-- over no map -/
theorem WL.rangeN [hu : TyU P T1 (.map KT VT)] (hx : ev env x = some (.map none)) (hd : Nat.blt d n = true)
    (k : ∀ it, WL P ops Q n R rest ((d, .pointer (some ⟨it, 0, none⟩)) :: env) ([(it, .mapIter none 0 #[] 0)] :: pre)) :
    WL P ops Q n R (⟨some d, .range T1 x, T, pos, aft, none⟩ :: rest) env pre :=
  WL.turn (X := Nat) (fun it => .pointer (some ⟨it, 0, none⟩)) (fun it => [(it, .mapIter none 0 #[] 0)] :: pre) hd (fun ρ w hs ho => by
    refine ⟨w.heap.size, { w with heap := w.heap.push (.mapIter none 0 #[] 0) }, ?_, ho.new _⟩
    simp [execOp, hs x _ hx, Instr.range, underlying, hu.u]) k

theorem V.nextN (kp : Nat) {it : Nat} (hx : ev env x = some (.pointer (some ⟨it, 0, none⟩))) (hc : nthC kp pre = some [(it, .mapIter none 0 #[] 0)]) :
    OpR P (.next x false) T env pre (.tuple #[.bool false]) := fun _ _ _ _ ρ w hs ho => by
  have hh := ho.nth hc
  simp [execOp, hs x _ hx, Instr.next, getObj, Sem.run, hh]

/-- those that have not come up -/
def left (m : GMap α β) (seen : List Nat) : List (Ent α β) := m.es.filter fun e => !decide (e.b ∈ seen)

theorem WL.next (ki km : Nat) {it r : Nat} {m : GMap α β} {seen : List Nat} {B : List Chunk} (hx : ev env x = some (.pointer (some ⟨it, 0, none⟩)))
    (hc : takeAt ki pre = some (iterC it r m.ck seen, B)) (hm : nthC km pre = some (mapC r kenc venc m)) (hd : Nat.blt d n = true)
    (k0 : left m seen = [] → WL P ops Q n R rest ((d, .tuple #[.bool false]) :: env) (iterC it r m.ck seen :: B))
    (k1 : ∀ e ∈ left m seen, WL P ops Q n R rest ((d, .tuple #[.bool true, kenc e.k, venc e.v]) :: env) (iterC it r m.ck (seen ++ [e.b]) :: B)) :
    WL P ops Q n R (⟨some d, .next x false, T, pos, aft, none⟩ :: rest) env pre := by
  refine WL.turn (X := {o : Option (Ent α β) // (match o with | none => left m seen = [] | some e => e ∈ left m seen)})
    (fun o => match o.1 with | none => .tuple #[.bool false] | some e => .tuple #[.bool true, kenc e.k, venc e.v])
    (fun o => match o.1 with | none => iterC it r m.ck seen :: B | some e => iterC it r m.ck (seen ++ [e.b]) :: B) hd (fun ρ w hs ho => ?_) (fun o => ?_)
  · have h1 := ho.at hc
    have hh := h1.head
    have hlt : it < w.heap.size := (Array.getElem?_eq_some_iff.1 hh).1
    have hg := run_getMap (P := P) (ho.has.nth hm)
    have hgi : (getObj it).run P w = .ok (.mapIter (some r) m.ck seen.toArray m.ck) w := by simp [getObj, Sem.run, hh]
    have hA : ¬ ((¬ seen = [] ∧ ¬ m.es = []) ∧ ∀ (i : Nat) (x : i < m.es.length), m.ck ≤ (encE kenc venc m.es[i]).born) := by
      rintro ⟨⟨_, hne⟩, hall⟩
      have hl : 0 < m.es.length := List.length_pos_iff.2 hne
      have h1 := hall 0 hl
      have h2 := m.lt m.es[0] (List.getElem_mem hl)
      simp only [encE] at h1
      omega
    have hO : List.filter (fun a => decide (a.born < m.ck) && !decide (a.born ∈ seen)) (List.map (encE kenc venc) m.es) = (left m seen).map (encE kenc venc) := by
      rw [List.filter_map, left]
      congr 1
      apply List.filter_congr
      intro e he
      have := m.lt e he
      simp [encE, this]
      exact decide_eq_decide.2 Iff.rfl
    have hN : List.filter (fun a => decide (m.ck ≤ a.born) && !decide (a.born ∈ seen)) (List.map (encE kenc venc) m.es) = [] := by
      rw [List.filter_eq_nil_iff]
      intro a ha
      obtain ⟨e, he, rfl⟩ := List.mem_map.1 ha
      have h2 := m.lt e he
      have h3 : decide (m.ck ≤ (encE kenc venc e).born) = false := by
        have : ¬ m.ck ≤ (encE kenc venc e).born := by simp only [encE]; omega
        simpa using this
      rw [h3]; simp
    have hI : (∀ (a : Ent α β), a ∈ m.es → (encE kenc venc a).born < m.ck → (encE kenc venc a).born ∈ seen) ↔ left m seen = [] := by
      rw [left, List.filter_eq_nil_iff]
      constructor
      · intro h e he
        have h1 : e.b ∈ seen := h e he (m.lt e he)
        simp [h1]
      · intro h e he _
        have h1 := h e he
        simp at h1
        exact h1
    simp only [execOp, hs x _ hx, Instr.next]
    simp [hgi, hg, hA, hO, hN, hI]
    have hsetm : ∀ (w : World) (o : Obj), w.heap[it]? = some (.mapIter (some r) m.ck seen.toArray m.ck) → (setObj it o).run P w = .ok () { w with heap := w.heap.setIfInBounds it o } := by
      intro w o h; simp [setObj, Sem.run, h]
    cases hl : left m seen with
    | nil =>
      refine ⟨none, rfl, w, ?_, h1⟩
      simp [Question.forced]
    | cons e es =>
      -- the number that is drawn
      have hlen : ∀ k, k < (e :: es).length → ∃ e', (e :: es)[k]? = some e' := fun k hk => ⟨_, List.getElem?_eq_getElem hk⟩
      have fin : ∀ (w₁ : World) (k : Nat), w₁.heap = w.heap → SameX w w₁ → k < (e :: es).length → ∃ a : Option (Ent α β), (match a with | none => (e :: es) = [] | some e' => e' ∈ (e :: es)) ∧ ∃ w',
          ((match ((if e :: es = [] then #[none] else #[] : Array (Option MapEntry)) ++ (List.map (some ∘ encE kenc venc) (e :: es)).toArray)[k]? with
            | some (some e) => (fun a => Value.tuple #[Value.bool true, e.key, e.val]) <$> setObj it (Obj.mapIter (some r) m.ck (seen ++ [e.born]).toArray m.ck)
            | some none => pure (Value.tuple #[Value.bool false])
            | none => stuck "Next: no such candidate" : Sem Value).run P w₁).andThen (fun a w' => Result.ok (Next.value a) w') =
            Result.ok (Next.value (match a with | none => .tuple #[.bool false] | some e => .tuple #[.bool true, kenc e.k, venc e.v])) w' ∧
          Own w' ((match a with | none => iterC it r m.ck seen :: B | some e => iterC it r m.ck (seen ++ [e.b]) :: B) ++ R) := by
        intro w₁ k hw₁ hx₁ hk
        obtain ⟨e', he'⟩ := hlen k hk
        have h1' : Own w₁ ([iterC it r m.ck seen] ++ (B ++ R)) := h1.heap hw₁ hx₁
        have hlt' : it < w₁.heap.size := by rw [hw₁]; exact hlt
        refine ⟨some e', List.mem_of_getElem? he', { w₁ with heap := w₁.heap.setIfInBounds it (.mapIter (some r) m.ck (seen ++ [e'.b]).toArray m.ck) }, ?_,
          Own.set h1' (heap_set w₁ it _ hlt').1 (heap_set w₁ it _ hlt').2 ⟨rfl, rfl, rfl⟩⟩
        have hc2 : ((if e :: es = [] then #[none] else #[] : Array (Option MapEntry)) ++ (List.map (some ∘ encE kenc venc) (e :: es)).toArray)[k]? = some (some (encE kenc venc e')) := by
          rw [if_neg (by simp)]
          simp only [Array.empty_append, List.getElem?_toArray, List.getElem?_map, he', Option.map_some, Function.comp]
        rw [hc2]
        simp [hsetm w₁ _ h1'.head, encE]
      have hN0 : (if e :: es = [] then (#[none] : Array (Option MapEntry)) else #[]).size + (e :: es).length = (e :: es).length := by rw [if_neg (by simp)]; simp
      rw [hN0]
      split
      · exact fin w 0 rfl SameX.rfl' (by simp)
      · refine fin w.drew _ rfl ⟨rfl, rfl, rfl⟩ ?_
        simp only [Question.cut]
        exact Nat.mod_lt _ (by simp)
  · obtain ⟨o, hoo⟩ := o
    cases o with
    | none => exact k0 hoo
    | some e => exact k1 e hoo

theorem V.entry (ki km : Nat) {it r : Nat} {m : GMap α β} {seen : List Nat} {e : Ent α β} (he : e ∈ m.es) (hx : ev env x = some (.pointer (some ⟨it, 0, none⟩)))
    (hc : nthC ki pre = some (iterC it r m.ck (seen ++ [e.b]))) (hm : nthC km pre = some (mapC r kenc venc m)) :
    OpR P (.entry x) T env pre (.tuple #[kenc e.k, venc e.v]) := fun _ _ _ _ ρ w hs ho => by
  have hgi : (getObj it).run P w = .ok (.mapIter (some r) m.ck (seen ++ [e.b]).toArray m.ck) w := by simp [getObj, Sem.run, ho.nth hc]
  have hg := run_getMap (P := P) (ho.nth hm)
  have hfind : (m.es.map (encE kenc venc)).find? (fun x => x.born == e.b) = some (encE kenc venc e) := by
    have key : ∀ (es : List (Ent α β)), (es.map (·.b)).Pairwise (· < ·) → e ∈ es → (es.map (encE kenc venc)).find? (fun x => x.born == e.b) = some (encE kenc venc e) := by
      intro es
      induction es with
      | nil => intro _ h; simp at h
      | cons e' es ih =>
        intro hp hm
        simp only [List.map_cons, List.pairwise_cons] at hp
        simp only [List.map_cons, List.find?_cons]
        simp at hm
        rcases hm with rfl | hm
        · simp [encE]
        · have := hp.1 e.b (List.mem_map_of_mem hm)
          have h1 : ((encE kenc venc e').born == e.b) = false := by
            have : ¬ (encE kenc venc e').born = e.b := by simp only [encE]; omega
            simpa using this
          rw [h1]
          exact ih hp.2 hm
    exact key m.es m.inc he
  simp [execOp, hs x _ hx, Instr.entry, hgi, hg, hfind]
  exact ⟨rfl, rfl⟩

end iter
end Go.Sep
end
section
namespace Go.Sep
open Go

theorem range0 (f : Nat → Value) : (Array.range 0).map f = #[] := by simp [Array.range]

theorem fits_i64 {z : Int} (h1 : -9223372036854775808 ≤ z) (h2 : z ≤ 9223372036854775807) : fits .i64 z := by
  unfold fits IntKind.wrap
  have e1 : (2 ^ IntKind.i64.bits : Int) = 18446744073709551616 := by decide +kernel
  have e2 : (2 ^ (IntKind.i64.bits - 1) : Int) = 9223372036854775808 := by decide +kernel
  have e3 : IntKind.i64.signed = true := rfl
  simp only [e1, e2, e3, Bool.true_and, ge_iff_le, decide_eq_true_eq]
  split <;> omega

theorem wrap_u {k : IntKind} {m : Nat} (hs : k.signed = false) (hm : (2 ^ k.bits : Int) = (m : Int)) (z : Int) : k.wrap z = z % (m : Int) := by
  unfold IntKind.wrap
  simp [hs, hm]

theorem wrap_u32 (z : Int) : IntKind.u32.wrap z = z % 4294967296 := wrap_u (m := 4294967296) rfl (by decide +kernel) z
theorem wrap_u8 (z : Int) : IntKind.u8.wrap z = z % 256 := wrap_u (m := 256) rfl (by decide +kernel) z
theorem wrap_u64 (z : Int) : IntKind.u64.wrap z = z % 18446744073709551616 := wrap_u (m := 18446744073709551616) rfl (by decide +kernel) z

section more
variable {P : Program} {ops : Array Oper} {fn : Func} {Rp : Ending → World → Prop} {stk : List K} {Q : Exit → Act → World → Prop} {n : Nat} {R : Fr} {rest : List Oper} {env : List (Nat × Value)} {pre : List Chunk}
  {T T1 T2 E : TypeId} {pos : String} {aft : Array Edge} {d : Nat} {x y u : Operand}

theorem V.pickT {v : Value} {c : Operand} (hc : ev env c = some (.bool true)) (hx : ev env x = some v) : OpV P (.pick c x y) T env v :=
  fun _ _ _ _ ρ w hs => by simp [execOp, hs c _ hc, asBool, hs x _ hx]

theorem V.pickF {v : Value} {c : Operand} (hc : ev env c = some (.bool false)) (hy : ev env y = some v) : OpV P (.pick c x y) T env v :=
  fun _ _ _ _ ρ w hs => by simp [execOp, hs c _ hc, asBool, hs y _ hy]

theorem V.pickB {b : Bool} {b1 b2 : Bool} {c : Operand} (hc : ev env c = some (.bool b)) (hx : ev env x = some (.bool b1)) (hy : ev env y = some (.bool b2)) : OpV P (.pick c x y) T env (.bool (bif b then b1 else b2)) :=
  fun _ _ _ _ ρ w hs => by cases b <;> simp [execOp, hs c _ hc, asBool, hs x _ hx, hs y _ hy]

theorem WL.gy {dst : Option Nat} {op : Op} {j t : Nat} {want : Bool} (hj : ((ops[j]?).bind (·.dst)) = some t) (hb : lk t env = some (.bool want))
    (k : WL P ops Q n R (⟨dst, op, T, pos, aft, none⟩ :: rest) env pre) : WL P ops Q n R (⟨dst, op, T, pos, aft, some (j, want)⟩ :: rest) env pre := by
  intro a w ha hw
  have hyl : yielded ops a.tmps j = some want := by
    have hg := ha.get t _ hb
    have : a.tmps[t]? = some (.bool want) := by
      simp only [Array.getD_eq_getD_getElem?] at hg
      cases ht : a.tmps[t]? with
      | none => rw [ht] at hg; simp [undef] at hg
      | some v => rw [ht] at hg; simp at hg; rw [hg]
    simp [yielded, hj, this]
  simp only [wpL, Region.wanted, hyl, beq_self_eq_true, if_true]
  have := k a w ha hw
  simp only [wpL, Region.wanted, if_true] at this
  exact this

theorem WL.gn {d : Nat} {op : Op} {j t : Nat} {want b : Bool} (hj : ((ops[j]?).bind (·.dst)) = some t) (hb : lk t env = some (.bool b)) (hne : want = !b) (hd : lk d env = none)
    (k : WL P ops Q n R rest env pre) : WL P ops Q n R (⟨some d, op, T, pos, aft, some (j, want)⟩ :: rest) env pre :=
  WL.guard hj hb (fun h => by subst h; cases b <;> simp at hne) (fun _ => k) (fun d' h => by simp at h; subst h; exact hd)

/-- a bool of the frame is one or the other -/
theorem WL.case {l : List Oper} {t : Nat} {b : Bool} (hb : lk t env = some (.bool b)) (h1 : b = true → WL P ops Q n R l ((t, .bool true) :: env) pre)
    (h0 : b = false → WL P ops Q n R l ((t, .bool false) :: env) pre) : WL P ops Q n R l env pre := by
  have sub : ∀ c, b = c → subEnv ((t, .bool c) :: env) env := by
    intro c hc t' v ht
    simp only [lk] at ht
    split at ht
    · rename_i he
      have : t = t' := Nat.eq_of_beq_eq_true he
      subst this; simp at ht; subst ht; rw [hb, hc]
    · exact ht
  intro a w ha hw
  cases hc : b with
  | true => exact h1 hc a w (ha.sub (sub _ hc)) hw
  | false => exact h0 hc a w (ha.sub (sub _ hc)) hw

/-- at a guard that is open -/
theorem WL.gcaseD {dst : Option Nat} {op : Op} {j t : Nat} {want : Bool} {p : Prop} [Decidable p] (hj : ((ops[j]?).bind (·.dst)) = some t) (hb : lk t env = some (.bool (decide p)))
    (h1 : p → WL P ops Q n R (⟨dst, op, T, pos, aft, some (j, want)⟩ :: rest) ((t, .bool true) :: env) pre)
    (h0 : ¬ p → WL P ops Q n R (⟨dst, op, T, pos, aft, some (j, want)⟩ :: rest) ((t, .bool false) :: env) pre) :
    WL P ops Q n R (⟨dst, op, T, pos, aft, some (j, want)⟩ :: rest) env pre :=
  WL.case hb (fun h => h1 (of_decide_eq_true h)) (fun h => h0 (of_decide_eq_false h))

theorem WL.gcaseN {dst : Option Nat} {op : Op} {j t : Nat} {want : Bool} {p : Prop} [Decidable p] (hj : ((ops[j]?).bind (·.dst)) = some t) (hb : lk t env = some (.bool (!decide p)))
    (h1 : ¬ p → WL P ops Q n R (⟨dst, op, T, pos, aft, some (j, want)⟩ :: rest) ((t, .bool true) :: env) pre)
    (h0 : p → WL P ops Q n R (⟨dst, op, T, pos, aft, some (j, want)⟩ :: rest) ((t, .bool false) :: env) pre) :
    WL P ops Q n R (⟨dst, op, T, pos, aft, some (j, want)⟩ :: rest) env pre :=
  WL.case hb (fun h => h1 (by simpa using h)) (fun h => h0 (by simpa using h))

theorem WL.gcaseB {dst : Option Nat} {op : Op} {j t : Nat} {want : Bool} {b : Bool} (hj : ((ops[j]?).bind (·.dst)) = some t) (hb : lk t env = some (.bool b))
    (h1 : b = true → WL P ops Q n R (⟨dst, op, T, pos, aft, some (j, want)⟩ :: rest) ((t, .bool true) :: env) pre)
    (h0 : b = false → WL P ops Q n R (⟨dst, op, T, pos, aft, some (j, want)⟩ :: rest) ((t, .bool false) :: env) pre) :
    WL P ops Q n R (⟨dst, op, T, pos, aft, some (j, want)⟩ :: rest) env pre :=
  WL.case hb h1 h0

theorem WS.condT {c : Operand} {a b : Code} (hc : ev env c = some (.bool true)) (k : WS P fn Rp n R (.code a :: stk) env pre) : WS P fn Rp n R (.code (.cond c a b) :: stk) env pre :=
  WS.cond hc (fun _ => k) (fun h => by simp at h)
theorem WS.condF {c : Operand} {a b : Code} (hc : ev env c = some (.bool false)) (k : WS P fn Rp n R (.code b :: stk) env pre) : WS P fn Rp n R (.code (.cond c a b) :: stk) env pre :=
  WS.cond hc (fun h => by simp at h) (fun _ => k)
theorem WS.condD {c : Operand} {a b : Code} {p : Prop} [Decidable p] (hc : ev env c = some (.bool (decide p))) (h1 : p → WS P fn Rp n R (.code a :: stk) env pre) (h0 : ¬ p → WS P fn Rp n R (.code b :: stk) env pre) :
    WS P fn Rp n R (.code (.cond c a b) :: stk) env pre :=
  WS.cond hc (fun h => h1 (of_decide_eq_true h)) (fun h => h0 (of_decide_eq_false h))
theorem WS.condN {c : Operand} {a b : Code} {p : Prop} [Decidable p] (hc : ev env c = some (.bool (!decide p))) (h1 : ¬ p → WS P fn Rp n R (.code a :: stk) env pre) (h0 : p → WS P fn Rp n R (.code b :: stk) env pre) :
    WS P fn Rp n R (.code (.cond c a b) :: stk) env pre :=
  WS.cond hc (fun h => h1 (by simpa using h)) (fun h => h0 (by simpa using h))

theorem V.eqNilS {E : TypeId} [hu : TyU P T1 (.slice E)] {a : Option Addr} {l c : Nat} (hx : ev env x = some (.slice a l c)) (hy : ev env y = some (.slice none 0 0)) :
    OpV P (.binOp .eql T1 x y T2) T env (.bool a.isNone) := fun _ _ _ _ ρ w hs => by
  rw [run_binOp, hs x _ hx, hs y _ hy]
  have h1 : eqGuard .eql T1 x y (.slice a l c) (.slice none 0 0) = pure () := by cases a <;> rfl
  have h2 : binOp .eql T1 (.slice a l c) (.slice none 0 0) = (do pure (.bool (← Op.equal T1 (.slice a l c) (.slice none 0 0)))) := by cases a <;> rfl
  rw [h1, h2]
  have h3 := run_eqNilS (P := P) T1 E a l c w
  simp [h3]

/-- []E{} -/
theorem WL.slice0 {sz : Nat} {g : Bool} [hu : TyU P T1 (.slice E)] [he : TyS P E sz g] (hd : Nat.blt d n = true)
    (k : ∀ r, WL P ops Q n R rest ((d, .slice (some ⟨r, 0, none⟩) 0 0) :: env) (blk r E [] :: pre)) :
    WL P ops Q n R (⟨some d, .buildSlice T1 0 #[], T, pos, aft, none⟩ :: rest) env pre :=
  WL.turn (X := Nat) (fun r => .slice (some ⟨r, 0, none⟩) 0 0) (fun r => blk r E [] :: pre) hd (fun ρ w hs' ho => by
    refine ⟨w.heap.size, { w with heap := w.heap.push (.cells #[] E) }, ?_, ho.new _⟩
    simp [execOp, Instr.buildSlice, underlying, hu.u, he.s, Instr.fill, run_newRow, range0]) k

/-- make([]E, m), one cell an element -/
theorem WL.makeSlice1 {bytes m : Nat} {z : Value} {k1 k2 : IntKind} [hu : TyU P T1 (.slice E)] [he : TyS P E 1 false] [hz : TyZ P E z] [hb : TyB P E bytes] (hx : ev env x = some (.int k1 (m : Int))) (hy : ev env y = some (.int k2 (m : Int)))
    (hz1 : oneC z = true) (hm : bytes * m ≤ 281474976710656) (hm2 : m < 9223372036854775808) (hd : Nat.blt d n = true)
    (k : ∀ r, WL P ops Q n R rest ((d, .slice (some ⟨r, 0, none⟩) m m) :: env) (blk r E (List.replicate m z) :: pre)) :
    WL P ops Q n R (⟨some d, .makeSlice T1 x y, T, pos, aft, none⟩ :: rest) env pre :=
  WL.turn (X := Nat) (fun r => .slice (some ⟨r, 0, none⟩) m m) (fun r => blk r E (List.replicate m z) :: pre) hd (fun ρ w hs' ho => by
    refine ⟨w.heap.size, { w with heap := w.heap.push (.cells (List.replicate m z).toArray E) }, ?_, ho.new _⟩
    obtain ⟨ti, hti, htb⟩ := hb.run w
    have hw : IntKind.i64.wrap (m : Int) = m := fits_i64 (by omega) (by omega)
    have hbig : ¬ ((281474976710656 : Int) < (bytes : Int) * (m : Int)) := by
      have h1 : ((bytes * m : Nat) : Int) = (bytes : Int) * (m : Int) := Int.natCast_mul _ _
      rw [← h1]
      omega
    have hneg : ¬ ((m : Int) < 0) := by omega
    have hzc : z.cells = #[z] := by cases z <;> simp [oneC] at hz1 <;> rfl
    subst htb
    simp [execOp, hs' x _ hx, hs' y _ hy, Instr.makeSlice, underlying, hu.u, asInt, asIntOf, hti, hw, hbig, hneg, he.s, hz.z, hzc]
    cases m with
    | zero => simp [run_newRow, range0]
    | succ m =>
      simp [run_newRow]
      have e : (Array.range (m + 1)).map (fun i => ([z] : List Value)[i % 1]?.getD default) = Array.replicate (m + 1) z := by
        apply Array.ext'
        simp [Nat.mod_one, List.eq_replicate_iff]
      rw [e]) k

/-- copy(dst, src) -/
theorem WL.copy {sz : Nat} {g : Bool} (kp : Nat) {b o dl c m : Nat} {l l' vs : List Value} {vy : Value} {Eb : Nat} {B : List Chunk} [hu : TyU P T1 (.slice E)] [hs : TyS P E sz g]
    (hx : ev env x = some (.slice (some ⟨b, o, none⟩) dl c)) (hy : ev env y = some vy) (hsrc : srcOf pre sz vy m vs) (hm : m ≤ dl) (ht : takeAt kp pre = some (blk b Eb l, B)) (hv : setN o vs l = some l') (ha : allOne vs = true) (hd : Nat.blt d n = true)
    (k : WL P ops Q n R rest ((d, .int .i64 m) :: env) (blk b Eb l' :: B)) :
    WL P ops Q n R (⟨some d, .call ⟨.builtin .copy, #[x, y], #[T1, T2]⟩, T, pos, aft, none⟩ :: rest) env pre :=
  WL.turn (X := Unit) (fun _ => .int .i64 m) (fun _ => blk b Eb l' :: B) hd (fun ρ w hs' ho => by
    obtain ⟨hl, hfc⟩ := run_src (P := P) ho.has hsrc
    have hat := ho.at ht
    obtain ⟨w', hr, hb', hf', hx'⟩ := run_storeCells (P := P) vs w l l' o 0 hat.head (by simpa using hv) ha
    refine ⟨(), w', ?_, Own.set hat hb' hf' hx'⟩
    have hmin : Nat.min m dl = m := Nat.min_eq_left hm
    simp [execOp, hs' x _ hx, hs' y _ hy, resolve, invoke, builtin, Builtin.copy_, underlying, hu.u, hs.s, hl, hmin, hfc, hr, goInt]) (fun _ => k)

theorem WL.copyNone {sz : Nat} {g : Bool} {m : Nat} {vs : List Value} {vy : Value} [hu : TyU P T1 (.slice E)] [hs : TyS P E sz g]
    (hx : ev env x = some (.slice none 0 0)) (hy : ev env y = some vy) (hsrc : srcOf pre sz vy m vs) (hd : Nat.blt d n = true)
    (k : WL P ops Q n R rest ((d, .int .i64 0) :: env) pre) :
    WL P ops Q n R (⟨some d, .call ⟨.builtin .copy, #[x, y], #[T1, T2]⟩, T, pos, aft, none⟩ :: rest) env pre :=
  WL.r (fun _ _ _ _ ρ w hs' hh => by
    obtain ⟨hl, hfc⟩ := run_src (P := P) hh hsrc
    have hmin : Nat.min m 0 = 0 := Nat.min_eq_right (by omega)
    have h0 : (Builtin.firstCells sz 0 vy).run P w = .ok #[] w := by
      rcases hsrc with ⟨rfl, _, _⟩ | ⟨b, o, c, kk, E', l, rfl, _, _⟩ <;> simp [Builtin.firstCells, loadCells, loadCellsFrom]
    simp [execOp, hs' x _ hx, hs' y _ hy, resolve, invoke, builtin, Builtin.copy_, underlying, hu.u, hs.s, hl, hmin, h0, goInt]) hd k

end more
end Go.Sep
end
section
namespace Go.Sep
open Go

/-- structs of two ints -/
class Eq2 (P : Program) (T : TypeId) : Prop where
  eq : ∀ (a b c d : Int) (w : World), (Op.equal T (.agg #[.int .i64 a, .int .i64 b]) (.agg #[.int .i64 c, .int .i64 d])).run P w = .ok (decide (a = c ∧ b = d)) w
  guard : P.eqGuardType P.depth T = false
  check : ∀ (a b : Int) (e : Bool) (w : World), (Instr.checkKey e 10000 T (.agg #[.int .i64 a, .int .i64 b])).run P w = .ok () w
  st : ∃ fs, P.underlying T = some (.struct fs)

section
variable {P : Program} {env : List (Nat × Value)} {T T1 T2 : TypeId} {x y : Operand}

theorem V.eq2 [h : Eq2 P T1] {a b c d : Int} (hx : ev env x = some (.agg #[.int .i64 a, .int .i64 b])) (hy : ev env y = some (.agg #[.int .i64 c, .int .i64 d])) :
    OpV P (.binOp .eql T1 x y T2) T env (.bool (decide (a = c ∧ b = d))) := fun _ _ _ _ ρ w hs => by
  rw [run_binOp, hs x _ hx, hs y _ hy]
  have h1 : (eqGuard .eql T1 x y (.agg #[.int .i64 a, .int .i64 b]) (.agg #[.int .i64 c, .int .i64 d])).run P w = .ok () w := by
    simp [eqGuard, h.guard]
  have h2 : binOp .eql T1 (.agg #[.int .i64 a, .int .i64 b]) (.agg #[.int .i64 c, .int .i64 d]) = (do pure (.bool (← Op.equal T1 (.agg #[.int .i64 a, .int .i64 b]) (.agg #[.int .i64 c, .int .i64 d])))) := rfl
  rw [Sem.run_bind, h1, Result.andThen_ok, h2]
  simp [h.eq]

theorem V.ne2 [h : Eq2 P T1] {a b c d : Int} (hx : ev env x = some (.agg #[.int .i64 a, .int .i64 b])) (hy : ev env y = some (.agg #[.int .i64 c, .int .i64 d])) :
    OpV P (.binOp .neq T1 x y T2) T env (.bool (!decide (a = c ∧ b = d))) := fun _ _ _ _ ρ w hs => by
  rw [run_binOp, hs x _ hx, hs y _ hy]
  have h1 : (eqGuard .neq T1 x y (.agg #[.int .i64 a, .int .i64 b]) (.agg #[.int .i64 c, .int .i64 d])).run P w = .ok () w := by
    simp [eqGuard, h.guard]
  have h2 : binOp .neq T1 (.agg #[.int .i64 a, .int .i64 b]) (.agg #[.int .i64 c, .int .i64 d]) = (do pure (.bool (!(← Op.equal T1 (.agg #[.int .i64 a, .int .i64 b]) (.agg #[.int .i64 c, .int .i64 d]))))) := rfl
  rw [Sem.run_bind, h1, Result.andThen_ok, h2]
  simp [h.eq]

/-- a key of two ints -/
theorem key2 {α : Type} [DecidableEq α] [h : Eq2 P T] (f g : α → Int) (inj : ∀ a b, f a = f b ∧ g a = g b ↔ a = b) :
    KeyEnc P T (fun a : α => Value.agg #[.int .i64 (f a), .int .i64 (g a)]) where
  check := fun k e w => h.check _ _ e w
  stays := fun k w => by
    have : Instr.sameBits (9999 + 1) (.agg #[.int .i64 (f k), .int .i64 (g k)]) (.agg #[.int .i64 (f k), .int .i64 (g k)]) = true := by
      simp [Instr.sameBits]
    have h2 : Instr.sameBits 10000 (.agg #[.int .i64 (f k), .int .i64 (g k)]) (.agg #[.int .i64 (f k), .int .i64 (g k)]) = true := this
    simp [Instr.keyThatStays, h2]
  find := fun venc k es w => find_asking (P := P) (fun a b kind hk => by
      obtain ⟨fs, hfs⟩ := h.st
      rw [hfs] at hk; simp at hk; subst hk; rfl) (h.st.elim fun fs hfs => ⟨_, hfs⟩)
    (fun a b w => by rw [h.eq]; congr 1; exact decide_eq_decide.2 (inj a b)) k es w

end
end Go.Sep
end
section
namespace Go.Sep
open Go

section
variable {P : Program} {fn : Func} {Rp : Ending → World → Prop} {l : List Oper} {Q : Exit → Act → World → Prop} {n : Nat} {R : Fr} {Hc : List Chunk} {rem rem' : Rem} {env : List (Nat × Value)} {pre : List Chunk} {stk : List K}
  {T : TypeId} {pos : String} {aft : Array Edge} {d i : Nat} {ops : Array Oper} {rest : List Oper}

/-- memory told in other chunks -/
theorem Own.permF {w : World} {pre pre' : List Chunk} {R : Fr} (hw : Own w (pre ++ R)) (hp : pre'.flatten.Perm pre.flatten) : Own w (pre' ++ R) := by
  have pf : (pre' ++ R.L).flatten.Perm (pre ++ R.L).flatten := by simp only [List.flatten_append]; exact hp.append_right _
  exact ⟨((pf.map Prod.fst).nodup_iff).2 hw.1, fun x hx => hw.2 x (pf.mem_iff.1 hx), hw.3⟩

theorem WL.perm {ls : List Oper} {pre' : List Chunk} (hp : pre'.flatten.Perm pre.flatten) (k : WL P ops Q n R ls env pre') : WL P ops Q n R ls env pre := fun a w ha hw =>
  k a w ha (hw.permF hp)

theorem WS.perm {pre' : List Chunk} (hp : pre'.flatten.Perm pre.flatten) (k : WS P fn Rp n R stk env pre') : WS P fn Rp n R stk env pre := fun a w ha hw =>
  k a w ha (hw.permF hp)

theorem WH.perm {pre' : List Chunk} (hp : pre'.flatten.Perm pre.flatten) (k : WH P l Q n R Hc rem env pre') : WH P l Q n R Hc rem env pre := fun ok hns a w ha hw =>
  k ok hns a w ha (hw.permF hp)

theorem WL.case' {ls : List Oper} (p : Prop) (h1 : p → WL P ops Q n R ls env pre) (h0 : ¬ p → WL P ops Q n R ls env pre) : WL P ops Q n R ls env pre := (Classical.em p).elim h1 h0

/-- the end of a region: what holds there -/
def midQ {X : Type} (n : Nat) (R : Fr) (envM : X → List (Nat × Value)) (preM : X → List Chunk) : Exit → Act → World → Prop
  | .normal, a, w => ∃ x, Env a n (envM x) ∧ Own w (preM x ++ R)
  | _, _, _ => False

theorem WS.regionM {X : Type} (envM : X → List (Nat × Value)) (preM : X → List Chunk) (Hc : List Chunk) {id : Nat} (hm : P.follows .mixedOrders = true) (hns : noSel l = true)
    (h : WH P l (midQ n R envM preM) n R Hc (number 0 l) env pre) (k : ∀ x, WS P fn Rp n R stk (envM x) (preM x)) :
    WS P fn Rp n R (.code (.region id l.toArray true) :: stk) env pre := by
  intro a w ha hw
  have h1 : (Code.region id l.toArray true).wp P (NP (midQ n R envM preM)) a w := by
    refine wp_region_any hm (wpAny_of_D (D := Dd l Hc) _ _ _ _ ?_)
    have := h (RemOK.number l) hns a { w with drawn := w.drawn + 1 } ha (hw.heap rfl ⟨rfl, rfl, rfl⟩)
    rw [number_all] at this
    have hl : (number 0 l).length = l.toArray.size := by
      have : ∀ (l : List Oper) (i : Nat), (number i l).length = l.length := by
        intro l; induction l with
        | nil => intro i; rfl
        | cons o l ih => intro i; simp [number, ih]
      simp [this]
    rw [hl] at this
    simpa using this
  refine wp_mono h1 (fun e a w h => ?_)
  cases e <;> first | exact h.elim | skip
  obtain ⟨x, hx, hw⟩ := h
  exact k x a w hx hw

theorem WH.doneM {X : Type} {envM : X → List (Nat × Value)} {preM : X → List Chunk} (x : X) (he : subEnv (envM x) env) (ks : List Nat) {B : List Chunk} (ht : takes ks pre = some (preM x, B)) :
    WH P l (midQ n R envM preM) n R Hc [] env pre := fun _ _ a w ha hw => ⟨by
    cases hr : Region.ready .any l.toArray (lst l.length []) with
    | nil => rfl
    | cons j r =>
      have : j ∈ Region.ready .any l.toArray (lst l.length []) := by rw [hr]; simp
      obtain ⟨o, hm, _⟩ := (ready_iff ⟨by simp, by simp⟩).1 this
      simp at hm, x, ha.sub he, by
        have h1 := Own.takes hw ht
        have h2 : Own w (B ++ (preM x ++ R)) := h1.swap
        exact Own.dropL B h2⟩

theorem subEnv_restr (ts : List Nat) {env' env'' : List (Nat × Value)} (h : restr env ts = some env') (e : env' = env'') : subEnv env'' env := e ▸ restr_sub env ts env' h

/-- several may come up: whichever it is -/
theorem WH.any (hex : noneRdy l.length rem rem = false) (hD : Hc = [])
    (k : ∀ i o rem', rem.Perm ((i, o) :: rem') → rdyE l.length rem o.after.toList = true → RemOK l rem' → noSel l = true → isV o.op = false ∧ WL P l.toArray (contG P l Q Hc Hc rem') n R [o] env pre) :
    WH P l Q n R Hc rem env pre := by
  intro ok hns a w ha hw
  have hne : ∃ i o, (i, o) ∈ rem ∧ rdyE l.length rem o.after.toList = true := by
    have key : ∀ r : Rem, noneRdy l.length rem r = false → ∃ i o, (i, o) ∈ r ∧ rdyE l.length rem o.after.toList = true := by
      intro r
      induction r with
      | nil => intro h; simp [noneRdy] at h
      | cons p r ih =>
        obtain ⟨j, oj⟩ := p
        intro h
        simp only [noneRdy] at h
        split at h
        · rename_i hr; exact ⟨j, oj, by simp, hr⟩
        · obtain ⟨i, o, h1, h2⟩ := ih h; exact ⟨i, o, List.mem_cons_of_mem _ h1, h2⟩
    exact key rem hex
  obtain ⟨i₀, o₀, hm₀, hr₀⟩ := hne
  have hlen : ∃ m, rem.length = m + 1 := ⟨rem.length - 1, by have := List.length_pos_of_mem hm₀; omega⟩
  obtain ⟨m, hm⟩ := hlen
  rw [hm]
  refine ⟨fun h => ?_, fun j hj => ?_⟩
  · have : i₀ ∈ Region.ready .any l.toArray (lst l.length rem) := (ready_iff ok).2 ⟨o₀, hm₀, hr₀⟩
    rw [h] at this; cases this
  · obtain ⟨oj, hmj, hrj⟩ := (ready_iff ok).1 hj
    obtain ⟨r1, r2, hsplit⟩ := List.append_of_mem hmj
    have hperm : rem.Perm ((j, oj) :: (r1 ++ r2)) := by rw [hsplit]; exact List.perm_middle
    have ok' : RemOK l ((j, oj) :: (r1 ++ r2)) := ok.perm hperm.symm
    obtain ⟨hbig, hwl⟩ := k j oj (r1 ++ r2) hperm hrj ok'.tail hns
    -- by the rule for one, on the same tale
    have hone := hwl a w ha hw
    have hat := ok'.at_ j oj (by simp)
    have hset : (lst l.length rem).setIfInBounds j true = lst l.length (r1 ++ r2) := lst_set fun j' => by
      rw [← inRem_perm hperm.symm j']; exact inRem_tail ok' j'
    have hlen' : m = (r1 ++ r2).length := by have := hperm.length_eq; simp at this ⊢; omega
    rw [hset, hlen']
    have hat' : l.toArray[j]? = some oj := by simpa using hat
    have h1 : wpOps P l.toArray (contG P l Q Hc Hc (r1 ++ r2)) [j] a w := wpOps_of_wpL [j] [oj] a w (by simp [hat]) hone
    rw [wpOps_cons] at h1
    have hD' : ∀ w', Has w' Hc → Dd l Hc j w w' := fun w' h => by simp only [Dd, hat, hbig]; exact fun _ => h
    unfold wpOp at h1 ⊢
    simp only [hat'] at h1 ⊢
    have step : ∀ a' w', contG P l Q Hc Hc (r1 ++ r2) .normal a' w' → Dd l Hc j w w' ∧ wpAnyD P .any l.toArray (NP Q) (Dd l Hc) (r1 ++ r2).length (lst l.length (r1 ++ r2)) a' w' := fun a' w' h => ⟨hD' w' h.1, h.2⟩
    split
    · rename_i hw; simp only [hw, if_true] at h1
      rcases h1 with h1 | ⟨h1, a₀, w₀, h'⟩
      · left
        unfold Oper.wp at h1 ⊢
        revert h1
        generalize (execOp a.eval oj).run P _ = r
        intro h
        unfold Oper.upon at h ⊢
        split at h
        · exact step _ _ h
        · exact step _ _ h
        · exact step _ _ h
        · refine h.mono ?_
          intro e w'' he
          cases e with
          | returned v => exact step _ _ he
          | panicked chain => exact he.elim
          | outgrown => exact he
        · exact h.mono fun v w'' he => step _ _ he
        · exact h.elim
        · exact h.elim
      · exact .inr ⟨h1, a₀, w₀, h'⟩
    · rename_i hw; simp only [hw] at h1
      exact step _ _ h1

end
end Go.Sep
end
