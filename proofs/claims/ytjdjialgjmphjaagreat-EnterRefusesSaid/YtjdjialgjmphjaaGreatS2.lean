/- Part of the proof: Sep5 Sep6 Sep7 Sep8. -/
import Derived.Test.YtjdjialgjmphjaaGreatS1
import Derived.OrdersHeld
set_option linter.all false
section
namespace Go.Sep
open Go

def resE (env : List (Nat × Value)) : List ResultVar → Option (List Value)
  | [] => some []
  | .tmp t :: rs => match lk t env with
    | some v => match resE env rs with
      | some vs => some (v :: vs)
      | none => none
    | none => none
  | .cell _ _ :: _ => none

def retV : List Value → Value
  | [v] => v
  | vs => .tuple vs.toArray

def RpOf (Qp : Value → List Chunk → Prop) (R : Fr) : Ending → World → Prop :=
  fun e w' => ∃ v A, Qp v A ∧ e = .returned v ∧ Own w' (A ++ R)

theorem run_resE {P : Program} {a : Act} {n : Nat} {env : List (Nat × Value)} (ha : Env a n env) (w : World) : ∀ (rs : List ResultVar) (vs : List Value), resE env rs = some vs →
    (rs.mapM (fun r => (match r with
      | .tmp t => pure (a.tmps.getD t undef)
      | .cell c t => do loadVar t (← asAddr (a.tmps.getD c undef)) : Sem Value))).run P w = .ok vs w
  | [], vs, h => by simp [resE] at h; subst h; simp
  | .tmp t :: rs, vs, h => by
    simp only [resE] at h
    split at h
    · rename_i v hv
      split at h
      · rename_i vs' hvs
        simp at h
        subst h
        have ih := run_resE (P := P) ha w rs vs' hvs
        simp only [List.mapM_cons, Sem.run_bind, Sem.run_pure, ha.get t v hv, Result.andThen_ok]
        rw [ih]
        simp
      · simp at h
    · simp at h
  | .cell _ _ :: _, _, h => by simp [resE] at h

theorem run_results {P : Program} {fn : Func} {a : Act} {n : Nat} {env : List (Nat × Value)} (ha : Env a n env) (w : World) {vs : List Value} (h : resE env fn.results.toList = some vs) :
    (results fn a.tmps).run P w = .ok (retV vs) w := by
  have := run_resE (P := P) ha w _ _ h
  unfold results
  rw [Array.mapM_eq_mapM_toList]
  simp only [Sem.run_bind, Sem.run_map]
  erw [this]
  simp only [Result.andThen_ok, Sem.run_pure]
  match vs with
  | [] => simp [retV]
  | [v] => simp [retV]
  | v :: u :: vs => simp [retV]

section
variable {P : Program} {fn : Func} {n : Nat} {R : Fr} {stk : List K} {env : List (Nat × Value)} {pre : List Chunk} {Qp : Value → List Chunk → Prop}

theorem WS.ret {vs : List Value} (hr : resE env fn.results.toList = some vs) (hq : Qp (retV vs) pre) : WS P fn (RpOf Qp R) n R (.code .ret :: stk) env pre :=
  fun a w ha hw => wp_ret (after_ret stk a w ⟨ha.defers, retV vs, run_results ha w hr, retV vs, pre, hq, rfl, hw⟩)

theorem WS.fin {vs : List Value} (hr : resE env fn.results.toList = some vs) (hq : Qp (retV vs) pre) : WS P fn (RpOf Qp R) n R [] env pre :=
  fun a w ha hw => ⟨ha.defers, retV vs, run_results ha w hr, retV vs, pre, hq, rfl, hw⟩

end

structure Spec (P : Program) (f : FuncId) (args : List Value) (A : List Chunk) (Qp : Value → List Chunk → Prop) : Prop where
  enter : ∀ as w, (callFunc f as).run P w = .ok (.enter f as) w
  calls : ∀ w R, Own w (A ++ R) → Calls P f args.toArray w (RpOf Qp R)

def initEnv : List Value → Nat → List (Nat × Value)
  | [], _ => []
  | v :: vs, i => (i, v) :: initEnv vs (i + 1)

theorem lk_initEnv : ∀ (vs : List Value) (i t : Nat) (v : Value), lk t (initEnv vs i) = some v → i ≤ t ∧ vs[t - i]? = some v
  | [], _, _, _, h => by simp [initEnv, lk] at h
  | u :: vs, i, t, v, h => by
    simp only [initEnv, lk] at h
    split at h
    · rename_i he
      have : i = t := Nat.eq_of_beq_eq_true he
      subst this
      simp at h; subst h; simp
    · have := lk_initEnv vs (i + 1) t v h
      refine ⟨by omega, ?_⟩
      rw [show t - i = (t - (i + 1)) + 1 from by omega]
      simp [this.2]

theorem Spec.of {P : Program} {f : FuncId} {fn : Func} {c : Code} {args : List Value} {A : List Chunk} {Qp : Value → List Chunk → Prop}
    (hf : P.funcs[f]? = some fn) (hb : fn.body = some c) (hen : ∀ as w, (callFunc f as).run P w = .ok (.enter f as) w) (hn : Nat.ble args.length fn.ntmps = true)
    (h : ∀ R, WS P fn (RpOf Qp R) fn.ntmps R [.code c] (initEnv args 0) A) : Spec P f args A Qp := by
  refine ⟨hen, fun w R hw => ?_⟩
  refine calls_of_wp hf hb (h R _ w ?_ hw)
  have hn' : args.length ≤ fn.ntmps := by simpa using hn
  refine ⟨rfl, by simp; omega, ?_⟩
  intro t v ht
  have := lk_initEnv args 0 t v ht
  simp only [Nat.sub_zero] at this
  have hl : t < args.length := (List.getElem?_eq_some_iff.1 this.2).1
  simp only [Array.getD_eq_getD_getElem?]
  rw [Array.getElem?_append_left (by simpa using hl)]
  simp [this.2]

theorem Spec.mono {P : Program} {f : FuncId} {args : List Value} {A : List Chunk} {Qp Qp' : Value → List Chunk → Prop} (h : Spec P f args A Qp)
    (hq : ∀ v A, Qp v A → Qp' v A) : Spec P f args A Qp' :=
  ⟨h.enter, fun w R hw => (h.calls w R hw).mono fun _ _ ⟨v, A', hv, he, ho⟩ => ⟨v, A', hq v A' hv, he, ho⟩⟩

/-- more memory beside, kept -/
theorem Spec.frame {P : Program} {f : FuncId} {args : List Value} {A : List Chunk} {Qp : Value → List Chunk → Prop} (h : Spec P f args A Qp) (B : List Chunk) :
    Spec P f args (A ++ B) (fun v A' => ∃ A₁, Qp v A₁ ∧ A' = A₁ ++ B) :=
  ⟨h.enter, fun w R hw => (h.calls w (B ++ R) (by rw [← Fr.assoc]; exact hw)).mono fun _ _ ⟨v, A', hv, he, ho⟩ =>
    ⟨v, A' ++ B, ⟨A', hv, rfl⟩, he, by rw [Fr.assoc]; exact ho⟩⟩

def evs (env : List (Nat × Value)) : List Operand → Option (List Value)
  | [] => some []
  | x :: xs => match ev env x with
    | some v => match evs env xs with
      | some vs => some (v :: vs)
      | none => none
    | none => none

theorem evs_map {ρ : Operand → Value} {env : List (Nat × Value)} (hs : Sees ρ env) : ∀ (xs : List Operand) (vs : List Value), evs env xs = some vs → xs.map ρ = vs
  | [], vs, h => by simp [evs] at h; subst h; rfl
  | x :: xs, vs, h => by
    simp only [evs] at h
    split at h
    · rename_i v hv
      split at h
      · rename_i vs' hvs
        simp at h; subst h
        simp [hs x v hv, evs_map hs xs vs' hvs]
      · simp at h
    · simp at h

section
variable {P : Program} {ops : Array Oper} {stk : List K} {fn : Func} {Rp : Ending → World → Prop} {Q : Exit → Act → World → Prop} {n : Nat} {R : Fr} {rest : List Oper} {env : List (Nat × Value)} {pre : List Chunk}
  {T : TypeId} {pos : String} {aft : Array Edge} {d : Nat} {x y : Operand}

theorem WL.enter {op : Op} {f : FuncId} {args : List Value} {A B : List Chunk} {Qp : Value → List Chunk → Prop} (hd : Nat.blt d n = true) (S : Spec P f args A Qp) (ks : List Nat)
    (ht : takes ks pre = some (A, B))
    (h : ∀ (ρ : Operand → Value) (w : World), Sees ρ env → (execOp ρ ⟨some d, op, T, pos, aft, none⟩).run P w = .ok (.enter f args.toArray) w)
    (k : ∀ v A', Qp v A' → WL P ops Q n R rest ((d, v) :: env) (A' ++ B)) :
    WL P ops Q n R (⟨some d, op, T, pos, aft, none⟩ :: rest) env pre := by
  intro a w ha hw
  simp only [wpL, Region.wanted, if_true]
  unfold Oper.wp
  rw [h a.eval w (fun x v hx => ha.ev hx)]
  simp only [Oper.upon_enter]
  refine (S.calls w (B ++ R) (Own.takes hw ht)).mono ?_
  rintro e w' ⟨v, A', hv, rfl, ho⟩
  exact k v A' hv _ _ (ha.put hd) (by rw [Fr.assoc]; exact ho)

theorem WL.call {f : FuncId} {xs : List Operand} {args : List Value} {ats : Array TypeId} {A B : List Chunk} {Qp : Value → List Chunk → Prop} (S : Spec P f args A Qp) (ks : List Nat)
    (hx : evs env xs = some args) (ht : takes ks pre = some (A, B)) (hd : Nat.blt d n = true)
    (k : ∀ v A', Qp v A' → WL P ops Q n R rest ((d, v) :: env) (A' ++ B)) :
    WL P ops Q n R (⟨some d, .call ⟨.value (.func f), xs.toArray, ats⟩, T, pos, aft, none⟩ :: rest) env pre :=
  WL.enter hd S ks ht (fun ρ w hs => by
    have h1 := hs (.func f) (.func (.func f) #[] #[]) rfl
    have h2 := evs_map hs xs args hx
    have h3 : xs.toArray.map ρ = args.toArray := by simp [h2]
    simp only [execOp, resolve, h1, Deferred.ofValue, h3, Sem.run_bind, Sem.run_pure, Result.andThen_ok, invoke]
    simp [S.enter]) k

/-- a function value -/
theorem WL.callv {z : Operand} {f : FuncId} {xs : List Operand} {vs args cap : List Value} {ats : Array TypeId} {A B : List Chunk} {Qp : Value → List Chunk → Prop} (S : Spec P f args A Qp) (ks : List Nat)
    (hz : ev env z = some (.func (.func f) #[] cap.toArray)) (hx : evs env xs = some vs) (he : vs ++ cap = args) (ht : takes ks pre = some (A, B)) (hd : Nat.blt d n = true)
    (k : ∀ v A', Qp v A' → WL P ops Q n R rest ((d, v) :: env) (A' ++ B)) :
    WL P ops Q n R (⟨some d, .call ⟨.value z, xs.toArray, ats⟩, T, pos, aft, none⟩ :: rest) env pre :=
  WL.enter hd S ks ht (fun ρ w hs => by
    have h1 := hs z _ hz
    have h2 := evs_map hs xs vs hx
    have h3 : xs.toArray.map ρ = vs.toArray := by simp [h2]
    subst he
    simp only [execOp, resolve, h1, Deferred.ofValue, h3, Sem.run_bind, Sem.run_pure, Result.andThen_ok, invoke]
    simp [S.enter]) k

/-! ### composites -/

/-- parts laid into cells: each at its place -/
def fillL (pl : List (Nat × Nat)) : List (Nat × Value) → List Value → Option (List Value)
  | [], l => some l
  | (i, v) :: ps, l => match pl[i]? with
    | some (off, size) => match Nat.beq (cellsV v).length size with
      | true => match setN off (cellsV v) l with
        | some l' => fillL pl ps l'
        | none => none
      | false => none
    | none => none

theorem foldl_set : ∀ (vs : List Value) (off j : Nat) (l l' : List Value), setN (off + j) vs l = some l' →
    (vs.zipIdx j).foldl (fun cs (x : Value × Nat) => cs.setIfInBounds (off + x.2) x.1) l.toArray = l'.toArray
  | [], off, j, l, l', h => by
    have := setN_nil _ _ _ h
    subst this; simp
  | v :: vs, off, j, l, l', h => by
    have h1 := setN_cons _ _ _ _ _ h
    simp only [List.zipIdx_cons, List.foldl_cons, List.setIfInBounds_toArray]
    exact foldl_set vs off (j + 1) (l.set (off + j) v) l' (by rw [show off + (j + 1) = off + j + 1 from by omega]; exact h1.2)

theorem setN_fits : ∀ (o : Nat) (vs l l' : List Value), setN o vs l = some l' → vs ≠ [] → o + vs.length ≤ l.length
  | o, [], l, l', h, hne => by simp at hne
  | o, [v], l, l', h, _ => by have := (setN_cons o v [] l l' h).1; simp; omega
  | o, v :: u :: vs, l, l', h, _ => by
    have h1 := setN_cons o v (u :: vs) l l' h
    have := setN_fits (o + 1) (u :: vs) _ _ h1.2 (by simp)
    simp at this ⊢; omega

theorem fill_of {pl : List (Nat × Nat)} {place : Nat → Option (Nat × Nat)} (hp : ∀ i, place i = pl[i]?) : ∀ (ps : List (Nat × Value)) (l l' : List Value), fillL pl ps l = some l' → (∀ p ∈ ps, cellsV p.2 ≠ []) →
    Instr.fill place l.toArray ps = some l'.toArray
  | [], l, l', h, _ => by simp [fillL] at h; subst h; simp [Instr.fill]
  | (i, v) :: ps, l, l', h, hne => by
    simp only [fillL] at h
    split at h
    · rename_i off size hpl
      split at h
      · rename_i hsz
        have hsz' : (cellsV v).length = size := Nat.eq_of_beq_eq_true hsz
        split at h
        · rename_i l₁ hs
          have hfit := setN_fits off (cellsV v) l l₁ hs (hne (i, v) (by simp))
          have ih := fill_of hp ps l₁ l' h (fun p hp => hne p (by simp [hp]))
          have hf := foldl_set (cellsV v) off 0 l l₁ (by simpa using hs)
          simp only [Instr.fill, hp, hpl, cells_cellsV]
          have hcond : ¬ ((cellsV v).toArray.size ≠ size ∨ off + (cellsV v).toArray.size > l.toArray.size) := by simp [hsz']; omega
          simp only [ne_eq, decide_not, Bool.or_eq_true, Bool.not_eq_eq_eq_not, Bool.not_true, decide_eq_false_iff_not, decide_eq_true_eq]
          rw [if_neg (by simpa using hcond)]
          rw [← ih]
          congr 1
          rw [← hf]
          rw [← Array.foldl_toList]
          simp
        · simp at h
      · simp at h
    · simp at h

/-- a struct's fields: where each stands, its size -/
class Flds (P : Program) (T : TypeId) (pl : outParam (List (Nat × Nat))) (z : outParam (List Value)) : Prop where
  run : ∀ (ps : Array (Nat × Value)) (w : World) (l : List Value), fillL pl ps.toList z = some l → (∀ p ∈ ps.toList, cellsV p.2 ≠ []) → (Instr.build T ps).run P w = .ok (.agg l.toArray) w

def evp (env : List (Nat × Value)) : List (Nat × Operand) → Option (List (Nat × Value))
  | [] => some []
  | (i, x) :: xs => match ev env x with
    | some v => match evp env xs with
      | some vs => some ((i, v) :: vs)
      | none => none
    | none => none

theorem evp_map {ρ : Operand → Value} {env : List (Nat × Value)} (hs : Sees ρ env) : ∀ (xs : List (Nat × Operand)) (vs : List (Nat × Value)), evp env xs = some vs → xs.map (fun (i, x) => (i, ρ x)) = vs
  | [], vs, h => by simp [evp] at h; subst h; rfl
  | (i, x) :: xs, vs, h => by
    simp only [evp] at h
    split at h
    · rename_i v hv
      split at h
      · rename_i vs' hvs
        simp at h; subst h
        simp [hs x v hv, evp_map hs xs vs' hvs]
      · simp at h
    · simp at h

def noEmpty : List (Nat × Value) → Bool
  | [] => true
  | (_, v) :: ps => match cellsV v with
    | [] => false
    | _ :: _ => noEmpty ps

theorem noEmpty_mem : ∀ (ps : List (Nat × Value)), noEmpty ps = true → ∀ p ∈ ps, cellsV p.2 ≠ []
  | [], _, p, hp => by simp at hp
  | (i, v) :: ps, h, p, hp => by
    simp only [noEmpty] at h
    split at h
    · simp at h
    · rename_i c cs hc
      simp at hp
      rcases hp with rfl | hp
      · simp [hc]
      · exact noEmpty_mem ps h p hp

theorem V.build {T1 : TypeId} {pl : List (Nat × Nat)} {z l : List Value} {ps : List (Nat × Operand)} {pv : List (Nat × Value)} [hf : Flds P T1 pl z] (hx : evp env ps = some pv)
    (hl : fillL pl pv z = some l) (hne : noEmpty pv = true)   : OpV P (.build T1 ps.toArray) T env (.agg l.toArray) := fun _ _ _ _ ρ w hs => by
    have h1 := evp_map hs ps pv hx
    have h2 : ps.toArray.map (fun (x : Nat × Operand) => (x.1, ρ x.2)) = pv.toArray := by simp [← h1]
    have := hf.run pv.toArray w l (by simpa using hl) (by simpa using noEmpty_mem pv hne)
    simp [execOp, h2, this]

/-- []E{x} -/
theorem WL.slice1 {T1 E : TypeId} {m : Nat} {g : Bool} [hu : TyU P T1 (.slice E)] [he : TyS P E m g] {zz : Value} [hz : TyZ P E zz] {v : Value} (hx : ev env x = some v)
    (hm : (cellsV v).length = m) (hz' : (cellsV zz).length = m) (hp : 0 < m) (hs : m ≤ 16777216) (hd : Nat.blt d n = true)
    (k : ∀ r, WL P ops Q n R rest ((d, .slice (some ⟨r, 0, none⟩) 1 1) :: env) (blk r E (cellsV v) :: pre)) :
    WL P ops Q n R (⟨some d, .buildSlice T1 1 #[(0, x)], T, pos, aft, none⟩ :: rest) env pre :=
  WL.turn (X := Nat) (fun r => .slice (some ⟨r, 0, none⟩) 1 1) (fun r => blk r E (cellsV v) :: pre) hd (fun ρ w hs' ho => by
    refine ⟨w.heap.size, { w with heap := w.heap.push (.cells (cellsV v).toArray E) }, ?_, ho.new _⟩
    have hsz : ∀ l : List Value, l.length = m → setN 0 (cellsV v) l = some (cellsV v) := by
      intro l hl
      have : ∀ (vs l : List Value), vs.length = l.length → setN 0 vs l = some vs := by
        intro vs
        induction vs with
        | nil => intro l hl; cases l with
          | nil => rfl
          | cons _ _ => simp at hl
        | cons v vs ih => intro l hl; cases l with
          | nil => simp at hl
          | cons u l => simp only [setN, ih l (by simpa using hl)]
      exact this _ _ (by rw [hm, hl])
    have hfill : ∀ cs : Array Value, cs.size = m → Instr.fill (fun i => some (i * m, m)) cs [(0, v)] = some (cellsV v).toArray := by
      intro cs hcs
      have h0 := hsz cs.toList (by simpa using hcs)
      have hf := foldl_set (cellsV v) 0 0 cs.toList (cellsV v) (by simpa using h0)
      simp only [Instr.fill, cells_cellsV, Nat.zero_mul]
      rw [if_neg (by simp [hm, hcs])]
      simp only [Nat.zero_add] at hf ⊢
      rw [← Array.foldl_toList] 
      simpa using hf
    have h1 : ¬ (1 * m > 2 ^ 24) := by omega
    have h2 : ¬ (1 * m = 0) := by omega
    have h3 : ¬ 16777216 < m := by omega
    have h4 : ¬ m = 0 := by omega
    simp only [execOp]
    simp [Instr.buildSlice, underlying, hu.u, he.s, hs' x _ hx, hz.z, cells_cellsV, h3, h4]
    rw [hfill _ (by simp)]
    simp [run_newRow]) k

end
end Go.Sep
end
section
namespace Go.Sep
open Go

/-! ## a region that draws its order -/

section any
variable {P : Program} {ops : Array Oper} {Q : Exit → Act → World → Prop} {md : Region.Mode}

/-- whatever comes up, and behind each one what is owed of it -/
def wpAnyD (P : Program) (md : Region.Mode) (ops : Array Oper) (Q : Exit → Act → World → Prop) (D : Nat → World → World → Prop) : Nat → Array Bool → Act → World → Prop
  | 0, listed, a, w => Region.ready md ops listed = [] ∧ Q .normal a w
  | fuel + 1, listed, a, w => (Region.ready md ops listed = [] → Q .normal a w) ∧
    ∀ i ∈ Region.ready md ops listed, wpOp P ops Q i (fun a' w' => D i w w' ∧ wpAnyD P md ops Q D fuel (listed.setIfInBounds i true) a' w') a w

theorem wpAny_of_D {D : Nat → World → World → Prop} : ∀ (fuel : Nat) (listed : Array Bool) (a : Act) (w : World), wpAnyD P md ops Q D fuel listed a w → wpAny P md ops Q fuel listed a w
  | 0, _, _, _, h => h
  | fuel + 1, _, _, _, h => ⟨h.1, fun i hi => wpOp_mono (fun a' w' h' => wpAny_of_D fuel _ a' w' h'.2) (h.2 i hi)⟩

/-- what comes to a value in each world that meets S, given that what comes up ahead of it keeps S -/
theorem wpAnyD_first {D : Nat → World → World → Prop} {S : World → Prop} {i : Nat} {oi : Oper} {v : Value} (hi : ops[i]? = some oi)
    (hsel : ∀ (j : Nat) (o : Oper) cs b, ops[j]? = some o → o.op ≠ .select cs b)
    (hQ : ∀ c a w, Q (.panic c) (a.put oi.dst v) w → Q (.panic c) a w) (hDi : ∀ w, S w → D i w w) (late pend : Nat → Prop)
    (hlate : ∀ j oj, ops[j]? = some oj → late j → ∃ e ∈ oj.after, Region.binds md e = true ∧ (e.on = i ∨ late e.on))
    (hD : ∀ j, j ≠ i → pend j → ¬ late j → ∀ w w', S w → D j w w' → S w') :
    ∀ (fuel : Nat) (listed : Array Bool) (a : Act) (w : World),
      (∀ j oj, ops[j]? = some oj → j ≠ i → listed.getD j true = false → (∀ e ∈ oj.after, Region.binds md e = true → e.on ≠ i) → oi.apart ops oj = true) →
      (∀ j, late j → listed.getD j false = false) → (∀ j, listed.getD j true = false → pend j) →
      i ∈ Region.ready md ops listed → YieldsIf P ops S oi v a → S w →
      wpAnyD P md ops Q D fuel (listed.setIfInBounds i true) (a.put oi.dst v) w → wpAnyD P md ops Q D (fuel + 1) listed a w := by
  intro fuel
  induction fuel with
  | zero =>
    intro listed a w _ _ _ hr hy hS H
    refine ⟨fun h => (by rw [h] at hr; cases hr), fun j hj => ?_⟩
    by_cases hji : j = i
    · subst hji; exact hy.wpOp hi hS ⟨hDi w hS, H⟩
    · have := ready_mono hj hji
      rw [H.1] at this
      cases this
  | succ fuel ih =>
    intro listed a w hfree hlt hpd hr hy hS H
    refine ⟨fun h => (by rw [h] at hr; cases hr), fun j hj => ?_⟩
    by_cases hji : j = i
    · subst hji; exact hy.wpOp hi hS ⟨hDi w hS, H⟩
    · have h1 := H.2 j (ready_mono hj hji)
      obtain ⟨hjun, oj, hoj, hall⟩ := mem_ready.1 hj
      have hiun : listed.getD i false = false := by
        have h0 := (mem_ready.1 hr).1
        rcases Nat.lt_or_ge i listed.size with h' | h'
        · simp [h'] at h0 ⊢; exact h0
        · simp [Array.getElem?_eq_none h']
      have hnot : ∀ e ∈ oj.after, Region.binds md e = true → e.on ≠ i := fun e he hb heq => by
        have h1 := hall e he hb
        rw [heq, hiun] at h1; cases h1
      have hnl : ¬ late j := by
        intro hl
        obtain ⟨e, he, hb, h | h⟩ := hlate j oj hoj hl
        · exact hnot e he hb h
        · have := hall e he hb
          rw [hlt _ h] at this; cases this
      have h2 := wpOp_putIf hoj (hfree j oj hoj hji hjun hnot) (fun cs b => hsel i oi cs b hi) (fun cs b => hsel j oj cs b hoj) hQ hy h1
      have hfree' : ∀ k ok, ops[k]? = some ok → k ≠ i → (listed.setIfInBounds j true).getD k true = false →
          (∀ e ∈ ok.after, Region.binds md e = true → e.on ≠ i) → oi.apart ops ok = true := fun k ok hk hki hun hno => by
        refine hfree k ok hk hki ?_ hno
        by_cases hjk : j = k
        · subst hjk; exact hjun
        · rw [getD_set_ne true hjk] at hun; exact hun
      have hlt' : ∀ k, late k → (listed.setIfInBounds j true).getD k false = false := fun k hk => by
        have hne : j ≠ k := fun e => hnl (e ▸ hk)
        rw [getD_set_ne false hne]; exact hlt k hk
      refine wpOp_mono (fun a' w' h3 => ?_) h2
      have hS' : S w' := hD j hji (hpd j hjun) hnl w w' hS h3.2.1
      have hpd' : ∀ k, (listed.setIfInBounds j true).getD k true = false → pend k := fun k hk => hpd k (by
        by_cases hjk : j = k
        · subst hjk; exact hjun
        · rw [getD_set_ne true hjk] at hk; exact hk)
      refine ⟨h3.2.1, ih (listed.setIfInBounds j true) a' w' hfree' hlt' hpd' (ready_mono hr (Ne.symm hji)) h3.1 hS' ?_⟩
      rw [Array.setIfInBounds_comm _ _ hji]
      exact h3.2.2
end any

/-! ### what is left of a region -/

abbrev Rem := List (Nat × Oper)

def inRem (j : Nat) : Rem → Bool
  | [] => false
  | (i, _) :: r => match Nat.beq i j with
    | true => true
    | false => inRem j r

def strong (e : Edge) : Bool := match e.ground with
  | .textOnly _ => false
  | .gcOnly _ => false
  | _ => true

/-- nothing that it waits for is left -/
def rdyE (k : Nat) (rem : Rem) : List Edge → Bool
  | [] => true
  | e :: es => match strong e with
    | false => rdyE k rem es
    | true => match Nat.blt e.on k with
      | false => false
      | true => match inRem e.on rem with
        | true => false
        | false => rdyE k rem es

def waitsE (f : Nat → Bool) : List Edge → Bool
  | [] => false
  | e :: es => match strong e with
    | false => waitsE f es
    | true => match f e.on with
      | true => true
      | false => waitsE f es

def operandL : Op → List Operand
  | .alloc _ | .ready _ | .waits _ => []
  | .move x | .assign x | .box _ x | .load _ x | .nilCheck x | .unOp _ _ x | .convert _ _ x | .sliceToArrayPointer _ x | .makeInterface _ x
  | .makeChan _ x | .fieldAddr _ x _ | .field _ x _ | .range _ x | .next x _ | .entry x | .typeAssert x _ _ _ | .extract x _ | .panic x | .recv _ x _ => [x]
  | .pick c a b => [c, a, b]
  | .build _ ps | .buildSlice _ _ ps => ps.toList.map (·.2)
  | .store _ a v | .binOp _ _ a v _ | .makeSlice _ a v | .indexAddr _ a v | .index _ a v | .lookup _ a v _ | .mapEntry _ a v | .send a v => [a, v]
  | .makeFunc _ first captured => first.toList ++ captured.toList
  | .makeMap _ r => r.toList
  | .slice _ x l h m => x :: (l.toList ++ (h.toList ++ m.toList))
  | .mapUpdate _ m k v | .entryStore _ m k v | .insert _ m k v => [m, k, v]
  | .call c | .go c | .defer c => (match c.callee with | .value f => [f] | .invoke r _ => [r] | .builtin _ => []) ++ c.args.toList
  | .select cs _ => cs.toList.flatMap fun c => c.chan :: c.send.toList

theorem operandL_eq (op : Op) : op.operands.toList = operandL op := by
  cases op <;> simp [Op.operands, operandL, Call.operands]
  all_goals (first | rfl | (rename_i c; cases c.callee <;> simp) | skip)

/-- does it look at the temporary? -/
def looksL (t : Nat) : List Operand → Bool
  | [] => false
  | .tmp t' :: xs => match Nat.beq t' t with
    | true => true
    | false => looksL t xs
  | _ :: xs => looksL t xs

def guardT (l : List Oper) (o : Oper) : Option Nat := match o.guard with
  | none => none
  | some (j, _) => match l[j]? with
    | some o' => o'.dst
    | none => none

def looks (l : List Oper) (t : Nat) (o : Oper) : Bool := match looksL t (operandL o.op) with
  | true => true
  | false => match guardT l o with
    | none => false
    | some t' => Nat.beq t' t

def apartL (l : List Oper) (x y : Oper) : Bool :=
  match (match x.dst with
    | none => true
    | some d => match looks l d y with
      | true => false
      | false => match y.dst with
        | none => true
        | some d' => match Nat.beq d' d with
          | true => false
          | false => true) with
  | false => false
  | true => match y.dst with
    | none => true
    | some d' => match looks l d' x with
      | true => false
      | false => true

theorem looksL_spec (t : Nat) : ∀ (xs : List Operand), looksL t xs = false → Operand.tmp t ∉ xs
  | [], _, h => by simp at h
  | x :: xs, h, hm => by
    cases x with
    | tmp t' =>
      simp only [looksL] at h
      split at h
      · simp at h
      · rename_i he
        simp at hm
        rcases hm with rfl | hm
        · simp at he
        · exact looksL_spec t xs h hm
    | const v => simp only [looksL] at h; simp at hm; exact looksL_spec t xs h hm
    | global v => simp only [looksL] at h; simp at hm; exact looksL_spec t xs h hm
    | func v => simp only [looksL] at h; simp at hm; exact looksL_spec t xs h hm

theorem looks_spec {l : List Oper} {t : Nat} {o : Oper} (h : looks l t o = false) : t ∉ o.looksAt l.toArray := by
  simp only [looks] at h
  split at h
  · simp at h
  · rename_i h1
    unfold Oper.looksAt
    simp only [List.mem_append, not_or]
    constructor
    · rw [operandL_eq]
      intro hm
      obtain ⟨x, hx, he⟩ := List.mem_filterMap.1 hm
      have := looksL_spec t _ h1
      cases x <;> simp at he
      subst he
      exact this hx
    · split
      · rename_i g w hg
        simp only [guardT, hg] at h
        simp only [List.getElem?_toArray]
        cases hl : l[g]? with
        | none => simp
        | some o' =>
          simp only [hl] at h
          simp only [Option.bind_some]
          cases hd : o'.dst with
          | none => simp
          | some d =>
            simp only [hd] at h
            simp
            intro e; subst e; simp at h
      · simp

theorem apartL_spec {l : List Oper} {x y : Oper} (h : apartL l x y = true) : x.apart l.toArray y = true := by
  simp only [apartL] at h
  split at h
  · simp at h
  · rename_i h1
    simp only [Oper.apart, Bool.and_eq_true]
    constructor
    · cases hx : x.dst with
      | none => rfl
      | some d =>
        simp only [hx] at h1
        split at h1
        · simp at h1
        · rename_i h2
          have h3 := looks_spec h2
          cases hy : y.dst with
          | none => simpa using h3
          | some d' =>
            simp only [hy] at h1
            split at h1
            · simp at h1
            · rename_i h4
              have : d' ≠ d := fun e => by subst e; simp at h4
              simp [h3, this]
    · cases hy : y.dst with
      | none => rfl
      | some d' =>
        simp only [hy] at h
        split at h
        · simp at h
        · rename_i h2
          simpa using looks_spec h2

/-- one that only comes to a value -/
def isV : Op → Bool
  | .move _ | .assign _ | .pick _ _ _ | .build _ _ | .load _ _ | .nilCheck _ | .binOp _ _ _ _ _ | .unOp _ _ _ | .convert _ _ _ | .makeFunc _ _ _
  | .slice _ _ _ _ _ | .fieldAddr _ _ _ | .field _ _ _ | .indexAddr _ _ _ | .index _ _ _ | .extract _ _ | .lookup _ _ _ _ => true
  | .call c => match c.callee with
    | .builtin .len | .builtin .min | .builtin .max => true
    | _ => false
  | _ => false

/-- those that are left behind number i: all that wait for it, one through another -/
def orIn (i : Nat) (acc : List Nat) (k : Nat) : Bool := match Nat.beq k i with
  | true => true
  | false => acc.any (Nat.beq k)

def lateB (i : Nat) (acc : List Nat) (o : Oper) : Bool := waitsE (orIn i acc) o.after.toList

def lates (i : Nat) : Rem → List Nat → List Nat
  | [], acc => acc
  | (j, o) :: r, acc => match lateB i acc o with
    | true => lates i r (j :: acc)
    | false => lates i r acc

def memN (j : Nat) : List Nat → Bool
  | [] => false
  | i :: l => match Nat.beq i j with
    | true => true
    | false => memN j l

/-- the others are apart from it or wait for it -/
def frees (l : List Oper) (i : Nat) (o : Oper) : Rem → Bool
  | [] => true
  | (_, o') :: r => match waitsE (fun k => Nat.beq k i) o'.after.toList with
    | true => frees l i o r
    | false => match apartL l o o' with
      | true => frees l i o r
      | false => false

/-- those that turn memory all wait for it -/
def calm (lt : List Nat) : Rem → Bool
  | [] => true
  | (j, o) :: r => match isV o.op with
    | true => calm lt r
    | false => match memN j lt with
      | true => calm lt r
      | false => false

/-- the first that may come up and only comes to a value -/
def pickV (k : Nat) (all : Rem) : Rem → Option ((Nat × Oper) × Rem)
  | [] => none
  | (i, o) :: r => match (match isV o.op with
      | false => false
      | true => rdyE k all o.after.toList) with
    | true => some ((i, o), r)
    | false => match pickV k all r with
      | none => none
      | some (x, r') => some (x, (i, o) :: r')

/-- the one that may come up -/
def pickB (k : Nat) (all : Rem) : Rem → Option ((Nat × Oper) × Rem)
  | [] => none
  | (i, o) :: r => match rdyE k all o.after.toList with
    | true => some ((i, o), r)
    | false => match pickB k all r with
      | none => none
      | some (x, r') => some (x, (i, o) :: r')

def noneRdy (k : Nat) (all : Rem) : Rem → Bool
  | [] => true
  | (_, o) :: r => match rdyE k all o.after.toList with
    | true => false
    | false => noneRdy k all r

def number : Nat → List Oper → Rem
  | _, [] => []
  | i, o :: l => (i, o) :: number (i + 1) l

def noSel : List Oper → Bool
  | [] => true
  | o :: l => match o.op with
    | .select _ _ => false
    | _ => noSel l

structure RemOK (l : List Oper) (rem : Rem) : Prop where
  at_ : ∀ i o, (i, o) ∈ rem → l[i]? = some o
  nodup : (rem.map Prod.fst).Nodup

theorem inRem_iff {j : Nat} : ∀ {rem : Rem}, inRem j rem = true ↔ ∃ o, (j, o) ∈ rem
  | [] => by simp [inRem]
  | (i, o) :: r => by
    simp only [inRem]
    split
    · rename_i he
      have : i = j := Nat.eq_of_beq_eq_true he
      subst this
      simp
    · rename_i he
      have hne : j ≠ i := fun e => by subst e; simp at he
      rw [inRem_iff]
      constructor
      · rintro ⟨o', h⟩; exact ⟨o', List.mem_cons_of_mem _ h⟩
      · rintro ⟨o', h⟩
        simp at h
        rcases h with ⟨e, _⟩ | h
        · exact absurd e hne
        · exact ⟨o', h⟩

def lst (k : Nat) (rem : Rem) : Array Bool := ((List.range k).map fun j => !inRem j rem).toArray

theorem lst_get (k j : Nat) (rem : Rem) (h : j < k) (d : Bool) : (lst k rem).getD j d = !inRem j rem := by
  simp [lst, h]

theorem lst_get_out (k j : Nat) (rem : Rem) (h : k ≤ j) (d : Bool) : (lst k rem).getD j d = d := by
  simp [lst, h]

theorem lst_set {k i : Nat} {rem rem' : Rem} (h : ∀ j, inRem j rem' = (inRem j rem && !Nat.beq i j)) : (lst k rem).setIfInBounds i true = lst k rem' := by
  unfold lst
  rw [List.setIfInBounds_toArray]
  congr 1
  apply List.ext_getElem
  · simp
  · intro j h1 h2
    rw [List.getElem_set]
    simp only [List.getElem_map, List.getElem_range]
    rw [h]
    split
    · rename_i e; subst e; simp
    · rename_i e
      have : Nat.beq i j = false := by
        cases hb : Nat.beq i j with
        | true => exact absurd (Nat.eq_of_beq_eq_true hb) e
        | false => rfl
      rw [this]; simp

theorem binds_any (e : Edge) : Region.binds .any e = strong e := by
  unfold Region.binds strong
  cases e.ground <;> rfl

theorem rdyE_spec {k : Nat} {rem : Rem} : ∀ {es : List Edge}, rdyE k rem es = true ↔ ∀ e ∈ es, strong e = true → e.on < k ∧ inRem e.on rem = false
  | [] => by simp [rdyE]
  | e :: es => by
    simp only [rdyE, List.mem_cons, forall_eq_or_imp]
    split
    · rename_i h; rw [rdyE_spec]; simp [h]
    · rename_i h
      split
      · rename_i h'
        have : ¬ e.on < k := by
          intro hlt
          have : Nat.blt e.on k = true := by simpa using hlt
          rw [this] at h'; simp at h'
        simp [h, this]
      · rename_i h'
        have hlt : e.on < k := by simpa using h'
        split
        · rename_i h''; simp [h, h'']
        · rename_i h''; rw [rdyE_spec]; simp [h, h'', hlt]

theorem ready_iff {l : List Oper} {rem : Rem} (ok : RemOK l rem) {i : Nat} :
    i ∈ Region.ready .any l.toArray (lst l.length rem) ↔ ∃ o, (i, o) ∈ rem ∧ rdyE l.length rem o.after.toList = true := by
  rw [mem_ready]
  constructor
  · rintro ⟨h0, o, ho, hall⟩
    have hlt : i < l.length := by
      have := (Array.getElem?_eq_some_iff.1 ho).1; simpa using this
    rw [lst_get _ _ _ hlt] at h0
    have : inRem i rem = true := by simpa using h0
    obtain ⟨o', ho'⟩ := inRem_iff.1 this
    have he : o' = o := by
      have h1 := ok.at_ i o' ho'
      have h2 : l[i]? = some o := by simpa using ho
      rw [h1] at h2; simpa using h2
    subst he
    refine ⟨o', ho', rdyE_spec.2 fun e he hs => ?_⟩
    have := hall e (by simpa using he) (by rw [binds_any]; exact hs)
    rcases Nat.lt_or_ge e.on l.length with hl | hl
    · rw [lst_get _ _ _ hl] at this; exact ⟨hl, by simpa using this⟩
    · rw [lst_get_out _ _ _ hl] at this; cases this
  · rintro ⟨o, ho, hr⟩
    have hl := ok.at_ i o ho
    have hlt : i < l.length := (List.getElem?_eq_some_iff.1 hl).1
    refine ⟨?_, o, by simpa using hl, fun e he hb => ?_⟩
    · rw [lst_get _ _ _ hlt, inRem_iff.2 ⟨o, ho⟩]; rfl
    · have := rdyE_spec.1 hr e (by simpa using he) (by rw [← binds_any]; exact hb)
      rw [lst_get _ _ _ this.1, this.2]; rfl

theorem waitsE_spec {f : Nat → Bool} : ∀ {es : List Edge}, waitsE f es = true ↔ ∃ e ∈ es, strong e = true ∧ f e.on = true
  | [] => by simp [waitsE]
  | e :: es => by
    simp only [waitsE]
    split
    · rename_i h; rw [waitsE_spec]; simp [h]
    · rename_i h
      split
      · rename_i h'; simp [h, h']
      · rename_i h'; rw [waitsE_spec]; simp [h, h']

theorem frees_spec {l : List Oper} {i : Nat} {o : Oper} : ∀ {r : Rem}, frees l i o r = true → ∀ j oj, (j, oj) ∈ r → (∀ e ∈ oj.after, Region.binds .any e = true → e.on ≠ i) → o.apart l.toArray oj = true
  | [], _, _, _, h, _ => by simp at h
  | (j', o') :: r, h, j, oj, hm, hno => by
    simp only [frees] at h
    simp only [List.mem_cons, Prod.mk.injEq] at hm
    split at h
    · rename_i hw
      rcases hm with ⟨rfl, rfl⟩ | hm
      · obtain ⟨e, he, hs, hf⟩ := waitsE_spec.1 hw
        exact absurd (Nat.eq_of_beq_eq_true hf) (hno e (by simpa using he) (by rw [binds_any]; exact hs))
      · exact frees_spec h j oj hm hno
    · split at h
      · rename_i ha
        rcases hm with ⟨rfl, rfl⟩ | hm
        · exact apartL_spec ha
        · exact frees_spec h j oj hm hno
      · simp at h

theorem reverseAux_mem {α : Type} {a : α} {xs ys : List α} : a ∈ xs.reverseAux ys ↔ a ∈ xs ∨ a ∈ ys := by
  rw [List.reverseAux_eq]; simp

theorem pickV_spec {k : Nat} {all : Rem} : ∀ {r : Rem} {i : Nat} {o : Oper} {rem' : Rem}, pickV k all r = some ((i, o), rem') →
    rdyE k all o.after.toList = true ∧ r.Perm ((i, o) :: rem')
  | [], _, _, _, h => by simp [pickV] at h
  | (i', o') :: r, i, o, rem', h => by
    simp only [pickV] at h
    split at h
    · rename_i h1
      split at h1
      · simp at h1
      · simp at h
        obtain ⟨⟨rfl, rfl⟩, rfl⟩ := h
        exact ⟨h1, .refl _⟩
    · split at h
      · simp at h
      · rename_i x r' hr
        simp at h
        obtain ⟨rfl, rfl⟩ := h
        have := pickV_spec hr
        exact ⟨this.1, (this.2.cons _).trans (List.Perm.swap _ _ _)⟩

theorem pickB_spec {k : Nat} {all : Rem} : ∀ {r : Rem} {i : Nat} {o : Oper} {rem' : Rem}, pickB k all r = some ((i, o), rem') →
    rdyE k all o.after.toList = true ∧ r.Perm ((i, o) :: rem')
  | [], _, _, _, h => by simp [pickB] at h
  | (i', o') :: r, i, o, rem', h => by
    simp only [pickB] at h
    split at h
    · rename_i h1
      simp at h
      obtain ⟨⟨rfl, rfl⟩, rfl⟩ := h
      exact ⟨h1, .refl _⟩
    · split at h
      · simp at h
      · rename_i x r' hr
        simp at h
        obtain ⟨rfl, rfl⟩ := h
        have := pickB_spec hr
        exact ⟨this.1, (this.2.cons _).trans (List.Perm.swap _ _ _)⟩

theorem noneRdy_spec {k : Nat} {all : Rem} : ∀ {r : Rem}, noneRdy k all r = true → ∀ j o, (j, o) ∈ r → rdyE k all o.after.toList = false
  | [], _, _, _, h => by simp at h
  | (j', o') :: r, h, j, o, hm => by
    simp only [noneRdy] at h
    split at h
    · simp at h
    · rename_i h1
      simp at hm
      rcases hm with ⟨rfl, rfl⟩ | hm
      · exact h1
      · exact noneRdy_spec h j o hm

theorem RemOK.perm {l : List Oper} {r r' : Rem} (h : RemOK l r) (p : r'.Perm r) : RemOK l r' :=
  ⟨fun i o hm => h.at_ i o (p.mem_iff.1 hm), (p.map Prod.fst).nodup_iff.2 h.nodup⟩

theorem RemOK.tail {l : List Oper} {x : Nat × Oper} {r : Rem} (h : RemOK l (x :: r)) : RemOK l r :=
  ⟨fun i o hm => h.at_ i o (List.mem_cons_of_mem _ hm), by have := h.nodup; simp at this ⊢; exact this.2⟩

theorem inRem_perm {r r' : Rem} (p : r'.Perm r) (j : Nat) : inRem j r' = inRem j r := by
  rw [Bool.eq_iff_iff, inRem_iff, inRem_iff]
  constructor
  · rintro ⟨o, h⟩; exact ⟨o, p.mem_iff.1 h⟩
  · rintro ⟨o, h⟩; exact ⟨o, p.mem_iff.2 h⟩

theorem inRem_tail {l : List Oper} {i : Nat} {o : Oper} {r : Rem} (h : RemOK l ((i, o) :: r)) (j : Nat) : inRem j r = (inRem j ((i, o) :: r) && !Nat.beq i j) := by
  simp only [inRem]
  cases hb : Nat.beq i j with
  | false => simp
  | true =>
    have : i = j := Nat.eq_of_beq_eq_true hb
    subst this
    simp
    have hn := h.nodup
    simp at hn
    cases hr : inRem i r with
    | false => rfl
    | true =>
      obtain ⟨o', ho'⟩ := inRem_iff.1 hr
      exact absurd ho' (hn.1 o')

theorem RemOK.number (l : List Oper) : RemOK l (number 0 l) := by
  have key : ∀ (l' : List Oper) (i : Nat), (∀ j o, (j, o) ∈ Sep.number i l' → i ≤ j ∧ l'[j - i]? = some o) ∧ ((Sep.number i l').map Prod.fst).Nodup := by
    intro l'
    induction l' with
    | nil => intro i; simp [Sep.number]
    | cons o l' ih =>
      intro i
      have := ih (i + 1)
      constructor
      · intro j o' hm
        simp [Sep.number] at hm
        rcases hm with ⟨rfl, rfl⟩ | hm
        · simp
        · have h := this.1 j o' hm
          refine ⟨by omega, ?_⟩
          rw [show j - i = (j - (i + 1)) + 1 from by omega]
          simpa using h.2
      · simp only [Sep.number, List.map_cons, List.nodup_cons]
        refine ⟨?_, this.2⟩
        intro hm
        obtain ⟨⟨j, o'⟩, hx, he⟩ := List.mem_map.1 hm
        have := (this.1 j o' hx).1
        simp at he
        omega
  refine ⟨fun i o hm => ?_, (key l 0).2⟩
  have := ((key l 0).1 i o hm).2
  simpa using this

theorem number_all {l : List Oper} : lst l.length (number 0 l) = Array.replicate l.length false := by
  have hin : ∀ (l' : List Oper) (i j : Nat), i ≤ j → j < i + l'.length → inRem j (Sep.number i l') = true := by
    intro l'
    induction l' with
    | nil => intro i j h1 h2; simp at h2; omega
    | cons o l' ih =>
      intro i j h1 h2
      simp only [Sep.number, inRem]
      split
      · rfl
      · rename_i he
        have : i ≠ j := fun e => by subst e; simp at he
        simp at h2
        exact ih (i + 1) j (by omega) (by omega)
  apply Array.ext
  · simp [lst]
  · intro j h1 h2
    simp [lst] at h1 h2 ⊢
    exact hin l 0 j (by omega) (by simpa using h2)

theorem lates_spec {i : Nat} : ∀ {r : Rem} {acc : List Nat} (hacc : List Nat), (∀ j ∈ acc, j ∈ hacc) →
    ∀ j, j ∈ lates i r acc → j ∈ acc ∨ ∃ o, (j, o) ∈ r ∧ ∃ e ∈ o.after, strong e = true ∧ (e.on = i ∨ e.on ∈ lates i r acc)
  | [], acc, hacc, hs, j, h => by simp [lates] at h; exact .inl h
  | (j', o') :: r, acc, hacc, hs, j, h => by
    have sub : ∀ (r : Rem) (acc : List Nat) x, x ∈ acc → x ∈ lates i r acc := by
      intro r
      induction r with
      | nil => intro acc x hx; simpa [lates] using hx
      | cons p r ih =>
        obtain ⟨jj, oo⟩ := p
        intro acc x hx
        simp only [lates]
        split
        · exact ih _ x (List.mem_cons_of_mem _ hx)
        · exact ih _ x hx
    cases hw : lateB i acc o' with
    | true =>
      simp only [lates, hw] at h ⊢
      rcases lates_spec (acc := j' :: acc) (j' :: hacc) (by intro x hx; simp at hx ⊢; rcases hx with h | h; exact .inl h; exact .inr (hs x h)) j h with h1 | ⟨o, ho, e, he, hst, h2⟩
      · simp at h1
        rcases h1 with rfl | h1
        · right
          obtain ⟨e, he, hst, hf⟩ := waitsE_spec.1 hw
          refine ⟨o', by simp, e, by simpa using he, hst, ?_⟩
          simp only [orIn] at hf
          split at hf
          · rename_i hb; exact .inl (Nat.eq_of_beq_eq_true hb)
          · right
            obtain ⟨x, hx, hb⟩ := List.any_eq_true.1 hf
            have : e.on = x := Nat.eq_of_beq_eq_true hb
            exact sub r (j :: acc) _ (List.mem_cons_of_mem _ (this ▸ hx))
        · exact .inl h1
      · exact .inr ⟨o, List.mem_cons_of_mem _ ho, e, he, hst, h2⟩
    | false =>
      simp only [lates, hw] at h ⊢
      rcases lates_spec (acc := acc) hacc hs j h with h1 | ⟨o, ho, e, he, hst, h2⟩
      · exact .inl h1
      · exact .inr ⟨o, List.mem_cons_of_mem _ ho, e, he, hst, h2⟩

theorem memN_iff {j : Nat} : ∀ {l : List Nat}, memN j l = true ↔ j ∈ l
  | [] => by simp [memN]
  | i :: l => by
    simp only [memN]
    split
    · rename_i he; have : i = j := Nat.eq_of_beq_eq_true he; simp [this]
    · rename_i he
      have hne : j ≠ i := fun e => by subst e; simp at he
      rw [memN_iff]; simp [hne]

theorem calm_spec {lt : List Nat} : ∀ {r : Rem}, calm lt r = true → ∀ j o, (j, o) ∈ r → isV o.op = true ∨ j ∈ lt
  | [], _, _, _, h => by simp at h
  | (j', o') :: r, h, j, o, hm => by
    simp only [calm] at h
    simp at hm
    split at h
    · rename_i hv
      rcases hm with ⟨rfl, rfl⟩ | hm
      · exact .inl hv
      · exact calm_spec h j o hm
    · split at h
      · rename_i hl
        rcases hm with ⟨rfl, rfl⟩ | hm
        · exact .inr (memN_iff.1 hl)
        · exact calm_spec h j o hm
      · simp at h

theorem noSel_spec : ∀ {l : List Oper}, noSel l = true → ∀ (j : Nat) (o : Oper) cs b, l.toArray[j]? = some o → o.op ≠ .select cs b
  | [], _, j, o, cs, b, ho => by simp at ho
  | o' :: l, h, j, o, cs, b, ho => by
    simp only [noSel] at h
    split at h
    · simp at h
    · rename_i hne
      cases j with
      | zero => simp at ho; subst ho; intro e; exact hne _ _ e
      | succ j => exact noSel_spec h j o cs b (by simpa using ho)

/-! ### the walk -/

def NP (Q : Exit → Act → World → Prop) : Exit → Act → World → Prop
  | .panic _, _, _ => False
  | e, a, w => Q e a w

/-- a store -/
def isSt : Op → Bool
  | .store _ _ _ => true
  | _ => false

/-- what is owed of each that comes up: one that only comes to a value leaves memory, the others (but for stores) keep what is held -/
def Dd (l : List Oper) (Hc : List Chunk) (j : Nat) (w w' : World) : Prop :=
  match l[j]? with
  | none => True
  | some o => match isV o.op with
    | true => w' = w
    | false => isSt o.op = false → Has w' Hc

/-- the stores are among these -/
def calmSt (lt : List Nat) : Rem → Bool
  | [] => true
  | (j, o) :: r => match isSt o.op with
    | false => calmSt lt r
    | true => match memN j lt with
      | true => calmSt lt r
      | false => false

theorem calmSt_spec {lt : List Nat} : ∀ {r : Rem}, calmSt lt r = true → ∀ j o, (j, o) ∈ r → isSt o.op = false ∨ j ∈ lt
  | [], _, _, _, h => by simp at h
  | (j', o') :: r, h, j, o, hm => by
    simp only [calmSt] at h
    split at h
    · rename_i hv
      rcases List.mem_cons.1 hm with e | hm
      · cases e; exact .inl hv
      · exact calmSt_spec h j o hm
    · split at h
      · rename_i hl
        rcases List.mem_cons.1 hm with e | hm
        · cases e; exact .inr (memN_iff.1 hl)
        · exact calmSt_spec h j o hm
      · simp at h

def WH (P : Program) (l : List Oper) (Q : Exit → Act → World → Prop) (n : Nat) (R : Fr) (Hc : List Chunk) (rem : Rem) (env : List (Nat × Value)) (pre : List Chunk) : Prop :=
  RemOK l rem → noSel l = true → ∀ a w, Env a n env → Own w (pre ++ R) →
    wpAnyD P .any l.toArray (NP Q) (Dd l Hc) rem.length (lst l.length rem) a w

section
variable {P : Program} {fn : Func} {Rp : Ending → World → Prop} {l : List Oper} {Q : Exit → Act → World → Prop} {n : Nat} {R : Fr} {Hc : List Chunk} {rem rem' : Rem} {env : List (Nat × Value)} {pre : List Chunk} {stk : List K}
  {T : TypeId} {pos : String} {aft : Array Edge} {d i : Nat}

/-- taken first: in each world that meets S -/
theorem WH.takeS {S : World → Prop} {o : Oper} {v : Value} (hp : pickV l.length rem rem = some ((i, o), rem')) (hf : frees l i o rem' = true) (hvo : isV o.op = true) (hdst : o.dst = some d) (hd : Nat.blt d n = true)
    (hS : ∀ w, Own w (pre ++ R) → S w)
    (hDS : ∀ j oj, (j, oj) ∈ rem' → isV oj.op = false → j ∉ lates i rem' [] → ∀ w', (isSt oj.op = false → Has w' Hc) → S w')
    (hy : ∀ a, Env a n env → YieldsIf P l.toArray S o v a)
    (k : ∀ a w, Env a n env → Own w (pre ++ R) → RemOK l rem' → noSel l = true → wpAnyD P .any l.toArray (NP Q) (Dd l Hc) rem'.length (lst l.length rem') (a.put (some d) v) w) :
    WH P l Q n R Hc rem env pre := by
  intro ok hns a w ha hw
  obtain ⟨hr, hperm⟩ := pickV_spec hp
  have hv := hvo
  have ok' : RemOK l ((i, o) :: rem') := ok.perm hperm.symm
  have hlen : rem.length = rem'.length + 1 := by rw [hperm.length_eq]; simp
  have hat := ok'.at_ i o (by simp)
  rw [hlen]
  have hset : (lst l.length rem).setIfInBounds i true = lst l.length rem' := lst_set fun j => by
    rw [← inRem_perm hperm.symm j]; exact inRem_tail ok' j
  have inl : ∀ j, inRem j rem' = true → inRem j rem = true := fun j h => by
    rw [← inRem_perm hperm.symm j]
    obtain ⟨o', ho'⟩ := inRem_iff.1 h
    exact inRem_iff.2 ⟨o', List.mem_cons_of_mem _ ho'⟩
  have outl : ∀ j, inRem j rem = true → j ≠ i → inRem j rem' = true := fun j h hne => by
    rw [← inRem_perm hperm.symm j] at h
    obtain ⟨o', ho'⟩ := inRem_iff.1 h
    simp at ho'
    rcases ho' with ⟨e, _⟩ | ho'
    · exact absurd e hne
    · exact inRem_iff.2 ⟨o', ho'⟩
  have unl : ∀ j oj, l.toArray[j]? = some oj → (lst l.length rem).getD j true = false → (j, oj) ∈ rem := fun j oj hj hun => by
    have hlt : j < l.length := by have := (Array.getElem?_eq_some_iff.1 hj).1; simpa using this
    rw [lst_get _ _ _ hlt] at hun
    obtain ⟨o', ho'⟩ := inRem_iff.1 (by simpa using hun : inRem j rem = true)
    have h1 := ok.at_ j o' ho'
    have h2 : l[j]? = some oj := by simpa using hj
    rw [h1] at h2
    simp at h2; subst h2; exact ho'
  refine wpAnyD_first (S := S) (v := v) (oi := o) (by simpa using hat) (noSel_spec hns) (fun c a w h => h.elim) (fun w _ => ?_)
    (fun j => ∃ oj, (j, oj) ∈ rem' ∧ j ∈ lates i rem' []) (fun j => ∃ oj, (j, oj) ∈ rem) ?_ ?_ rem'.length (lst l.length rem) a w ?_ ?_ ?_ ?_ (hy a ha) (hS w hw) ?_
  · simp only [Dd, hat, hv]
  · rintro j oj hj ⟨oj', hm, hl⟩
    rcases lates_spec (acc := []) [] (by simp) j hl with h1 | ⟨o₁, ho₁, e, he, hst, h2⟩
    · simp at h1
    · have h3 := ok'.at_ j o₁ (List.mem_cons_of_mem _ ho₁)
      have h4 : l[j]? = some oj := by simpa using hj
      rw [h3] at h4
      simp at h4; subst h4
      refine ⟨e, he, by rw [binds_any]; exact hst, ?_⟩
      rcases h2 with h2 | h2
      · exact .inl h2
      · right
        rcases lates_spec (acc := []) [] (by simp) e.on h2 with h5 | ⟨o₂, ho₂, _⟩
        · simp at h5
        · exact ⟨o₂, ho₂, h2⟩
  · intro j hji hpj hnl w w' hSw hDj
    unfold Dd at hDj
    cases hj : l[j]? with
    | none =>
      obtain ⟨oj', hm⟩ := hpj
      rw [ok.at_ j oj' hm] at hj; simp at hj
    | some oj =>
      obtain ⟨oj', hm⟩ := hpj
      have h1 := ok.at_ j oj' hm
      rw [hj] at h1; simp at h1; subst h1
      rw [hj] at hDj
      have hm' : (j, oj) ∈ rem' := by
        have := hperm.mem_iff.1 hm
        simp at this
        rcases this with ⟨e, _⟩ | h
        · exact absurd e hji
        · exact h
      cases hvj : isV oj.op with
      | true => simp only [hvj] at hDj; rw [hDj]; exact hSw
      | false =>
        simp only [hvj] at hDj
        exact hDS j oj hm' hvj (fun hl => hnl ⟨oj, hm', hl⟩) w' hDj
  · intro j oj hj hji hun hno
    have hm := unl j oj hj hun
    have hm' : (j, oj) ∈ rem' := by
      have := hperm.mem_iff.1 hm
      simp at this
      rcases this with ⟨e, _⟩ | h
      · exact absurd e hji
      · exact h
    exact frees_spec hf j oj hm' hno
  · rintro j ⟨oj, hm, _⟩
    have hlt : j < l.length := (List.getElem?_eq_some_iff.1 (ok'.at_ j oj (List.mem_cons_of_mem _ hm))).1
    rw [lst_get _ _ _ hlt, inl j (inRem_iff.2 ⟨oj, hm⟩)]; rfl
  · intro j hun
    rcases Nat.lt_or_ge j l.length with hlt | hge
    · rw [lst_get _ _ _ hlt] at hun
      exact inRem_iff.1 (by simpa using hun)
    · rw [lst_get_out _ _ _ hge] at hun; simp at hun
  · exact (ready_iff ok).2 ⟨o, hperm.mem_iff.2 (by simp), hr⟩
  · rw [hset, hdst]
    exact k a w ha hw ok'.tail hns

/-- the next one that only comes to a value is x -/
def WHT (P : Program) (l : List Oper) (Q : Exit → Act → World → Prop) (n : Nat) (R : Fr) (Hc : List Chunk) (x : Nat × Oper) (rem' rem : Rem) (env : List (Nat × Value)) (pre : List Chunk) : Prop :=
  pickV l.length rem rem = some (x, rem') → WH P l Q n R Hc rem env pre

theorem WH.pick {x : Nat × Oper} (hp : pickV l.length rem rem = some (x, rem')) (k : WHT P l Q n R Hc x rem' rem env pre) : WH P l Q n R Hc rem env pre := k hp

/-- a guard that lets it run; one that does not -/
def gSays (l : List Oper) (env : List (Nat × Value)) : Option (Nat × Bool) → Option Bool
  | none => some true
  | some (j, want) => match l[j]? with
    | none => none
    | some o => match o.dst with
      | none => none
      | some t => match lk t env with
        | some (.bool true) => some want
        | some (.bool false) => some (match want with | true => false | false => true)
        | _ => none

theorem gSays_wanted {l : List Oper} {env : List (Nat × Value)} {n : Nat} {a : Act} {o : Oper} {b : Bool} (h : gSays l env o.guard = some b) (ha : Env a n env) :
    Region.wanted o (yielded l.toArray a.tmps) = b := by
  unfold gSays at h
  unfold Region.wanted
  split at h
  · rename_i hg; rw [hg]; simpa using h
  · rename_i j want hg
    rw [hg]
    simp only
    split at h
    · simp at h
    · rename_i o' ho'
      split at h
      · simp at h
      · rename_i t hdt
        have key : ∀ c : Bool, lk t env = some (.bool c) → yielded l.toArray a.tmps j = some c := by
          intro c hc
          have hg := ha.get t _ hc
          have : a.tmps[t]? = some (.bool c) := by
            simp only [Array.getD_eq_getD_getElem?] at hg
            cases ht : a.tmps[t]? with
            | none => rw [ht] at hg; simp [undef] at hg
            | some v => rw [ht] at hg; simp at hg; rw [hg]
          simp [yielded, ho', hdt, this]
        split at h
        · rename_i hb
          rw [key _ hb]
          simp at h; subst h
          cases want <;> rfl
        · rename_i hb
          rw [key _ hb]
          cases want <;> simp at h <;> subst h <;> rfl
        · simp at h

theorem WHT.v {op : Op} {v : Value} {g : Option (Nat × Bool)} (h : OpV P op T env v) (hg : gSays l env g = some true) (hf : frees l i ⟨some d, op, T, pos, aft, g⟩ rem' = true) (hv : isV op = true) (hd : Nat.blt d n = true)
    (k : WH P l Q n R Hc rem' ((d, v) :: env) pre) : WHT P l Q n R Hc (i, ⟨some d, op, T, pos, aft, g⟩) rem' rem env pre := fun hp =>
  WH.takeS (S := fun _ => True) (v := v) hp hf hv rfl hd (fun _ _ => trivial) (fun _ _ _ _ _ _ _ => trivial)
    (fun a ha => .inl ⟨gSays_wanted hg ha, fun w _ => h _ _ _ _ a.eval w (fun x v hx => ha.ev hx)⟩)
    (fun a w ha hw ok hns => k ok hns _ w (ha.put hd) hw)

/-- a read, where all that turns memory waits for it -/
theorem WHT.r {op : Op} {v : Value} {g : Option (Nat × Bool)} (h : OpR P op T env pre v) (hg : gSays l env g = some true) (hc : calm (lates i rem' []) rem' = true) (hf : frees l i ⟨some d, op, T, pos, aft, g⟩ rem' = true) (hv : isV op = true) (hd : Nat.blt d n = true)
    (k : WH P l Q n R Hc rem' ((d, v) :: env) pre) : WHT P l Q n R Hc (i, ⟨some d, op, T, pos, aft, g⟩) rem' rem env pre := fun hp =>
  WH.takeS (S := fun w => Has w pre) (v := v) hp hf hv rfl hd (fun _ hw => hw.has) (fun j oj hm hv hl _ _ => by
      rcases calm_spec hc j oj hm with h1 | h1
      · rw [h1] at hv; simp at hv
      · exact absurd h1 hl)
    (fun a ha => .inl ⟨gSays_wanted hg ha, fun w hS => h _ _ _ _ a.eval w (fun x v hx => ha.ev hx) hS⟩)
    (fun a w ha hw ok hns => k ok hns _ w (ha.put hd) hw)

/-- a read of what is held -/
theorem WHT.rh {op : Op} {v : Value} {g : Option (Nat × Bool)} (h : OpR P op T env Hc v) (hg : gSays l env g = some true) (hc : ∀ c ∈ Hc, c ∈ pre) (hst : calmSt (lates i rem' []) rem' = true) (hf : frees l i ⟨some d, op, T, pos, aft, g⟩ rem' = true) (hv : isV op = true) (hd : Nat.blt d n = true)
    (k : WH P l Q n R Hc rem' ((d, v) :: env) pre) : WHT P l Q n R Hc (i, ⟨some d, op, T, pos, aft, g⟩) rem' rem env pre := fun hp =>
  WH.takeS (S := fun w => Has w Hc) (v := v) hp hf hv rfl hd (fun _ hw => fun x hx => by
      obtain ⟨c, hcm, hxc⟩ := List.mem_flatten.1 hx
      exact hw.has x (List.mem_flatten.2 ⟨c, hc c hcm, hxc⟩)) (fun j oj hm _ hl _ hS => (calmSt_spec hst j oj hm).elim hS (fun h => absurd h hl))
    (fun a ha => .inl ⟨gSays_wanted hg ha, fun w hS => h _ _ _ _ a.eval w (fun x v hx => ha.ev hx) hS⟩)
    (fun a w ha hw ok hns => k ok hns _ w (ha.put hd) hw)

/-- its guard does not let it run -/
theorem WHT.gn {op : Op} {g : Option (Nat × Bool)} (hg : gSays l env g = some false) (hdn : lk d env = none) (hf : frees l i ⟨some d, op, T, pos, aft, g⟩ rem' = true) (hv : isV op = true) (hd : Nat.blt d n = true)
    (k : WH P l Q n R Hc rem' env pre) : WHT P l Q n R Hc (i, ⟨some d, op, T, pos, aft, g⟩) rem' rem env pre := fun hp =>
  WH.takeS (S := fun _ => True) (v := undef) hp hf hv rfl hd (fun _ _ => trivial) (fun _ _ _ _ _ _ _ => trivial)
    (fun a ha => .inr ⟨gSays_wanted hg ha, rfl⟩)
    (fun a w ha hw ok hns => k ok hns _ w ((ha.put (v := undef) hd).sub (fun t v ht => by
      simp only [lk]
      split
      · rename_i he
        have : d = t := Nat.eq_of_beq_eq_true he
        subst this; rw [hdn] at ht; simp at ht
      · exact ht)) hw)

theorem WHT.sub {x : Nat × Oper} {env' : List (Nat × Value)} (hs : subEnv env' env) (k : WHT P l Q n R Hc x rem' rem env' pre) : WHT P l Q n R Hc x rem' rem env pre :=
  fun hp ok hns a w ha hw => k hp ok hns a w (ha.sub hs) hw

theorem subEnv_bool {env : List (Nat × Value)} {t : Nat} {b c : Bool} (hb : lk t env = some (.bool b)) (hc : b = c) : subEnv ((t, .bool c) :: env) env := by
  intro t' v ht
  simp only [lk] at ht
  split at ht
  · rename_i he
    have : t = t' := Nat.eq_of_beq_eq_true he
    subst this; simp at ht; subst ht; rw [hb, hc]
  · exact ht

/-- at a guard that is open -/
theorem WHT.gcaseD {dst : Option Nat} {op : Op} {j t : Nat} {want : Bool} {p : Prop} [Decidable p] (hj : ((l[j]?).bind (·.dst)) = some t) (hb : lk t env = some (.bool (decide p)))
    (h1 : p → WHT P l Q n R Hc (i, ⟨dst, op, T, pos, aft, some (j, want)⟩) rem' rem ((t, .bool true) :: env) pre)
    (h0 : ¬ p → WHT P l Q n R Hc (i, ⟨dst, op, T, pos, aft, some (j, want)⟩) rem' rem ((t, .bool false) :: env) pre) :
    WHT P l Q n R Hc (i, ⟨dst, op, T, pos, aft, some (j, want)⟩) rem' rem env pre := by
  by_cases hp : p
  · exact WHT.sub (subEnv_bool hb (by simp [hp])) (h1 hp)
  · exact WHT.sub (subEnv_bool hb (by simp [hp])) (h0 hp)

theorem WHT.gcaseN {dst : Option Nat} {op : Op} {j t : Nat} {want : Bool} {p : Prop} [Decidable p] (hj : ((l[j]?).bind (·.dst)) = some t) (hb : lk t env = some (.bool (!decide p)))
    (h1 : ¬ p → WHT P l Q n R Hc (i, ⟨dst, op, T, pos, aft, some (j, want)⟩) rem' rem ((t, .bool true) :: env) pre)
    (h0 : p → WHT P l Q n R Hc (i, ⟨dst, op, T, pos, aft, some (j, want)⟩) rem' rem ((t, .bool false) :: env) pre) :
    WHT P l Q n R Hc (i, ⟨dst, op, T, pos, aft, some (j, want)⟩) rem' rem env pre := by
  by_cases hp : p
  · exact WHT.sub (subEnv_bool hb (by simp [hp])) (h0 hp)
  · exact WHT.sub (subEnv_bool hb (by simp [hp])) (h1 hp)

/-- what is left behind the one that has come up -/
def contG (P : Program) (l : List Oper) (Q : Exit → Act → World → Prop) (Hk Hc : List Chunk) (rem : Rem) : Exit → Act → World → Prop
  | .normal, a, w => Has w Hk ∧ wpAnyD P .any l.toArray (NP Q) (Dd l Hc) rem.length (lst l.length rem) a w
  | .panic _, _, _ => False
  | e, a, w => Q e a w

/-- the only one that may come up -/
theorem WH.bigG {o : Oper} (Hk : List Chunk) (hk : ∀ w', Has w' Hk → isSt o.op = false → Has w' Hc) (hp : pickB l.length rem rem = some ((i, o), rem')) (hno : noneRdy l.length rem rem' = true) (hb : isV o.op = false)
    (k : RemOK l rem' → noSel l = true → WL P l.toArray (contG P l Q Hk Hc rem') n R [o] env pre) : WH P l Q n R Hc rem env pre := by
  intro ok hns a w ha hw
  obtain ⟨hr, hperm⟩ := pickB_spec hp
  have ok' : RemOK l ((i, o) :: rem') := ok.perm hperm.symm
  have hlen : rem.length = rem'.length + 1 := by rw [hperm.length_eq]; simp
  have hat := ok'.at_ i o (by simp)
  have hset : (lst l.length rem).setIfInBounds i true = lst l.length rem' := lst_set fun j => by
    rw [← inRem_perm hperm.symm j]; exact inRem_tail ok' j
  have hi : i ∈ Region.ready .any l.toArray (lst l.length rem) := (ready_iff ok).2 ⟨o, hperm.mem_iff.2 (by simp), hr⟩
  rw [hlen]
  refine ⟨fun h => (by rw [h] at hi; cases hi), fun j hj => ?_⟩
  obtain ⟨oj, hm, hrj⟩ := (ready_iff ok).1 hj
  have hji : j = i ∧ oj = o := by
    have := hperm.mem_iff.1 hm
    simp at this
    rcases this with h | h
    · exact h
    · rw [noneRdy_spec hno j oj h] at hrj; simp at hrj
  obtain ⟨rfl, rfl⟩ := hji
  have hwl := k ok'.tail hns a w ha hw
  rw [hset]
  have hat' : l.toArray[j]? = some oj := by simpa using hat
  have h1 : wpOps P l.toArray (contG P l Q Hk Hc rem') [j] a w := wpOps_of_wpL [j] [oj] a w (by simp [hat]) hwl
  rw [wpOps_cons] at h1
  have hD : ∀ w', Has w' Hk → Dd l Hc j w w' := fun w' h => by simp only [Dd, hat, hb]; exact hk w' h
  -- the other ends
  have key : ∀ (K : Act → World → Prop), (∀ a' w', K a' w' → contG P l Q Hk Hc rem' .normal a' w') → wpOp P l.toArray (contG P l Q Hk Hc rem') j K a w →
      wpOp P l.toArray (NP Q) j (fun a' w' => Dd l Hc j w w' ∧ wpAnyD P .any l.toArray (NP Q) (Dd l Hc) rem'.length (lst l.length rem') a' w') a w := by
    intro K hK h
    unfold wpOp at h ⊢
    simp only [hat'] at h ⊢
    have step : ∀ a' w', K a' w' → Dd l Hc j w w' ∧ wpAnyD P .any l.toArray (NP Q) (Dd l Hc) rem'.length (lst l.length rem') a' w' := fun a' w' h => ⟨hD w' (hK a' w' h).1, (hK a' w' h).2⟩
    split
    · rename_i hw; simp only [hw, if_true] at h
      rcases h with h | ⟨h, a₀, w₀, h'⟩
      · left
        unfold Oper.wp at h ⊢
        revert h
        generalize (execOp a.eval oj).run P _ = r
        intro h
        unfold Oper.upon at h ⊢
        split at h
        · exact step _ _ h
        · exact step _ _ h
        · exact step _ _ h
        · refine h.mono ?_
          intro e w'' he
          cases e with
          | returned v => exact step _ _ he
          | panicked chain => exact he.elim
          | outgrown => exact he
        · exact h.mono fun v w'' he => step _ _ he
        · exact h.elim
        · exact h.elim
      · exact .inr ⟨h, a₀, w₀, h'⟩
    · rename_i hw; simp only [hw] at h
      exact step _ _ h
  exact key _ (fun _ _ h => h) h1

theorem WH.big {o : Oper} (hp : pickB l.length rem rem = some ((i, o), rem')) (hno : noneRdy l.length rem rem' = true) (hb : isV o.op = false)
    (k : RemOK l rem' → noSel l = true → WL P l.toArray (contG P l Q Hc Hc rem') n R [o] env pre) : WH P l Q n R Hc rem env pre :=
  WH.bigG Hc (fun _ h _ => h) hp hno hb k

/-- a store need not keep what is held -/
theorem WH.bigSt {o : Oper} (hp : pickB l.length rem rem = some ((i, o), rem')) (hno : noneRdy l.length rem rem' = true) (hb : isSt o.op = true)
    (k : RemOK l rem' → noSel l = true → WL P l.toArray (contG P l Q [] Hc rem') n R [o] env pre) : WH P l Q n R Hc rem env pre :=
  WH.bigG [] (fun _ _ h => by rw [hb] at h; simp at h) hp hno (by
    cases ho : o.op <;> rw [ho] at hb <;> simp [isSt] at hb <;> rfl) k

theorem WL.nextH {Hk : List Chunk} {ok : RemOK l rem} {hns : noSel l = true} (hc : ∀ c ∈ Hk, c ∈ pre) (k : WH P l Q n R Hc rem env pre) : WL P l.toArray (contG P l Q Hk Hc rem) n R [] env pre :=
  fun a w ha hw => ⟨fun x hx => by
      obtain ⟨c, hcm, hxc⟩ := List.mem_flatten.1 hx
      exact hw.has x (List.mem_flatten.2 ⟨c, hc c hcm, hxc⟩), k ok hns a w ha hw⟩

theorem WH.done (k : WS P fn Rp n R stk env pre) : WH P l (after P fn Rp stk) n R Hc [] env pre :=
  fun _ _ a w ha hw => ⟨by
    cases hr : Region.ready .any l.toArray (lst l.length []) with
    | nil => rfl
    | cons j r =>
      have : j ∈ Region.ready .any l.toArray (lst l.length []) := by rw [hr]; simp
      obtain ⟨o, hm, _⟩ := (ready_iff ⟨by simp, by simp⟩).1 this
      simp at hm, k a w ha hw⟩

theorem WS.regionD (Hc : List Chunk) {id : Nat} (hm : P.follows .mixedOrders = true) (hns : noSel l = true) (k : WH P l (after P fn Rp stk) n R Hc (number 0 l) env pre) :
    WS P fn Rp n R (.code (.region id l.toArray true) :: stk) env pre := by
  intro a w ha hw
  have h1 : (Code.region id l.toArray true).wp P (NP (after P fn Rp stk)) a w := by
    refine wp_region_any hm (wpAny_of_D (D := Dd l Hc) _ _ _ _ ?_)
    have := k (RemOK.number l) hns a { w with drawn := w.drawn + 1 } ha (hw.heap rfl ⟨rfl, rfl, rfl⟩)
    rw [number_all] at this
    have hl : (number 0 l).length = l.toArray.size := by
      have : ∀ (l : List Oper) (i : Nat), (number i l).length = l.length := by
        intro l; induction l with
        | nil => intro i; rfl
        | cons o l ih => intro i; simp [number, ih]
      simp [this]
    rw [hl] at this
    simpa using this
  exact wp_mono h1 (fun e a w h => by cases e <;> first | exact h | exact h.elim)

end
end Go.Sep
end
section
namespace Go.Sep
open Go

/-! ## slices that own their row -/

class Enc {α : Type} (enc : α → List Value) (sz : outParam Nat) : Prop where
  len : ∀ x, (enc x).length = sz
  one : ∀ x, allOne (enc x) = true
  pos : 0 < sz

structure SL {α : Type} (enc : α → List Value) (sz : Nat) where
  xs : List α
  b : Option Nat
  cap : Nat
  junk : List Value
  nil : b = none → xs = []
  fit : b ≠ none → cap * sz = xs.length * sz + junk.length

def flat {α : Type} (enc : α → List Value) : List α → List Value
  | [] => []
  | x :: xs => enc x ++ flat enc xs

theorem flat_append {α : Type} (enc : α → List Value) (xs ys : List α) : flat enc (xs ++ ys) = flat enc xs ++ flat enc ys := by
  induction xs with
  | nil => rfl
  | cons x xs ih => simp [flat, ih]

theorem flat_length {α : Type} {enc : α → List Value} {sz : Nat} [h : Enc enc sz] (xs : List α) : (flat enc xs).length = xs.length * sz := by
  induction xs with
  | nil => simp [flat]
  | cons x xs ih => simp [flat, ih, h.len, Nat.add_mul, Nat.add_comm]

theorem allOne_append : ∀ (xs ys : List Value), allOne (xs ++ ys) = (allOne xs && allOne ys)
  | [], ys => by simp [allOne]
  | x :: xs, ys => by
    simp only [List.cons_append, allOne]
    cases oneC x <;> simp [allOne_append xs ys]

theorem flat_one {α : Type} {enc : α → List Value} {sz : Nat} [h : Enc enc sz] (xs : List α) : allOne (flat enc xs) = true := by
  induction xs with
  | nil => rfl
  | cons x xs ih => simp [flat, allOne_append, ih, h.one]

namespace SL
variable {α : Type} {enc : α → List Value} {sz : Nat}
def val (s : SL enc sz) : Value := match s.b with
  | none => .slice none 0 0
  | some b => .slice (some ⟨b, 0, none⟩) s.xs.length s.cap
def ch (s : SL enc sz) (E : TypeId) : Chunk := match s.b with
  | none => []
  | some b => blk b E (flat enc s.xs ++ s.junk)
def empty : SL enc sz := ⟨[], none, 0, [], fun _ => rfl, fun h => absurd rfl h⟩
@[simp] theorem empty_xs : (empty : SL enc sz).xs = [] := rfl
@[simp] theorem empty_val : (empty : SL enc sz).val = .slice none 0 0 := rfl
@[simp] theorem empty_ch (E : TypeId) : (empty : SL enc sz).ch E = [] := rfl
theorem val_len (s : SL enc sz) : s.val = .slice (s.b.map fun b => ⟨b, 0, none⟩) s.xs.length (match s.b with | none => 0 | some _ => s.cap) := by
  unfold val
  cases h : s.b with
  | none => simp [s.nil h]
  | some b => rfl
end SL

theorem getN_append_left : ∀ (xs ys : List Value) (n : Nat), xs.length = n → getN 0 n (xs ++ ys) = some xs
  | [], ys, n, h => by simp at h; subst h; simp [getN]
  | x :: xs, ys, n, h => by
    cases n with
    | zero => simp at h
    | succ n =>
      simp only [List.cons_append, getN, getN_append_left xs ys n (by simpa using h)]

theorem getN_drop : ∀ (xs ys : List Value) (o n : Nat), xs.length = o → getN o n (xs ++ ys) = getN 0 n ys
  | [], ys, o, n, h => by simp at h; subst h; simp
  | x :: xs, ys, o, n, h => by
    cases o with
    | zero => simp at h
    | succ o => simp only [List.cons_append, getN]; exact getN_drop xs ys o n (by simpa using h)

theorem setN_drop : ∀ (xs vs ys : List Value) (o : Nat), xs.length = o → setN o vs (xs ++ ys) = (setN 0 vs ys).map (xs ++ ·)
  | [], vs, ys, o, h => by simp at h; subst h; simp
  | x :: xs, vs, ys, o, h => by
    cases o with
    | zero => simp at h
    | succ o =>
      simp only [List.cons_append, setN, setN_drop xs vs ys o (by simpa using h)]
      cases setN 0 vs ys <;> simp

theorem setN_zero : ∀ (vs ys : List Value), vs.length ≤ ys.length → setN 0 vs ys = some (vs ++ ys.drop vs.length)
  | [], ys, _ => by simp [setN]
  | v :: vs, [], h => by simp at h
  | v :: vs, y :: ys, h => by
    simp only [setN, setN_zero vs ys (by simpa using h)]
    simp

theorem next_le (need c : Nat) (h : c < need) : Builtin.nextslicecap need c ≤ 2 * need + 768 := by
  have g : ∀ r c, c < need + 192 + need / 4 → Builtin.growBy need r c ≤ 2 * need + 768 := by
    intro r
    induction r with
    | zero => intro c hc; simp [Builtin.growBy]; omega
    | succ r ih =>
      intro c hc
      simp only [Builtin.growBy]
      split
      · omega
      · exact ih _ (by omega)
  unfold Builtin.nextslicecap
  split
  · omega
  · split
    · omega
    · exact g 4 c (by omega)

class TyB (P : Program) (E : TypeId) (bytes : outParam Nat) : Prop where
  run : ∀ w, ∃ i, (typeInfo E).run P w = .ok i w ∧ i.bytes = bytes
  pos : 0 < bytes

section app
variable {P : Program} {ops : Array Oper} {Q : Exit → Act → World → Prop} {n : Nat} {R : Fr} {rest : List Oper} {env : List (Nat × Value)} {pre : List Chunk}
  {T : TypeId} {pos : String} {aft : Array Edge} {d : Nat} {x y : Operand}

theorem run_firstCells {w : World} {b E : Nat} {l vs : List Value} {o sz m c : Nat} (h : w.heap[b]? = some (.cells l.toArray E (0, 0))) (hv : getN o (m * sz) l = some vs) :
    (Builtin.firstCells sz m (.slice (some ⟨b, o, none⟩) m c)).run P w = .ok vs.toArray w := by
  simp only [Builtin.firstCells]
  exact run_loadCells h hv

/-- the cells of a slice's elements, where they are -/
def srcOf (pre : List Chunk) (sz : Nat) (v : Value) (m : Nat) (vs : List Value) : Prop :=
  (v = .slice none 0 0 ∧ m = 0 ∧ vs = []) ∨ ∃ b o c k E l, v = .slice (some ⟨b, o, none⟩) m c ∧ nthC k pre = some (blk b E l) ∧ getN o (m * sz) l = some vs

theorem run_src {w : World} {pre : List Chunk} {sz m : Nat} {v : Value} {vs : List Value} (hh : Has w pre) (h : srcOf pre sz v m vs) :
    (Builtin.lenOf v).run P w = .ok m w ∧ (Builtin.firstCells sz m v).run P w = .ok vs.toArray w := by
  rcases h with ⟨rfl, rfl, rfl⟩ | ⟨b, o, c, k, E, l, rfl, hk, hg⟩
  · simp [Builtin.lenOf, Builtin.firstCells]
  · exact ⟨by simp [Builtin.lenOf], run_firstCells (hh.nth hk) hg⟩

theorem zeroCells_size (z : Value) (k : Nat) : (Builtin.zeroCells z.cells k).size = k * (cellsV z).length := by
  simp [Builtin.zeroCells, cells_cellsV]

theorem execOp_append {dst : Option Tmp} {gg : Option (Nat × Bool)} (ρ : Operand → Value) (T1 T2 : TypeId) (w : World) :
    (execOp ρ ⟨dst, .call ⟨.builtin .append, #[x, y], #[T1, T2]⟩, T, pos, aft, gg⟩).run P w =
      ((Builtin.append_ #[T1, T2] T #[ρ x, ρ y]).run P w).andThen fun v w' => .ok (.value v) w' := by
  simp [execOp, resolve, invoke, builtin]

theorem run_append_in {T1 T2 E E2 sz m sLen sCap : Nat} {g : Bool} {base : Option Addr} {vy : Value} {vs : List Value} {w : World} [hu : TyU P T1 (.slice E)] [hu2 : TyU P T2 (.slice E2)] [hs : TyS P E sz g]
    (hl : (Builtin.lenOf vy).run P w = .ok m w) (hfc : (Builtin.firstCells sz m vy).run P w = .ok vs.toArray w) (hc : sLen + m ≤ sCap) :
    (Builtin.append_ #[T1, T2] T #[.slice base sLen sCap, vy]).run P w =
      ((match base with | some a => storeCells (a.add (sLen * sz)) vs | none => pure () : Sem Unit).run P w).andThen fun _ w' => .ok (.slice base (sLen + m) sCap) w' := by
  simp [Builtin.append_, underlying, hu.u, hu2.u, hs.s, hl, hc, hfc]
  cases base <;> simp

theorem run_append_grow {T1 T2 E E2 sz m sLen sCap bytes : Nat} {g : Bool} {z : Value} {base : Option Addr} {vy : Value} {vs old : List Value} {w : World} [hu : TyU P T1 (.slice E)] [hu2 : TyU P T2 (.slice E2)] [hs : TyS P E sz g] [hz : TyZ P E z] [hby : TyB P E bytes]
    (hl : (Builtin.lenOf vy).run P w = .ok m w) (hfc : (Builtin.firstCells sz m vy).run P w.drew = .ok vs.toArray w.drew)
    (hold : (Builtin.firstCells sz sLen (.slice base sLen sCap)).run P w.drew = .ok old.toArray w.drew)
    (hc : ¬ sLen + m ≤ sCap) (hbig : (2 * (sLen + m) + 768) * bytes ≤ 281474976710656) :
    ∃ c, sLen + m ≤ c ∧ (Builtin.append_ #[T1, T2] T #[.slice base sLen sCap, vy]).run P w =
      .ok (.slice (some ⟨w.heap.size, 0, none⟩) (sLen + m) c) (w.drew.alloc (.cells (old.toArray ++ (vs.toArray ++ Builtin.zeroCells z.cells (c - (sLen + m)))) E)) := by
  have hnx := next_le (sLen + m) sCap (by omega)
  have hnc : ¬ (281474976710656 < Builtin.nextslicecap (sLen + m) sCap * bytes) := by
    have : Builtin.nextslicecap (sLen + m) sCap * bytes ≤ (2 * (sLen + m) + 768) * bytes := Nat.mul_le_mul_right _ hnx
    omega
  obtain ⟨ti, hti, htb⟩ := hby.run w
  have hb0' : ¬ (bytes = 0) := by have := hby.pos; omega
  have htyp : ∀ w', (typeInfo E).run P w' = .ok ti w' := by
    intro w'
    obtain ⟨ti', hti', _⟩ := hby.run w'
    have h1 : ∀ w, (typeInfo E).run P w = (match P.info? E with | some i => .ok i w | none => .halt (.stuck "no such type") w) := by
      intro w; simp only [typeInfo, Sem.run_bind, run_program, Result.andThen_ok]; cases P.info? E <;> simp
    rw [h1] at hti ⊢
    cases hi : P.info? E with
    | none => rw [hi] at hti; simp at hti
    | some i => rw [hi] at hti; simp at hti ⊢; exact hti
  subst htb
  refine ⟨(Question.appendCap (sLen + m) sCap E).cut (w.tape w.drawn (.appendCap (sLen + m) sCap E)), by simp [Question.cut], ?_⟩
  simp [Builtin.append_, underlying, hu.u, hu2.u, hs.s, hl, hc, htyp, hb0', hnc, hold, hfc, hz.z, run_newRow, Question.forced]

/-- append(s, ys...) to a slice that owns its row -/
theorem WL.append {α : Type} {enc : α → List Value} {sz : Nat} [he : Enc enc sz] (ys : List α) {T1 T2 E E2 bytes : TypeId} {g : Bool} {z : Value} (kp : Nat) {B : List Chunk}
    [hu : TyU P T1 (.slice E)] [hu2 : TyU P T2 (.slice E2)] [hs : TyS P E sz g] [hz : TyZ P E z] [hby : TyB P E bytes] (s : SL enc sz) (hzl : (cellsV z).length = sz)
    (hx : ev env x = some s.val) {vy : Value} (hy : ev env y = some vy) (ht : takeAt kp pre = some (s.ch E, B)) (hsrc : srcOf pre sz vy ys.length (flat enc ys))
    (hb : (2 * (s.xs.length + ys.length) + 768) * bytes ≤ 281474976710656) (hd : Nat.blt d n = true)
    (k : ∀ s' : SL enc sz, s'.xs = s.xs ++ ys → WL P ops Q n R rest ((d, s'.val) :: env) (s'.ch E :: B)) :
    WL P ops Q n R (⟨some d, .call ⟨.builtin .append, #[x, y], #[T1, T2]⟩, T, pos, aft, none⟩ :: rest) env pre := by
  refine WL.turn (X := {s' : SL enc sz // s'.xs = s.xs ++ ys}) (fun s' => s'.1.val) (fun s' => s'.1.ch E :: B) hd (fun ρ w hs' ho => ?_) (fun s' => k s'.1 s'.2)
  have hat := ho.at ht
  have hpos := he.pos
  simp only [execOp_append, hs' x _ hx, hs' y _ hy, s.val_len]
  have hcapv : ∀ b, s.b = some b → (match s.b with | none => 0 | some _ => s.cap) = s.cap := by intro b hb; rw [hb]
  by_cases hc : s.xs.length + ys.length ≤ (match s.b with | none => 0 | some _ => s.cap)
  · obtain ⟨hl, hfc⟩ := run_src (P := P) ho.has hsrc
    rw [run_append_in hl hfc hc]
    cases hsb : s.b with
    | none =>
      simp only [hsb] at hc
      have hys : ys = [] := List.length_eq_zero_iff.1 (by omega)
      subst hys
      refine ⟨⟨s, by simp⟩, w, ?_, hat⟩
      simp [s.val_len, hsb]
    | some b =>
      rw [hsb] at hc
      have hfit := s.fit (by rw [hsb]; simp)
      have hch : s.ch E = blk b E (flat enc s.xs ++ s.junk) := by simp [SL.ch, hsb]
      rw [hch] at hat
      have hjl : (flat enc ys).length ≤ s.junk.length := by
        rw [flat_length]
        have : (s.xs.length + ys.length) * sz ≤ s.cap * sz := Nat.mul_le_mul_right _ hc
        rw [Nat.add_mul] at this
        omega
      have hset : setN (0 + (s.xs.length * sz) + 0) (flat enc ys) (flat enc s.xs ++ s.junk) = some (flat enc s.xs ++ (flat enc ys ++ s.junk.drop (flat enc ys).length)) := by
        rw [setN_drop _ _ _ _ (by rw [flat_length]; omega), setN_zero _ _ hjl]; rfl
      obtain ⟨w', hr, hb', hf', hx'⟩ := run_storeCells (P := P) (flat enc ys) w _ _ (0 + s.xs.length * sz) 0 hat.head hset (flat_one ys)
      refine ⟨⟨⟨s.xs ++ ys, some b, s.cap, s.junk.drop (flat enc ys).length, by simp, fun _ => ?_⟩, rfl⟩, w', ?_, ?_⟩
      · rw [List.length_append, Nat.add_mul, List.length_drop, flat_length]
        rw [flat_length] at hjl
        omega
      · simp only [Option.map_some, addr_add]
        rw [hr]
        simp [SL.val]
      · have := Own.set hat hb' hf' hx'
        simp only [SL.ch, flat_append, List.append_assoc]
        exact this
  · have hown : Own w.drew (pre ++ R) := ho.heap rfl ⟨rfl, rfl, rfl⟩
    have hfc := (run_src (P := P) hown.has hsrc).2
    have hl := (run_src (P := P) ho.has hsrc).1
    have hold : (Builtin.firstCells sz s.xs.length (.slice (s.b.map fun b => ⟨b, 0, none⟩) s.xs.length (match s.b with | none => 0 | some _ => s.cap))).run P w.drew =
        .ok (flat enc s.xs).toArray w.drew := by
      cases hsb : s.b with
      | none => simp [Builtin.firstCells, s.nil hsb, flat]
      | some b =>
        have hch : s.ch E = blk b E (flat enc s.xs ++ s.junk) := by simp [SL.ch, hsb]
        have hat' := hown.at ht
        rw [hch] at hat'
        simp only [Option.map_some]
        exact run_firstCells hat'.head (getN_append_left _ _ _ (flat_length _))
    obtain ⟨c, hcge, hr⟩ := run_append_grow (T := T) (T1 := T1) (T2 := T2) (E := E) (E2 := E2) (bytes := bytes) hl hfc hold hc hb
    have hzc : (Builtin.zeroCells z.cells (c - (s.xs.length + ys.length))).size = (c - (s.xs.length + ys.length)) * sz := by rw [zeroCells_size, hzl]
    have e : ((flat enc s.xs).toArray ++ ((flat enc ys).toArray ++ Builtin.zeroCells z.cells (c - (s.xs.length + ys.length)))) =
        (flat enc (s.xs ++ ys) ++ (Builtin.zeroCells z.cells (c - (s.xs.length + ys.length))).toList).toArray := by
      rw [flat_append]
      apply Array.ext'
      simp
    rw [e] at hr
    rw [hr]
    have hfit : c * sz = (s.xs ++ ys).length * sz + (Builtin.zeroCells z.cells (c - (s.xs.length + ys.length))).toList.length := by
      simp only [Array.length_toList, hzc, List.length_append]
      rw [← Nat.add_mul]
      congr 1
      omega
    refine ⟨⟨⟨s.xs ++ ys, some w.heap.size, c, (Builtin.zeroCells z.cells (c - (s.xs.length + ys.length))).toList, by simp, fun _ => hfit⟩, rfl⟩,
      w.drew.alloc (.cells (flat enc (s.xs ++ ys) ++ (Builtin.zeroCells z.cells (c - (s.xs.length + ys.length))).toList).toArray E), ?_, ?_⟩
    · simp [SL.val]
    · exact (Own.drop1 (hown.at ht)).new (.cells (flat enc (s.xs ++ ys) ++ (Builtin.zeroCells z.cells (c - (s.xs.length + ys.length))).toList).toArray E)

end app
end Go.Sep
end
section
namespace Go.Sep
open Go

/-! ## maps -/

structure Ent (α β : Type) where
  k : α
  v : β
  b : Nat

structure GMap (α β : Type) where
  es : List (Ent α β)
  ck : Nat
  nodup : (es.map (·.k)).Nodup
  inc : (es.map (·.b)).Pairwise (· < ·)
  lt : ∀ e ∈ es, e.b < ck

namespace GMap
variable {α β : Type} [DecidableEq α]
def empty : GMap α β := ⟨[], 0, by simp, by simp, by simp⟩
def pos (k : α) : List (Ent α β) → Option (Nat × β)
  | [] => none
  | e :: es => if e.k = k then some (0, e.v) else match pos k es with
    | some (i, v) => some (i + 1, v)
    | none => none
def get (m : GMap α β) (k : α) : Option β := (pos k m.es).map (·.2)
def kv (m : GMap α β) : List (α × β) := m.es.map fun e => (e.k, e.v)

theorem pos_none {k : α} : ∀ {es : List (Ent α β)}, pos k es = none ↔ k ∉ es.map (·.k)
  | [] => by simp [pos]
  | e :: es => by
    simp only [pos]
    split
    · rename_i h; simp [h]
    · rename_i h
      have := pos_none (k := k) (es := es)
      cases hp : pos k es with
      | none => rw [hp] at this; simp at this ⊢; exact ⟨fun h' => h h'.symm, this⟩
      | some x => rw [hp] at this; simp at this ⊢; intro _; exact this

theorem pos_some {k : α} : ∀ {es : List (Ent α β)} {i : Nat} {v : β}, pos k es = some (i, v) → ∃ e, es[i]? = some e ∧ e.k = k ∧ e.v = v
  | [], _, _, h => by simp [pos] at h
  | e :: es, i, v, h => by
    simp only [pos] at h
    split at h
    · rename_i hk; simp at h; obtain ⟨rfl, rfl⟩ := h; exact ⟨e, by simp, hk, rfl⟩
    · cases hp : pos k es with
      | none => rw [hp] at h; simp at h
      | some x =>
        rw [hp] at h
        simp at h
        obtain ⟨rfl, rfl⟩ := h
        obtain ⟨e', h1, h2⟩ := pos_some (i := x.1) (v := x.2) hp
        exact ⟨e', by simpa using h1, h2⟩

def upd (k : α) (v : β) (es : List (Ent α β)) : List (Ent α β) := es.map fun e => if e.k = k then { e with v := v } else e

theorem upd_keys (k : α) (v : β) (es : List (Ent α β)) : (upd k v es).map (·.k) = es.map (·.k) := by
  simp only [upd, List.map_map]; congr 1; funext e; simp only [Function.comp]; split <;> rfl

theorem upd_born (k : α) (v : β) (es : List (Ent α β)) : (upd k v es).map (·.b) = es.map (·.b) := by
  simp only [upd, List.map_map]; congr 1; funext e; simp only [Function.comp]; split <;> rfl

theorem modify_upd {k : α} {v : β} : ∀ {es : List (Ent α β)} {i : Nat} {u : β}, (es.map (·.k)).Nodup → pos k es = some (i, u) → es.modify i (fun e => { e with v := v }) = upd k v es
  | [], _, _, _, h => by simp [pos] at h
  | e :: es, i, u, hn, h => by
    simp only [List.map_cons, List.nodup_cons] at hn
    simp only [pos] at h
    split at h
    · rename_i hk
      simp at h; obtain ⟨rfl, rfl⟩ := h
      simp only [List.modify_zero_cons, upd, List.map_cons, if_pos hk]
      congr 1
      symm
      rw [List.map_congr_left (g := id)]
      · simp
      · intro e' he'
        have : e'.k ≠ k := fun h' => hn.1 (by rw [hk, ← h']; exact List.mem_map_of_mem he')
        simp [this]
    · rename_i hk
      cases hp : pos k es with
      | none => rw [hp] at h; simp at h
      | some x =>
        rw [hp] at h
        simp at h
        obtain ⟨rfl, rfl⟩ := h
        simp only [List.modify_succ_cons, upd, List.map_cons, if_neg hk]
        congr 1
        exact modify_upd (u := x.2) hn.2 hp

def del (m : GMap α β) (k : α) : GMap α β where
  es := m.es.filter fun e => e.k ≠ k
  ck := m.ck
  nodup := (List.filter_sublist.map _).nodup m.nodup
  inc := m.inc.sublist (List.filter_sublist.map _)
  lt := fun e he => m.lt e (List.mem_filter.1 he).1

theorem erase_del {k : α} : ∀ {es : List (Ent α β)} {i : Nat} {u : β}, (es.map (·.k)).Nodup → pos k es = some (i, u) → es.eraseIdx i = es.filter fun e => e.k ≠ k
  | [], _, _, _, h => by simp [pos] at h
  | e :: es, i, u, hn, h => by
    simp only [List.map_cons, List.nodup_cons] at hn
    simp only [pos] at h
    split at h
    · rename_i hk
      simp at h; obtain ⟨rfl, rfl⟩ := h
      simp only [List.eraseIdx_zero, List.tail_cons]
      rw [List.filter_cons_of_neg (by simp [hk])]
      symm
      rw [List.filter_eq_self]
      intro e' he'
      have : e'.k ≠ k := fun h' => hn.1 (by rw [hk, ← h']; exact List.mem_map_of_mem he')
      simp [this]
    · rename_i hk
      cases hp : pos k es with
      | none => rw [hp] at h; simp at h
      | some x =>
        rw [hp] at h
        simp at h
        obtain ⟨rfl, rfl⟩ := h
        simp only [List.eraseIdx_cons_succ]
        rw [List.filter_cons_of_pos (by simpa using hk)]
        congr 1
        exact erase_del (u := x.2) hn.2 hp

theorem filter_none {k : α} {es : List (Ent α β)} (h : pos k es = none) : es.filter (fun e => e.k ≠ k) = es := by
  rw [List.filter_eq_self]
  intro e he
  have := pos_none.1 h
  simp only [ne_eq, decide_not, Bool.not_eq_eq_eq_not, Bool.not_true, decide_eq_false_iff_not]
  intro hk; exact this (by rw [← hk]; exact List.mem_map_of_mem he)

def put (m : GMap α β) (k : α) (v : β) : GMap α β :=
  match h : pos k m.es with
  | some _ => ⟨upd k v m.es, m.ck, by rw [upd_keys]; exact m.nodup, by rw [upd_born]; exact m.inc, fun e he => by
      have : e.b ∈ m.es.map (·.b) := by rw [← upd_born k v]; exact List.mem_map_of_mem he
      obtain ⟨e', h1, h2⟩ := List.mem_map.1 this
      rw [← h2]; exact m.lt e' h1⟩
  | none => ⟨m.es ++ [⟨k, v, m.ck⟩], m.ck + 1, by
      rw [List.map_append, List.nodup_append]
      refine ⟨m.nodup, by simp, ?_⟩
      intro a ha b hb
      simp at hb; subst hb
      intro e; subst e
      exact pos_none.1 h ha, by
      rw [List.map_append, List.pairwise_append]
      refine ⟨m.inc, by simp, ?_⟩
      intro a ha b hb
      simp at hb; subst hb
      obtain ⟨e', h1, h2⟩ := List.mem_map.1 ha
      rw [← h2]; exact m.lt e' h1, fun e he => by
      simp at he
      rcases he with he | rfl
      · have := m.lt e he; omega
      · simp⟩

theorem put_some {m : GMap α β} {k : α} {v : β} {x : Nat × β} (h : pos k m.es = some x) : (m.put k v).es = upd k v m.es ∧ (m.put k v).ck = m.ck := by
  unfold put
  split
  · exact ⟨rfl, rfl⟩
  · rename_i h'; rw [h] at h'; simp at h'

theorem put_none {m : GMap α β} {k : α} {v : β} (h : pos k m.es = none) : (m.put k v).es = m.es ++ [⟨k, v, m.ck⟩] ∧ (m.put k v).ck = m.ck + 1 := by
  unfold put
  split
  · rename_i h'; rw [h] at h'; simp at h'
  · exact ⟨rfl, rfl⟩
end GMap

def encE {α β : Type} (kenc : α → Value) (venc : β → Value) (e : Ent α β) : MapEntry := ⟨kenc e.k, venc e.v, e.b⟩

/-- the block of a map -/
abbrev mapC {α β : Type} (r : Nat) (kenc : α → Value) (venc : β → Value) (m : GMap α β) : Chunk := [(r, .map (m.es.map (encE kenc venc)).toArray m.ck)]

class KeyEnc {α : Type} [DecidableEq α] (P : Program) (KT : TypeId) (kenc : α → Value) : Prop where
  check : ∀ k e w, (Instr.checkKey e 10000 KT (kenc k)).run P w = .ok () w
  stays : ∀ k w, (Instr.keyThatStays (kenc k) (kenc k)).run P w = .ok (kenc k) w
  find : ∀ {β : Type} (venc : β → Value) (k : α) (es : List (Ent α β)) (w : World),
    (Instr.findKey KT (kenc k) (es.map (encE kenc venc))).run P w = .ok ((GMap.pos k es).map fun x => (x.1, venc x.2)) w

section maps
variable {P : Program} {ops : Array Oper} {Q : Exit → Act → World → Prop} {n : Nat} {R : Fr} {rest : List Oper} {env : List (Nat × Value)} {pre : List Chunk}
  {T : TypeId} {pos : String} {aft : Array Edge} {d : Nat} {x y u : Operand} {α β : Type} [DecidableEq α] {kenc : α → Value} {venc : β → Value} {T1 KT VT : TypeId}

theorem run_getMap {w : World} {r : Nat} {m : GMap α β} (h : w.heap[r]? = some (.map (m.es.map (encE kenc venc)).toArray m.ck)) :
    (getObj r).run P w = .ok (.map (m.es.map (encE kenc venc)).toArray m.ck) w := by
  simp [getObj, Sem.run, h]

theorem V.lookup2 (kp : Nat) {r : Nat} {m : GMap α β} {k : α} {z : Value} [hu : TyU P T1 (.map KT VT)] [hk : KeyEnc P KT kenc] [hz : TyZ P VT z]
    (hx : ev env x = some (.map (some r))) (hy : ev env y = some (kenc k)) (hc : nthC kp pre = some (mapC r kenc venc m)) :
    OpR P (.lookup T1 x y true) T env pre (match m.get k with | some v => .tuple #[venc v, .bool true] | none => .tuple #[z, .bool false]) := fun _ _ _ _ ρ w hs ho => by
  have hg := run_getMap (P := P) (ho.nth hc)
  have hf := hk.find venc k m.es w
  simp only [execOp, hs x _ hx, hs y _ hy, Instr.lookup, GMap.get]
  simp [underlying, hu.u, hg, hk.check, hf]
  cases hp : GMap.pos k m.es with
  | none => simp [hz.z]
  | some v => simp

theorem V.lookup1 (kp : Nat) {r : Nat} {m : GMap α β} {k : α} {z : Value} [hu : TyU P T1 (.map KT VT)] [hk : KeyEnc P KT kenc] [hz : TyZ P VT z]
    (hx : ev env x = some (.map (some r))) (hy : ev env y = some (kenc k)) (hc : nthC kp pre = some (mapC r kenc venc m)) :
    OpR P (.lookup T1 x y false) T env pre (match m.get k with | some v => venc v | none => z) := fun _ _ _ _ ρ w hs ho => by
  have hg := run_getMap (P := P) (ho.nth hc)
  have hf := hk.find venc k m.es w
  simp only [execOp, hs x _ hx, hs y _ hy, Instr.lookup, GMap.get]
  simp [underlying, hu.u, hg, hk.check, hf]
  cases hp : GMap.pos k m.es with
  | none => simp [hz.z]
  | some v => simp

theorem V.lookup2n {k : α} {z : Value} [hu : TyU P T1 (.map KT VT)] [hk : KeyEnc P KT kenc] [hz : TyZ P VT z]
    (hx : ev env x = some (.map none)) (hy : ev env y = some (kenc k)) :
    OpV P (.lookup T1 x y true) T env (.tuple #[z, .bool false]) := fun _ _ _ _ ρ w hs => by
  have hf := hk.find (β := Unit) (fun _ => undef) k [] w
  simp only [List.map_nil, GMap.pos, Option.map_none] at hf
  simp only [execOp, hs x _ hx, hs y _ hy, Instr.lookup]
  simp [underlying, hu.u, hk.check, hf, hz.z]

theorem V.lookup1n {k : α} {z : Value} [hu : TyU P T1 (.map KT VT)] [hk : KeyEnc P KT kenc] [hz : TyZ P VT z]
    (hx : ev env x = some (.map none)) (hy : ev env y = some (kenc k)) :
    OpV P (.lookup T1 x y false) T env z := fun _ _ _ _ ρ w hs => by
  have hf := hk.find (β := Unit) (fun _ => undef) k [] w
  simp only [List.map_nil, GMap.pos, Option.map_none] at hf
  simp only [execOp, hs x _ hx, hs y _ hy, Instr.lookup]
  simp [underlying, hu.u, hk.check, hf, hz.z]

theorem heap_set (w : World) (r : Nat) (o : Obj) (h : r < w.heap.size) : (w.heap.setIfInBounds r o)[r]? = some o ∧ ∀ r', r' ≠ r → (w.heap.setIfInBounds r o)[r']? = w.heap[r']? :=
  ⟨by simp [h], fun r' hr => by rw [Array.getElem?_setIfInBounds_ne (Ne.symm hr)]⟩

theorem run_setMap {w : World} {r : Nat} {es : Array MapEntry} {ck : Nat} {o : Obj} (h : w.heap[r]? = some (.map es ck)) :
    (setObj r o).run P w = .ok () { w with heap := w.heap.setIfInBounds r o } := by
  simp [setObj, Sem.run, h]

theorem WL.mapUpdate (kp : Nat) {r : Nat} {m : GMap α β} {k : α} {v : β} {pre' : List Chunk} [hu : TyU P T1 (.map KT VT)] [hk : KeyEnc P KT kenc]
    (hx : ev env x = some (.map (some r))) (hy : ev env y = some (kenc k)) (hv : ev env u = some (venc v)) (hc : takeAt kp pre = some (mapC r kenc venc m, pre'))
    (kk : WL P ops Q n R rest env (mapC r kenc venc (m.put k v) :: pre')) :
    WL P ops Q n R (⟨none, .mapUpdate T1 x y u, T, pos, aft, none⟩ :: rest) env pre :=
  WL.effect (X := Unit) (fun _ => mapC r kenc venc (m.put k v) :: pre') (fun ρ w hs ho => by
    have h1 := ho.at hc
    have hh := h1.head
    have hg := run_getMap (P := P) hh
    have hf := hk.find venc k m.es w
    have hlt : r < w.heap.size := (Array.getElem?_eq_some_iff.1 hh).1
    simp only [execOp, hs x _ hx, hs y _ hy, hs u _ hv, Instr.mapUpdate]
    have hck := hk.check k false w
    cases hp : GMap.pos k m.es with
    | some iv =>
      rw [hp] at hf
      obtain ⟨e, he1, he2, he3⟩ := GMap.pos_some hp
      have hput := GMap.put_some (v := v) hp
      refine ⟨(), { w with heap := w.heap.setIfInBounds r (.map ((m.put k v).es.map (encE kenc venc)).toArray (m.put k v).ck) }, ?_, Own.set h1 (heap_set w r _ hlt).1 (heap_set w r _ hlt).2 ⟨rfl, rfl, rfl⟩⟩
      have hkey : ((((m.es.map (encE kenc venc)).toArray[iv.1]?).map (·.key)).getD (kenc k)) = kenc k := by
        simp [he1, encE, he2]
      have hmod : ((m.es.map (encE kenc venc)).modify iv.1 fun e => { key := kenc k, val := venc v, born := e.born }) = ((m.put k v).es.map (encE kenc venc)) := by
        rw [hput.1, ← GMap.modify_upd (v := v) m.nodup hp]
        apply List.ext_getElem?
        intro j
        simp only [List.getElem?_modify, List.getElem?_map]
        by_cases hj : iv.1 = j
        · subst hj; simp [he1, encE, he2]
        · simp [hj]
      simp [underlying, hu.u, hg, hck, hf, run_setMap hh]
      simp at hkey
      rw [hkey]
      simp [hk.stays, run_setMap hh]
      rw [hmod, hput.2]
    | none =>
      rw [hp] at hf
      have hput := GMap.put_none (v := v) hp
      refine ⟨(), { w with heap := w.heap.setIfInBounds r (.map ((m.put k v).es.map (encE kenc venc)).toArray (m.put k v).ck) }, ?_, Own.set h1 (heap_set w r _ hlt).1 (heap_set w r _ hlt).2 ⟨rfl, rfl, rfl⟩⟩
      simp [underlying, hu.u, hg, hck, hf, run_setMap hh]
      rw [hput.1, hput.2]
      simp [encE]) (fun _ => kk)

theorem execOp_delete {dst : Option Tmp} {gg : Option (Nat × Bool)} (ρ : Operand → Value) (T1 T2 : TypeId) (w : World) :
    (execOp ρ ⟨dst, .call ⟨.builtin .delete, #[x, y], #[T1, T2]⟩, T, pos, aft, gg⟩).run P w =
      ((Builtin.delete_ #[T1, T2] T #[ρ x, ρ y]).run P w).andThen fun v w' => .ok (.value v) w' := by
  simp [execOp, resolve, invoke, builtin]

/-- an operation whose value nobody keeps -/
theorem WL.effectV {op : Op} {v : Value} (pre' : List Chunk)
    (h : ∀ (ρ : Operand → Value) (w : World), Sees ρ env → Own w (pre ++ R) → ∃ w', (execOp ρ ⟨none, op, T, pos, aft, none⟩).run P w = .ok (.value v) w' ∧ Own w' (pre' ++ R))
    (k : WL P ops Q n R rest env pre') : WL P ops Q n R (⟨none, op, T, pos, aft, none⟩ :: rest) env pre := by
  intro a w ha hw
  simp only [wpL, Region.wanted, if_true]
  unfold Oper.wp
  obtain ⟨w', hr, ho⟩ := h a.eval w (fun x v hx => ha.ev hx) hw
  rw [hr]
  exact k _ _ ha ho

theorem WL.delete (kp : Nat) {T2 : TypeId} {r : Nat} {m : GMap α β} {k : α} {pre' : List Chunk} [hu : TyU P T1 (.map KT VT)] [hk : KeyEnc P KT kenc]
    (hx : ev env x = some (.map (some r))) (hy : ev env y = some (kenc k)) (hc : takeAt kp pre = some (mapC r kenc venc m, pre'))
    (kk : WL P ops Q n R rest env (mapC r kenc venc (m.del k) :: pre')) :
    WL P ops Q n R (⟨none, .call ⟨.builtin .delete, #[x, y], #[T1, T2]⟩, T, pos, aft, none⟩ :: rest) env pre :=
  WL.effectV (v := .tuple #[]) (mapC r kenc venc (m.del k) :: pre') (fun ρ w hs ho => by
    have h1 := ho.at hc
    have hh := h1.head
    have hg := run_getMap (P := P) hh
    have hf := hk.find venc k m.es w
    have hlt : r < w.heap.size := (Array.getElem?_eq_some_iff.1 hh).1
    refine ⟨{ w with heap := w.heap.setIfInBounds r (.map ((m.del k).es.map (encE kenc venc)).toArray m.ck) }, ?_, Own.set h1 (heap_set w r _ hlt).1 (heap_set w r _ hlt).2 ⟨rfl, rfl, rfl⟩⟩
    rw [execOp_delete, hs x _ hx, hs y _ hy]
    cases hp : GMap.pos k m.es with
    | some iv =>
      rw [hp] at hf
      have he : ((m.es.map (encE kenc venc)).eraseIdx iv.1) = ((m.del k).es.map (encE kenc venc)) := by
        have h2 := GMap.erase_del m.nodup hp
        simp only [GMap.del]
        rw [← h2]
        apply List.ext_getElem?
        intro j
        simp only [List.getElem?_eraseIdx, List.getElem?_map]
        split <;> simp
      simp [Builtin.delete_, underlying, hu.u, hg, hk.check, hf, run_setMap hh]
      rw [he]
    | none =>
      rw [hp] at hf
      have he : m.es = (m.del k).es := (GMap.filter_none hp).symm
      simp [Builtin.delete_, underlying, hu.u, hg, hk.check, hf, run_setMap hh]
      rw [← he]) kk

theorem WL.deleteN {T2 : TypeId} {k : α} [hu : TyU P T1 (.map KT VT)] [hk : KeyEnc P KT kenc]
    (hx : ev env x = some (.map none)) (hy : ev env y = some (kenc k)) (kk : WL P ops Q n R rest env pre) :
    WL P ops Q n R (⟨none, .call ⟨.builtin .delete, #[x, y], #[T1, T2]⟩, T, pos, aft, none⟩ :: rest) env pre :=
  WL.effectV (v := .tuple #[]) pre (fun ρ w hs ho => by
    refine ⟨w, ?_, ho⟩
    rw [execOp_delete, hs x _ hx, hs y _ hy]
    simp [Builtin.delete_, underlying, hu.u, hk.check]) kk

theorem WL.makeMap [hu : TyU P T1 (.map KT VT)] (kenc : α → Value) (venc : β → Value) (hd : Nat.blt d n = true)
    (k : ∀ r, WL P ops Q n R rest ((d, .map (some r)) :: env) (mapC r kenc venc (GMap.empty : GMap α β) :: pre)) :
    WL P ops Q n R (⟨some d, .makeMap T1 none, T, pos, aft, none⟩ :: rest) env pre :=
  WL.turn (X := Nat) (fun r => .map (some r)) (fun r => mapC r kenc venc (GMap.empty : GMap α β) :: pre) hd (fun ρ w hs ho => by
    refine ⟨w.heap.size, { w with heap := w.heap.push (.map #[] 0) }, ?_, ho.new _⟩
    simp [execOp, Instr.makeMap]) k

/-! ### keys -/

theorem findNow_none {kind : TypeDesc} {k : Value} {e : MapEntry} {es : List MapEntry} {i : Nat} (h : Instr.sameNow kind k e.key = none) : Instr.findNow kind k (e :: es) i = none := by
  simp [Instr.findNow, h]

instance intKey (KT : TypeId) [hu : TyU P KT (.int .i64)] : KeyEnc P KT (fun z : Int => Value.int .i64 z) where
  check := fun k e w => by
    have : Instr.checkKey e 10000 KT (.int .i64 k) = Instr.checkKey e (9999 + 1) KT (.int .i64 k) := rfl
    rw [this, Instr.checkKey]
    simp [underlying, hu.u]
  stays := fun k w => by
    have : Instr.sameBits 10000 (.int .i64 k) (.int .i64 k) = true := by simp [Instr.sameBits]
    simp [Instr.keyThatStays, this]
  find := fun {β} venc k es w => by
    have key : ∀ (es : List (Ent Int β)) (i : Nat), Instr.findNow (.int .i64) (.int .i64 k) (es.map (encE (fun z : Int => Value.int .i64 z) venc)) i = some ((GMap.pos k es).map fun x => (x.1 + i, venc x.2)) := by
      intro es
      induction es with
      | nil => intro i; simp [Instr.findNow, GMap.pos]
      | cons e es ih =>
        intro i
        simp only [List.map_cons, Instr.findNow, encE, Instr.sameNow, if_true, GMap.pos]
        by_cases he : e.k = k
        · simp [he]
        · have h1 : (k == e.k) = false := by simpa using fun h => he h.symm
          rw [h1]
          simp only [if_neg he]
          rw [ih (i + 1)]
          cases GMap.pos k es with
          | none => rfl
          | some x => simp; omega
    have := key es 0
    simp only [Instr.findKey, Sem.run_bind]
    simp [underlying, hu.u, this]

/-- keys whose equality is asked -/
theorem find_asking {α β : Type} [DecidableEq α] {KT : TypeId} {kenc : α → Value} {venc : β → Value} (hs : ∀ a b kind, P.underlying KT = some kind → Instr.sameNow kind (kenc a) (kenc b) = none)
    (hu : ∃ kind, P.underlying KT = some kind) (he : ∀ a b w, (Op.equal KT (kenc a) (kenc b)).run P w = .ok (decide (a = b)) w) (k : α) (es : List (Ent α β)) (w : World) :
    (Instr.findKey KT (kenc k) (es.map (encE kenc venc))).run P w = .ok ((GMap.pos k es).map fun x => (x.1, venc x.2)) w := by
  obtain ⟨kind, hk⟩ := hu
  have key : ∀ (es : List (Ent α β)) (i : Nat), (Instr.findAsking KT (kenc k) (es.map (encE kenc venc)) i).run P w = .ok ((GMap.pos k es).map fun x => (x.1 + i, venc x.2)) w := by
    intro es
    induction es with
    | nil => intro i; simp [Instr.findAsking, GMap.pos]
    | cons e es ih =>
      intro i
      simp only [List.map_cons, Instr.findAsking, Sem.run_bind, encE, he, Result.andThen_ok, GMap.pos]
      by_cases h : e.k = k
      · simp [h]
      · have h' : ¬ k = e.k := fun h' => h h'.symm
        simp only [h', decide_false, Bool.false_eq_true, if_false, h]
        rw [ih (i + 1)]
        cases GMap.pos k es with
        | none => rfl
        | some x => simp; omega
  simp only [Instr.findKey, Sem.run_bind]
  cases es with
  | nil => simp [underlying, hk, Instr.findNow, GMap.pos]
  | cons e es =>
    have h1 := findNow_none (kind := kind) (k := kenc k) (e := encE kenc venc e) (es := es.map (encE kenc venc)) (i := 0) (hs k e.k kind hk)
    have h2 := key (e :: es) 0
    simp only [List.map_cons] at h2 ⊢
    simp [underlying, hk, h1]
    rw [h2]
    cases GMap.pos k (e :: es) <;> simp

end maps
end Go.Sep
end
