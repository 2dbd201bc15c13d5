/- Part of the proof: SepD SepE SepF SepG. -/
import Derived.Test.YtjdjialgjmphjaaGreatS3
set_option linter.all false
section
namespace Go.Sep
open Go

/-- an operation that makes memory and needs none -/
structure POp where
  i : Nat
  o : Oper
  d : Nat
  Qp : Value → List Chunk → Prop

def AOp (P : Program) (n : Nat) (env₀ : List (Nat × Value)) (s : POp) : Prop :=
  ∀ (ops : Array Oper) (Q : Exit → Act → World → Prop) (R : Fr) (env : List (Nat × Value)) (pre : List Chunk), subEnv env₀ env →
    (∀ v A, s.Qp v A → WL P ops Q n R [] ((s.d, v) :: env) (A ++ pre)) → WL P ops Q n R [s.o] env pre

theorem perm_map_fst {α β : Type} : ∀ (S : List α) (D : List (α × β)), (D.map Prod.fst).Perm S → ∃ D' : List (α × β), D'.Perm D ∧ D'.map Prod.fst = S
  | [], D, h => ⟨[], by have := h.eq_nil; simp at this; rw [this], rfl⟩
  | a :: S, D, h => by
    have ha : a ∈ D.map Prod.fst := h.symm.subset (by simp)
    obtain ⟨⟨a', b⟩, hm, e⟩ := List.mem_map.1 ha
    simp at e; subst e
    obtain ⟨D1, D2, rfl⟩ := List.append_of_mem hm
    have hp : ((D1 ++ (a', b) :: D2).map Prod.fst).Perm (a' :: (D1 ++ D2).map Prod.fst) := by
      simp only [List.map_append, List.map_cons]
      exact List.perm_middle
    have h2 : ((D1 ++ D2).map Prod.fst).Perm S := (hp.symm.trans h).cons_inv
    obtain ⟨D', h3, h4⟩ := perm_map_fst S (D1 ++ D2) h2
    exact ⟨(a', b) :: D', (h3.cons _).trans List.perm_middle.symm, by simp [h4]⟩

theorem rdyE_mono {k : Nat} {r r' : Rem} (h : ∀ j, inRem j r = true → inRem j r' = true) {es : List Edge} (hr : rdyE k r' es = true) : rdyE k r es = true := by
  rw [rdyE_spec] at hr ⊢
  intro e he hs
  obtain ⟨h1, h2⟩ := hr e he hs
  refine ⟨h1, ?_⟩
  cases hb : inRem e.on r with
  | false => rfl
  | true => rw [h _ hb] at h2; simp at h2

section
variable {P : Program} {l : List Oper} {Q : Exit → Act → World → Prop} {n : Nat} {R : Fr} {rem rem' : Rem} {env₀ : List (Nat × Value)} {pre : List Chunk}

theorem WH.sub {Hc : List Chunk} {env env' : List (Nat × Value)} (hs : subEnv env' env) (k : WH P l Q n R Hc rem env' pre) : WH P l Q n R Hc rem env pre :=
  fun ok hns a w ha hw => k ok hns a w (ha.sub hs) hw

theorem WH.permRem {Hc : List Chunk} {r r' : Rem} {env : List (Nat × Value)} (hp : r'.Perm r) (k : WH P l Q n R Hc r' env pre) : WH P l Q n R Hc r env pre := fun ok hns a w ha hw => by
  have := k (ok.perm hp) hns a w ha hw
  have h1 : lst l.length r' = lst l.length r := by
    unfold lst
    congr 1
    apply List.map_congr_left
    intro j _
    rw [inRem_perm hp j]
  rw [hp.length_eq, h1] at this
  exact this

def rems (S : List POp) : Rem := S.map fun s => (s.i, s.o)

theorem par_go (S₀ : List POp) (hnd : (S₀.map (·.d)).Nodup) (hd : ∀ s ∈ S₀, lk s.d env₀ = none) (hdst : ∀ s ∈ S₀, isV s.o.op = false) (hA : ∀ s ∈ S₀, AOp P n env₀ s)
    (hrdy : ∀ s ∈ S₀, rdyE l.length (rems S₀ ++ rem') s.o.after.toList = true) (hwait : ∀ s ∈ S₀, noneRdy l.length ((s.i, s.o) :: rem') rem' = true)
    (k : ∀ vs : List (POp × (Value × List Chunk)), vs.map Prod.fst = S₀ → (∀ x ∈ vs, x.1.Qp x.2.1 x.2.2) →
      WH P l Q n R [] rem' (vs.map (fun x => (x.1.d, x.2.1)) ++ env₀) ((vs.map fun x => x.2.2).flatten ++ pre)) :
    ∀ (m : Nat) (S : List POp) (D : List (POp × (Value × List Chunk))) (env : List (Nat × Value)) (pr : List Chunk), S.length = m → (D.map Prod.fst ++ S).Perm S₀ → (∀ x ∈ D, x.1.Qp x.2.1 x.2.2) →
      subEnv env₀ env → (∀ x ∈ D, lk x.1.d env = some x.2.1) → pr.Perm ((D.map fun x => x.2.2).flatten ++ pre) → WH P l Q n R [] (rems S ++ rem') env pr
  | 0, S, D, env, pr, hm, hp, hQ, hsub, henv, hpr => by
    have hS : S = [] := List.length_eq_zero_iff.1 hm
    subst hS
    rw [List.append_nil] at hp
    obtain ⟨D', h1, h2⟩ := perm_map_fst S₀ D hp
    have hk := k D' h2 (fun x hx => hQ x (h1.mem_iff.1 hx))
    refine WH.sub (env' := D'.map (fun x => (x.1.d, x.2.1)) ++ env₀) ?_ (WH.perm (pre' := (D'.map fun x => x.2.2).flatten ++ pre) ?_ hk)
    · intro t v ht
      have key : ∀ L : List (POp × (Value × List Chunk)), (∀ x ∈ L, x ∈ D) → lk t (L.map (fun x => (x.1.d, x.2.1)) ++ env₀) = some v → lk t env = some v := by
        intro L
        induction L with
        | nil => intro _ h; exact hsub t v (by simpa using h)
        | cons x L ih =>
          intro hL h
          simp only [List.map_cons, List.cons_append, lk] at h
          split at h
          · rename_i he
            have : x.1.d = t := Nat.eq_of_beq_eq_true he
            simp at h; subst h; subst this
            exact henv x (hL x (by simp))
          · exact ih (fun y hy => hL y (List.mem_cons_of_mem _ hy)) h
      exact key D' (fun x hx => h1.mem_iff.1 hx) ht
    · have h3 : ((D'.map fun x => x.2.2).flatten ++ pre).Perm pr := by
        refine List.Perm.trans ?_ hpr.symm
        exact List.Perm.append_right _ ((h1.map _).flatten)
      exact h3.flatten
  | m + 1, S, D, env, pr, hm, hp, hQ, hsub, henv, hpr => by
    have hmem : ∀ s ∈ S, s ∈ S₀ := fun s hs => hp.mem_iff.1 (List.mem_append_right _ hs)
    have hin : ∀ j, inRem j (rems S ++ rem') = true → inRem j (rems S₀ ++ rem') = true := by
      intro j hj
      obtain ⟨o, ho⟩ := inRem_iff.1 hj
      simp only [List.mem_append] at ho
      rcases ho with ho | ho
      · obtain ⟨s, hs, e⟩ := List.mem_map.1 ho
        exact inRem_iff.2 ⟨o, List.mem_append_left _ (List.mem_map.2 ⟨s, hmem s hs, e⟩)⟩
      · exact inRem_iff.2 ⟨o, List.mem_append_right _ ho⟩
    have hrdyS : ∀ s ∈ S, rdyE l.length (rems S ++ rem') s.o.after.toList = true := fun s hs => rdyE_mono hin (hrdy s (hmem s hs))
    cases S with
    | nil => simp at hm
    | cons s₁ S₁ =>
      refine WH.any ?_ rfl ?_
      · cases hb : noneRdy l.length (rems (s₁ :: S₁) ++ rem') (rems (s₁ :: S₁) ++ rem') with
        | false => rfl
        | true =>
          have := noneRdy_spec hb s₁.i s₁.o (by simp [rems])
          rw [hrdyS s₁ (by simp)] at this; simp at this
      · intro i o rem₁ hperm hr ok hns
        have hmo : (i, o) ∈ rems (s₁ :: S₁) ++ rem' := hperm.mem_iff.2 (by simp)
        simp only [List.mem_append] at hmo
        rcases hmo with hmo | hmo
        · obtain ⟨s, hs, e⟩ := List.mem_map.1 hmo
          simp at e
          obtain ⟨rfl, rfl⟩ := e
          refine ⟨hdst s (hmem s hs), ?_⟩
          refine hA s (hmem s hs) _ _ R env pr hsub ?_
          intro v A hv
          obtain ⟨S1, S2, hS⟩ := List.append_of_mem hs
          have hpS : (s₁ :: S₁).Perm (s :: (S1 ++ S2)) := by rw [hS]; exact List.perm_middle
          have hprem : rem₁.Perm (rems (S1 ++ S2) ++ rem') := by
            have h1 : ((s.i, s.o) :: rem₁).Perm ((s.i, s.o) :: (rems (S1 ++ S2) ++ rem')) := hperm.symm.trans (by
              have h2 : (rems (s₁ :: S₁)).Perm (rems (s :: (S1 ++ S2))) := hpS.map _
              simpa [rems] using h2.append_right rem')
            exact h1.cons_inv
          have hnd' : ∀ x ∈ D, x.1.d ≠ s.d := by
            have h1 : ((D.map Prod.fst ++ (s₁ :: S₁)).map (·.d)).Nodup := ((hp.map (·.d)).nodup_iff).2 hnd
            rw [List.map_append, List.nodup_append] at h1
            intro x hx e
            exact h1.2.2 _ (List.mem_map_of_mem (List.mem_map_of_mem hx)) _ (List.mem_map_of_mem hs) e
          refine WL.nextH (ok := ok) (hns := hns) (by simp) (WH.permRem hprem.symm ?_)
          refine par_go S₀ hnd hd hdst hA hrdy hwait k m (S1 ++ S2) ((s, (v, A)) :: D) ((s.d, v) :: env) (A ++ pr) ?_ ?_ ?_ ?_ ?_ ?_
          · have := hpS.length_eq; simp at this hm ⊢; omega
          · have h1 : (D.map Prod.fst ++ (s :: (S1 ++ S2))).Perm S₀ := (List.Perm.append_left _ hpS.symm).trans hp
            have h2 : (s :: (D.map Prod.fst ++ (S1 ++ S2))).Perm (D.map Prod.fst ++ (s :: (S1 ++ S2))) := List.perm_middle.symm
            simpa using h2.trans h1
          · intro x hx; simp at hx; rcases hx with rfl | hx; exact hv; exact hQ x hx
          · intro t u ht
            simp only [lk]
            split
            · rename_i he
              have : s.d = t := Nat.eq_of_beq_eq_true he
              subst this
              rw [hd s (hmem s hs)] at ht; simp at ht
            · exact hsub t u ht
          · intro x hx
            simp at hx
            rcases hx with rfl | hx
            · simp [lk]
            · simp only [lk]
              have : Nat.beq s.d x.1.d = false := by
                cases hb : Nat.beq s.d x.1.d with
                | true => exact absurd (Nat.eq_of_beq_eq_true hb).symm (hnd' x hx)
                | false => rfl
              rw [this]
              exact henv x hx
          · simp only [List.map_cons, List.flatten_cons, List.append_assoc]
            exact List.Perm.append_left A hpr
        · have h1 := noneRdy_spec (hwait s₁ (hmem s₁ (by simp))) i o hmo
          have h2 : rdyE l.length ((s₁.i, s₁.o) :: rem') o.after.toList = true := rdyE_mono (r' := rems (s₁ :: S₁) ++ rem') (by
            intro j hj
            obtain ⟨o', ho'⟩ := inRem_iff.1 hj
            simp at ho'
            rcases ho' with ⟨rfl, rfl⟩ | ho'
            · exact inRem_iff.2 ⟨s₁.o, by simp [rems]⟩
            · exact inRem_iff.2 ⟨o', List.mem_append_right _ ho'⟩) hr
          rw [h1] at h2; simp at h2

/-- operations that make memory, in whatever order they come -/
theorem WH.par (S : List POp) (rem' : Rem) (hp : (rems S ++ rem').Perm rem) (hnd : (S.map (·.d)).Nodup) (hd : ∀ s ∈ S, lk s.d env₀ = none) (hdst : ∀ s ∈ S, isV s.o.op = false) (hA : ∀ s ∈ S, AOp P n env₀ s)
    (hrdy : ∀ s ∈ S, rdyE l.length (rems S ++ rem') s.o.after.toList = true) (hwait : ∀ s ∈ S, noneRdy l.length ((s.i, s.o) :: rem') rem' = true)
    (k : ∀ vs : List (POp × (Value × List Chunk)), vs.map Prod.fst = S → (∀ x ∈ vs, x.1.Qp x.2.1 x.2.2) →
      WH P l Q n R [] rem' (vs.map (fun x => (x.1.d, x.2.1)) ++ env₀) ((vs.map fun x => x.2.2).flatten ++ pre)) :
    WH P l Q n R [] rem env₀ pre :=
  WH.permRem hp (par_go S hnd hd hdst hA hrdy hwait k S.length S [] env₀ pre rfl (by simp) (by simp) (fun _ _ h => h) (by simp) (by simp))

end
end Go.Sep
end
section
namespace Go.Sep
open Go

/-- what a variable in memory holds -/
def LoadsTo (P : Program) (pre : List Chunk) (T : TypeId) (p v : Value) : Prop :=
  ∀ w, Has w pre → (do loadVar T (← asAddr p) : Sem Value).run P w = .ok v w

inductive ResM (P : Program) (env : List (Nat × Value)) (pre : List Chunk) : List ResultVar → List Value → Prop
  | nil : ResM P env pre [] []
  | tmp {t : Nat} {v : Value} {rs : List ResultVar} {vs : List Value} (hv : lk t env = some v) (k : ResM P env pre rs vs) : ResM P env pre (.tmp t :: rs) (v :: vs)
  | cell {c T : Nat} {p v : Value} {rs : List ResultVar} {vs : List Value} (hv : lk c env = some p) (hl : LoadsTo P pre T p v) (k : ResM P env pre rs vs) : ResM P env pre (.cell c T :: rs) (v :: vs)

theorem LoadsTo.one {P : Program} {pre : List Chunk} (kp : Nat) {T1 b o Tb : Nat} {l : List Value} {v : Value} [ht : TyS P T1 1 false]
    (hc : nthC kp pre = some (blk b Tb l)) (hv : getN o 1 l = some [v]) : LoadsTo P pre T1 (.pointer (some ⟨b, o, none⟩)) v := fun w ho => by
  have hb := ho.nth hc
  have h1 := (getN_get hv).2 0 (by omega)
  simp at h1
  have : w.cell? ⟨b, o, none⟩ = some v := by rw [cell_of hb]; exact h1
  simp [loadVar, ht.g, this, asAddr]

theorem LoadsTo.agg {P : Program} {pre : List Chunk} (kp : Nat) {T1 b o Tb m : Nat} {l vs : List Value} [ht : TyS P T1 m true]
    (hc : nthC kp pre = some (blk b Tb l)) (hv : getN o m l = some vs) : LoadsTo P pre T1 (.pointer (some ⟨b, o, none⟩)) (.agg vs.toArray) := fun w ho => by
  have := run_loadCells (P := P) (ho.nth hc) hv
  simp [loadVar, ht.g, ht.s, this, asAddr]

theorem run_resM {P : Program} {a : Act} {n : Nat} {env : List (Nat × Value)} {pre : List Chunk} (ha : Env a n env) (w : World) (hw : Has w pre) {rs : List ResultVar} {vs : List Value} (h : ResM P env pre rs vs) :
    (rs.mapM (fun r => (match r with
      | .tmp t => pure (a.tmps.getD t undef)
      | .cell c t => do loadVar t (← asAddr (a.tmps.getD c undef)) : Sem Value))).run P w = .ok vs w := by
  induction h with
  | nil => simp
  | tmp hv k ih =>
    simp only [List.mapM_cons, Sem.run_bind, Sem.run_pure, ha.get _ _ hv, Result.andThen_ok]
    rw [ih]
    simp
  | cell hv hl k ih =>
    simp only [List.mapM_cons, Sem.run_bind, ha.get _ _ hv]
    have := hl w hw
    simp only [Sem.run_bind] at this
    rw [this]
    simp only [Result.andThen_ok]
    rw [ih]
    simp

theorem run_resultsM {P : Program} {fn : Func} {a : Act} {n : Nat} {env : List (Nat × Value)} {pre : List Chunk} (ha : Env a n env) (w : World) (hw : Has w pre) {vs : List Value} (h : ResM P env pre fn.results.toList vs) :
    (results fn a.tmps).run P w = .ok (retV vs) w := by
  have := run_resM (P := P) ha w hw h
  unfold results
  rw [Array.mapM_eq_mapM_toList]
  simp only [Sem.run_bind, Sem.run_map]
  erw [this]
  simp only [Result.andThen_ok, Sem.run_pure]
  match vs with
  | [] => simp [retV]
  | [v] => simp [retV]
  | v :: u :: vs => simp [retV]

section
variable {P : Program} {fn : Func} {n : Nat} {R : Fr} {stk : List K} {env : List (Nat × Value)} {pre : List Chunk} {Qp : Value → List Chunk → Prop}

theorem WS.retM {vs : List Value} (ks : List Nat) {A B' : List Chunk} (hr : ResM P env pre fn.results.toList vs) (ht : takes ks pre = some (A, B')) (hq : Qp (retV vs) A) : WS P fn (RpOf Qp R) n R (.code .ret :: stk) env pre :=
  fun a w ha hw => wp_ret (after_ret stk a w ⟨ha.defers, retV vs, run_resultsM ha w hw.has hr, retV vs, A, hq, rfl, by
    have h1 := Own.takes hw ht
    have h2 : Own w (B' ++ (A ++ R)) := h1.swap
    exact Own.dropL B' h2⟩)

theorem V.lenSL {α : Type} {enc : α → List Value} {sz : Nat} {T T1 E : TypeId} {x : Operand} [hu : TyU P T1 (.slice E)] {s : SL enc sz} (hx : ev env x = some s.val) :
    OpV P (.call ⟨.builtin .len, #[x], #[T1]⟩) T env (.int .i64 s.xs.length) := V.lenS (by rw [hx, s.val_len])

theorem WL.storeSL {α : Type} {enc : α → List Value} {sz : Nat} {ops : Array Oper} {Q : Exit → Act → World → Prop} {rest : List Oper} {T : TypeId} {pos : String} {aft : Array Edge} {x y : Operand} (kp : Nat) {T1 b o Tb : Nat} {g : Bool} {l l' : List Value} {s : SL enc sz} {pre' : List Chunk} [ht : TyS P T1 1 g] (hx : ev env x = some (.pointer (some ⟨b, o, none⟩))) (hy : ev env y = some s.val)
    (hc : takeAt kp pre = some (blk b Tb l, pre')) (hv : setN o [s.val] l = some l')
    (k : WL P ops Q n R rest env (blk b Tb l' :: pre')) :
    WL P ops Q n R (⟨none, .store T1 x y, T, pos, aft, none⟩ :: rest) env pre := by
  have e : cellsV s.val = [s.val] := by rw [s.val_len]; rfl
  refine WL.store kp (m := 1) hx hy hc (by rw [e]; rfl) (by rw [e, s.val_len]; rfl) (by rw [e]; exact hv) k
end
end Go.Sep
end
section
namespace Go.Sep
open Go

section
variable {P : Program} {fn : Func} {ops : Array Oper} {Q : Exit → Act → World → Prop} {n : Nat} {R : Fr} {stk : List K} {rest : List Oper} {env : List (Nat × Value)} {pre : List Chunk} {T T1 E : TypeId} {pos : String} {aft : Array Edge} {x y u : Operand} {d : Nat}

theorem V.indexStr {s : ByteArray} {i : Int} {k1 : IntKind} [hu : TyU P T1 .string] (hx : ev env x = some (.string s)) (hy : ev env y = some (.int k1 i)) (h0 : 0 ≤ i) (hi : i.toNat < s.size) :
    OpV P (.index T1 x y) T env (.int .u8 ((s[i.toNat]'hi).toNat : Nat)) := fun _ _ _ _ ρ w hs => by
  have e : s[i.toNat]? = some (s[i.toNat]'hi) := getElem?_pos s i.toNat hi
  simp [execOp, hs x _ hx, hs y _ hy, Instr.index, asIntOf, underlying, hu.u, h0, e]

/-! ## elements of a row -/

theorem flat_split {α : Type} (enc : α → List Value) (xs : List α) (i : Nat) (x : α) (h : xs[i]? = some x) :
    flat enc xs = flat enc (xs.take i) ++ (enc x ++ flat enc (xs.drop (i + 1))) := by
  obtain ⟨hlt, he⟩ := List.getElem?_eq_some_iff.1 h
  conv => lhs; rw [show xs = xs.take i ++ x :: xs.drop (i + 1) from by rw [← he]; simp]
  rw [flat_append]
  rfl

theorem flat_get {α : Type} {enc : α → List Value} {sz : Nat} [h : Enc enc sz] (xs : List α) (junk : List Value) (i : Nat) (x : α) (hx : xs[i]? = some x) :
    getN (i * sz) sz (flat enc xs ++ junk) = some (enc x) := by
  have hlt := (List.getElem?_eq_some_iff.1 hx).1
  rw [flat_split enc xs i x hx, List.append_assoc, getN_drop _ _ _ _ (by rw [flat_length (enc := enc)]; simp only [List.length_take]; rw [Nat.min_eq_left (by omega)]), List.append_assoc]
  exact getN_append_left _ _ _ (h.len x)

theorem flat_set {α : Type} {enc : α → List Value} {sz : Nat} [h : Enc enc sz] (xs : List α) (junk : List Value) (i : Nat) (x : α) (hi : i < xs.length) :
    setN (i * sz) (enc x) (flat enc xs ++ junk) = some (flat enc (xs.set i x) ++ junk) := by
  have h1 : xs[i]? = some xs[i] := by simp
  have h2 : (xs.set i x)[i]? = some x := by simp [hi]
  rw [flat_split enc xs i _ h1, flat_split enc (xs.set i x) i x h2, List.append_assoc,
    setN_drop _ _ _ _ (by rw [flat_length (enc := enc)]; simp only [List.length_take]; rw [Nat.min_eq_left (by omega)]), List.append_assoc,
    setN_zero _ _ (by simp [h.len])]
  simp only [Option.map_some, List.append_assoc]
  rw [List.take_set_of_le (Nat.le_refl i), List.drop_set_of_lt (by omega)]
  congr 3
  rw [h.len, ← h.len xs[i]]
  simp

/-! ## a map that may be nil -/

structure MP (α β : Type) [DecidableEq α] where
  r : Option Nat
  m : GMap α β
  nil : r = none → m.es = []

namespace MP
variable {α β : Type} [DecidableEq α] {kenc : α → Value} {venc : β → Value}
def val (s : MP α β) : Value := .map s.r
def ch (kenc : α → Value) (venc : β → Value) (s : MP α β) : Chunk := match s.r with
  | none => []
  | some r => mapC r kenc venc s.m
def get (s : MP α β) (k : α) : Option β := s.m.get k
end MP

variable {α β : Type} [DecidableEq α] {kenc : α → Value} {venc : β → Value} {KT VT : TypeId}

theorem V.lookup2M (kp : Nat) {s : MP α β} {k : α} {z : Value} [hu : TyU P T1 (.map KT VT)] [hk : KeyEnc P KT kenc] [hz : TyZ P VT z]
    (hx : ev env x = some s.val) (hy : ev env y = some (kenc k)) (hc : nthC kp pre = some (s.ch kenc venc)) :
    OpR P (.lookup T1 x y true) T env pre (match s.get k with | some v => .tuple #[venc v, .bool true] | none => .tuple #[z, .bool false]) := by
  obtain ⟨r, m, hn⟩ := s
  cases r with
  | none =>
    have e : GMap.get m k = none := by simp [GMap.get, hn rfl, GMap.pos]
    simp only [MP.get, e]
    exact fun _ _ _ _ ρ w hs _ => V.lookup2n hx hy _ _ _ _ ρ w hs
  | some r => exact V.lookup2 kp hx hy hc

theorem V.lookup1M (kp : Nat) {s : MP α β} {k : α} {z : Value} [hu : TyU P T1 (.map KT VT)] [hk : KeyEnc P KT kenc] [hz : TyZ P VT z]
    (hx : ev env x = some s.val) (hy : ev env y = some (kenc k)) (hc : nthC kp pre = some (s.ch kenc venc)) :
    OpR P (.lookup T1 x y false) T env pre (match s.get k with | some v => venc v | none => z) := by
  obtain ⟨r, m, hn⟩ := s
  cases r with
  | none =>
    have e : GMap.get m k = none := by simp [GMap.get, hn rfl, GMap.pos]
    simp only [MP.get, e]
    exact fun _ _ _ _ ρ w hs _ => V.lookup1n hx hy _ _ _ _ ρ w hs
  | some r => exact V.lookup1 kp hx hy hc

def MP.del (s : MP α β) (k : α) : MP α β := ⟨s.r, s.m.del k, fun h => by simp [GMap.del, s.nil h]⟩

theorem WL.deleteM (kp : Nat) {T2 : TypeId} {s : MP α β} {k : α} {pre' : List Chunk} [hu : TyU P T1 (.map KT VT)] [hk : KeyEnc P KT kenc]
    (hx : ev env x = some s.val) (hy : ev env y = some (kenc k)) (hc : takeAt kp pre = some (s.ch kenc venc, pre'))
    (kk : WL P ops Q n R rest env ((s.del k).ch kenc venc :: pre')) :
    WL P ops Q n R (⟨none, .call ⟨.builtin .delete, #[x, y], #[T1, T2]⟩, T, pos, aft, none⟩ :: rest) env pre := by
  obtain ⟨r, m, hn⟩ := s
  cases r with
  | none =>
    refine WL.deleteN hx hy ?_
    refine WL.perm ?_ kk
    have := (takeAt_perm kp pre _ pre' hc).flatten
    simpa [MP.ch, MP.del] using this
  | some r => exact WL.delete kp hx hy hc kk

end
end Go.Sep
end
section
namespace Go.Sep
open Go
section
variable {P : Program} {fn : Func} {Rp : Ending → World → Prop} {l : List Oper} {n : Nat} {R : Fr} {env : List (Nat × Value)} {pre : List Chunk} {stk : List K}

/-- what is held, named by its places -/
theorem WS.regionK (ks : List Nat) {Hc B : List Chunk} {id : Nat} (_ht : takes ks pre = some (Hc, B)) (hm : P.follows .mixedOrders = true) (hns : noSel l = true) (k : WH P l (after P fn Rp stk) n R Hc (number 0 l) env pre) :
    WS P fn Rp n R (.code (.region id l.toArray true) :: stk) env pre := WS.regionD Hc hm hns k

/-- all is held -/
theorem WS.regionA {id : Nat} (hm : P.follows .mixedOrders = true) (hns : noSel l = true) (k : WH P l (after P fn Rp stk) n R pre (number 0 l) env pre) :
    WS P fn Rp n R (.code (.region id l.toArray true) :: stk) env pre := WS.regionD pre hm hns k
end
end Go.Sep
end
