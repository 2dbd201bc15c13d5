/- Part of the proof: Sep1 Sep2 Sep3 Sep4. -/
import Derived.Calls
import Derived.LoopN
import Derived.Laws.Sem
import Derived.Laws.World
set_option linter.all false
section
namespace Go.Sep
open Go

abbrev Chunk := List (Nat × Obj)

/-- what stays: memory beside, and what is outside of memory -/
structure Fr where
  L : List Chunk
  os : Os
  tape : Nat → Question → Nat
  output : Array (Nat × ByteArray)

instance : HAppend (List Chunk) Fr Fr := ⟨fun l r => ⟨l ++ r.L, r.os, r.tape, r.output⟩⟩
theorem Fr.app_L (l : List Chunk) (r : Fr) : (l ++ r).L = l ++ r.L := rfl
theorem Fr.assoc (a b : List Chunk) (r : Fr) : (a ++ b) ++ r = a ++ (b ++ r) := by
  show (⟨(a ++ b) ++ r.L, r.os, r.tape, r.output⟩ : Fr) = ⟨a ++ (b ++ r.L), r.os, r.tape, r.output⟩
  rw [List.append_assoc]

def SameX (w w' : World) : Prop := w'.os = w.os ∧ w'.tape = w.tape ∧ w'.output = w.output
theorem SameX.rfl' {w : World} : SameX w w := ⟨rfl, rfl, rfl⟩
theorem SameX.trans {a b c : World} (h : SameX a b) (k : SameX b c) : SameX a c := ⟨k.1.trans h.1, k.2.1.trans h.2.1, k.2.2.trans h.2.2⟩

structure Own (w : World) (F : Fr) : Prop where
  nd : (F.L.flatten.map Prod.fst).Nodup
  hp : ∀ x ∈ F.L.flatten, w.heap[x.1]? = some x.2
  ex : w.os = F.os ∧ w.tape = F.tape ∧ w.output = F.output

theorem Own.perm {w : World} {L L' : List Chunk} {R : Fr} (h : Own w (L ++ R)) (p : L'.Perm L) : Own w (L' ++ R) := by
  have pf : (L' ++ R.L).flatten.Perm (L ++ R.L).flatten := (p.append_right R.L).flatten
  exact ⟨((pf.map Prod.fst).nodup_iff).2 h.1, fun x hx => h.2 x (pf.mem_iff.1 hx), h.3⟩

theorem Own.drop1 {w : World} {c : Chunk} {L : Fr} (h : Own w ([c] ++ L)) : Own w L := by
  refine ⟨?_, fun x hx => h.2 x (by simp [Fr.app_L, hx]), h.3⟩
  have := h.1
  simp only [Fr.app_L, List.singleton_append, List.flatten_cons, List.map_append] at this
  exact (List.nodup_append.1 this).2.1

theorem Own.heap {w w' : World} {L : Fr} (h : Own w L) (e : w'.heap = w.heap) (sx : SameX w w') : Own w' L :=
  ⟨h.1, fun x hx => by rw [e]; exact h.2 x hx, sx.1.trans h.3.1, sx.2.1.trans h.3.2.1, sx.2.2.trans h.3.2.2⟩

theorem Own.lt {w : World} {L : Fr} (h : Own w L) {x : Nat × Obj} (hx : x ∈ L.L.flatten) : x.1 < w.heap.size := by
  have := h.2 x hx
  exact (Array.getElem?_eq_some_iff.1 this).1

theorem Own.new {w : World} {L : Fr} (h : Own w L) (o : Obj) :
    Own { w with heap := w.heap.push o } ([[(w.heap.size, o)]] ++ L) := by
  refine ⟨?_, ?_, h.3⟩
  · simp only [Fr.app_L, List.flatten_cons, List.map_append, List.map_cons, List.map_nil, List.singleton_append, List.nodup_cons]
    refine ⟨?_, h.1⟩
    intro hm
    obtain ⟨x, hx, e⟩ := List.mem_map.1 hm
    have := h.lt hx
    omega
  · intro x hx
    simp only [Fr.app_L, List.flatten_cons, List.singleton_append, List.mem_cons] at hx
    rcases hx with rfl | hx
    · simp
    · have := h.lt hx
      rw [Array.getElem?_push]
      rw [if_neg (by omega)]
      exact h.2 x hx

/-- a write to a block that is owned -/
theorem Own.set {w w' : World} {b : Nat} {o o' : Obj} {L : Fr} (h : Own w ([[(b, o)]] ++ L))
    (hb : w'.heap[b]? = some o') (hf : ∀ r, r ≠ b → w'.heap[r]? = w.heap[r]?) (sx : SameX w w') : Own w' ([[(b, o')]] ++ L) := by
  have hn := h.1
  simp only [Fr.app_L, List.flatten_cons, List.map_append, List.map_cons, List.map_nil, List.singleton_append, List.nodup_cons] at hn
  refine ⟨?_, ?_, sx.1.trans h.3.1, sx.2.1.trans h.3.2.1, sx.2.2.trans h.3.2.2⟩
  · simp only [Fr.app_L, List.flatten_cons, List.map_append, List.map_cons, List.map_nil, List.singleton_append, List.nodup_cons]
    exact hn
  · intro x hx
    simp only [Fr.app_L, List.flatten_cons, List.singleton_append, List.mem_cons] at hx
    rcases hx with rfl | hx
    · exact hb
    · have hne : x.1 ≠ b := by
        intro e
        exact hn.1 (List.mem_map.2 ⟨x, hx, e⟩)
      rw [hf _ hne]
      exact h.2 x (by simp [Fr.app_L, hx])

theorem Own.head {w : World} {b : Nat} {o : Obj} {L : Fr} (h : Own w ([[(b, o)]] ++ L)) : w.heap[b]? = some o :=
  h.2 (b, o) (by simp [Fr.app_L])

/-- positions -/
def takeAt : Nat → List Chunk → Option (Chunk × List Chunk)
  | _, [] => none
  | 0, c :: L => some (c, L)
  | k + 1, c :: L => match takeAt k L with
    | some (d, L') => some (d, c :: L')
    | none => none

theorem takeAt_perm : ∀ (k : Nat) (L : List Chunk) (c : Chunk) (L' : List Chunk), takeAt k L = some (c, L') → (c :: L').Perm L
  | _, [], _, _, h => by simp [takeAt] at h
  | 0, c :: L, d, L', h => by simp [takeAt] at h; obtain ⟨rfl, rfl⟩ := h; exact .refl _
  | k + 1, c :: L, d, L', h => by
    simp only [takeAt] at h
    split at h
    · rename_i d' L'' he
      simp at h
      obtain ⟨rfl, rfl⟩ := h
      exact (List.Perm.swap c d' L'').trans ((takeAt_perm k L d' L'' he).cons c)
    · simp at h

/-- several positions, each of what the ones ahead have left -/
def takes : List Nat → List Chunk → Option (List Chunk × List Chunk)
  | [], L => some ([], L)
  | k :: ks, L => match takeAt k L with
    | some (c, L') => match takes ks L' with
      | some (A, B) => some (c :: A, B)
      | none => none
    | none => none

theorem takes_perm : ∀ (ks : List Nat) (L A B : List Chunk), takes ks L = some (A, B) → (A ++ B).Perm L
  | [], L, A, B, h => by simp [takes] at h; obtain ⟨rfl, rfl⟩ := h; simp
  | k :: ks, L, A, B, h => by
    simp only [takes] at h
    split at h
    · rename_i c L' he
      split at h
      · rename_i A' B' he'
        simp at h
        obtain ⟨rfl, rfl⟩ := h
        have := takes_perm ks L' A' B' he'
        exact (this.cons c).trans (takeAt_perm k L c L' he)
      · simp at h
    · simp at h

theorem Own.takes {w : World} {ks : List Nat} {L A B : List Chunk} {R : Fr} (h : Own w (L ++ R)) (ht : takes ks L = some (A, B)) :
    Own w (A ++ (B ++ R)) := by
  rw [← Fr.assoc]
  exact h.perm (takes_perm ks L A B ht)

/-- frames -/
def lk (t : Nat) : List (Nat × Value) → Option Value
  | [] => none
  | (t', v) :: r => match Nat.beq t' t with
    | true => some v
    | false => lk t r

structure Env (a : Act) (n : Nat) (env : List (Nat × Value)) : Prop where
  defers : a.defers = []
  size : a.tmps.size = n
  get : ∀ t v, lk t env = some v → a.tmps.getD t undef = v

def ev (env : List (Nat × Value)) : Operand → Option Value
  | .tmp t => lk t env
  | .const v => some v
  | .global g => some (.pointer (some ⟨g, 0, none⟩))
  | .func f => some (.func (.func f) #[] #[])

theorem Env.ev {a : Act} {n : Nat} {env : List (Nat × Value)} (h : Env a n env) {x : Operand} {v : Value} (hx : ev env x = some v) :
    a.eval x = v := by
  cases x with
  | tmp t => exact h.get t v hx
  | const v' => simp [Sep.ev] at hx; simpa [Act.eval] using hx
  | global g => simp [Sep.ev] at hx; simpa [Act.eval] using hx
  | func f => simp [Sep.ev] at hx; simpa [Act.eval] using hx

theorem Env.put {a : Act} {n : Nat} {env : List (Nat × Value)} (h : Env a n env) {d : Nat} {v : Value} (hd : Nat.blt d n = true) :
    Env (a.put (some d) v) n ((d, v) :: env) := by
  refine ⟨by simp [Act.put, h.defers], by simp [Act.put, h.size], ?_⟩
  intro t u ht
  simp only [lk] at ht
  have hd' : d < a.tmps.size := by rw [h.size]; simpa using hd
  split at ht
  · rename_i he
    have : d = t := Nat.eq_of_beq_eq_true he
    subst this
    simp at ht
    subst ht
    simp [Act.put, Array.getD, hd']
  · rename_i he
    have hne : d ≠ t := by
      intro e; subst e; simp at he
    have := h.get t u ht
    simp only [Act.put]
    rw [← this]
    simp only [Array.getD_eq_getD_getElem?]
    rw [Array.getElem?_setIfInBounds_ne hne]

theorem Env.put_none {a : Act} {n : Nat} {env : List (Nat × Value)} (h : Env a n env) {v : Value} : Env (a.put none v) n env := h

/-- what is left of a frame: pairs that are found in it -/
def subEnv (env' env : List (Nat × Value)) : Prop := ∀ t v, lk t env' = some v → lk t env = some v

theorem Env.sub {a : Act} {n : Nat} {env env' : List (Nat × Value)} (h : Env a n env) (hs : subEnv env' env) : Env a n env' :=
  ⟨h.defers, h.size, fun t v ht => h.get t v (hs t v ht)⟩

def restr (env : List (Nat × Value)) : List Nat → Option (List (Nat × Value))
  | [] => some []
  | t :: ts => match lk t env with
    | some v => match restr env ts with
      | some r => some ((t, v) :: r)
      | none => none
    | none => none

theorem restr_sub (env : List (Nat × Value)) : ∀ (ts : List Nat) (r : List (Nat × Value)), restr env ts = some r → subEnv r env
  | [], r, h => by simp [restr] at h; subst h; intro t v ht; simp [lk] at ht
  | t :: ts, r, h => by
    simp only [restr] at h
    split at h
    · rename_i v hv
      split at h
      · rename_i r' hr
        simp at h
        subst h
        intro t' v' ht'
        simp only [lk] at ht'
        split at ht'
        · rename_i he
          have : t = t' := Nat.eq_of_beq_eq_true he
          subst this
          simp at ht'; subst ht'; exact hv
        · exact restr_sub env ts r' hr t' v' ht'
      · simp at h
    · simp at h

end Go.Sep
end
section
namespace Go.Sep
open Go

/-! ## the stack of what is still to be run -/

inductive K where
  | code (c : Code)
  | blk (id : Nat)
  | pred (X : Act → World → Prop)

def after (P : Program) (fn : Func) (Rp : Ending → World → Prop) : List K → Exit → Act → World → Prop
  | [] => bodyPost P fn Rp
  | .code c :: k => Exit.then (c.wp P (after P fn Rp k)) (after P fn Rp k)
  | .blk id :: k => Exit.inBlock id (after P fn Rp k)
  | .pred X :: k => Exit.then X (after P fn Rp k)

def WS (P : Program) (fn : Func) (Rp : Ending → World → Prop) (n : Nat) (R : Fr) (stk : List K) (env : List (Nat × Value)) (pre : List Chunk) : Prop :=
  ∀ a w, Env a n env → Own w (pre ++ R) → after P fn Rp stk .normal a w

def wpL (P : Program) (ops : Array Oper) (Q : Exit → Act → World → Prop) : List Oper → Act → World → Prop
  | [], a, w => Q .normal a w
  | o :: rest, a, w => if Region.wanted o (yielded ops a.tmps) then o.wp P a w (wpL P ops Q rest) Q else wpL P ops Q rest (a.put o.dst undef) w

theorem wpOps_of_wpL {P : Program} {ops : Array Oper} {Q : Exit → Act → World → Prop} : ∀ (idx : List Nat) (l : List Oper) (a : Act) (w : World),
    idx.map (ops[·]?) = l.map some → wpL P ops Q l a w → wpOps P ops Q idx a w
  | [], l, a, w, hl, h => by
    cases l with
    | nil => exact h
    | cons _ _ => simp at hl
  | i :: idx, l, a, w, hl, h => by
    cases l with
    | nil => simp at hl
    | cons o l =>
      simp only [List.map_cons, List.cons.injEq] at hl
      obtain ⟨ho, hl⟩ := hl
      simp only [wpL] at h
      have e : wpOps P ops Q (i :: idx) a w =
        (if Region.wanted o (yielded ops a.tmps) then o.wp P a w (wpOps P ops Q idx) Q ∨ (o.asks P a w ∧ LetsOut Q)
          else wpOps P ops Q idx (a.put o.dst undef) w) := by
        simp only [wpOps, ho]
      rw [e]
      by_cases hw : Region.wanted o (yielded ops a.tmps) = true
      · rw [if_pos hw] at h ⊢
        left
        unfold Oper.wp at h ⊢
        revert h
        generalize (execOp a.eval o).run P w = r
        intro h
        unfold Oper.upon at h ⊢
        split at h
        · exact wpOps_of_wpL idx l _ _ hl h
        · exact wpOps_of_wpL idx l _ _ hl h
        · exact wpOps_of_wpL idx l _ _ hl h
        · refine h.mono ?_
          intro e w'' he
          cases e with
          | returned v => exact wpOps_of_wpL idx l _ _ hl he
          | panicked chain => exact he
          | outgrown => exact he
        · refine h.mono ?_
          intro v w'' he
          exact wpOps_of_wpL idx l _ _ hl he
        · exact h
        · exact h.elim
      · rw [if_neg hw] at h ⊢
        exact wpOps_of_wpL idx l _ _ hl h

theorem range_map_toList (ops : Array Oper) : (List.range ops.size).map (ops[·]?) = ops.toList.map some := by
  apply List.ext_getElem
  · simp
  · intro i h1 h2
    simp at h1
    simp [h1]

def WL (P : Program) (ops : Array Oper) (Q : Exit → Act → World → Prop) (n : Nat) (R : Fr) (l : List Oper) (env : List (Nat × Value)) (pre : List Chunk) : Prop :=
  ∀ a w, Env a n env → Own w (pre ++ R) → wpL P ops Q l a w

section stack
variable {P : Program} {fn : Func} {Rp : Ending → World → Prop} {n : Nat} {R : Fr} {stk : List K} {env : List (Nat × Value)} {pre : List Chunk}

theorem WS.seq {x y : Code} (h : WS P fn Rp n R (.code x :: .code y :: stk) env pre) : WS P fn Rp n R (.code (.seq x y) :: stk) env pre :=
  fun a w ha hw => wp_seq (h a w ha hw)

theorem WS.skip (h : WS P fn Rp n R stk env pre) : WS P fn Rp n R (.code .skip :: stk) env pre :=
  fun a w ha hw => wp_skip (h a w ha hw)

theorem WS.block {id : Nat} {c : Code} (h : WS P fn Rp n R (.code c :: .blk id :: stk) env pre) : WS P fn Rp n R (.code (.block id c) :: stk) env pre :=
  fun a w ha hw => wp_block (h a w ha hw)

theorem WS.blk {id : Nat} (h : WS P fn Rp n R stk env pre) : WS P fn Rp n R (.blk id :: stk) env pre :=
  fun a w ha hw => h a w ha hw

def popE (id : Nat) : List K → Option (List K)
  | [] => none
  | .code _ :: k => popE id k
  | .pred _ :: k => popE id k
  | .blk id' :: k => match Nat.beq id id' with
    | true => some k
    | false => popE id k

theorem after_exit {id : Nat} : ∀ (stk k : List K) (a : Act) (w : World), popE id stk = some k → after P fn Rp k .normal a w → after P fn Rp stk (.exit id) a w
  | [], _, _, _, h, _ => by simp [popE] at h
  | .code _ :: stk, k, a, w, h, h' => by
    simp only [popE] at h
    exact after_exit stk k a w h h'
  | .pred _ :: stk, k, a, w, h, h' => by
    simp only [popE] at h
    exact after_exit stk k a w h h'
  | .blk id' :: stk, k, a, w, h, h' => by
    simp only [popE] at h
    split at h
    · rename_i he
      have : id = id' := Nat.eq_of_beq_eq_true he
      simp at h
      subst h
      simp only [after, Exit.inBlock, this, if_true]
      exact h'
    · rename_i he
      have hne : id ≠ id' := by
        intro e; subst e; simp at he
      simp only [after, Exit.inBlock, if_neg hne]
      exact after_exit stk k a w h h'

theorem WS.exit {id : Nat} {k : List K} (hp : popE id stk = some k) (h : WS P fn Rp n R k env pre) : WS P fn Rp n R (.code (.exit id) :: stk) env pre :=
  fun a w ha hw => wp_exit (after_exit stk k a w hp (h a w ha hw))

theorem after_ret : ∀ (stk : List K) (a : Act) (w : World), bodyPost P fn Rp .ret a w → after P fn Rp stk .ret a w
  | [], _, _, h => h
  | .code _ :: stk, a, w, h => by simp only [after, Exit.then]; exact after_ret stk a w h
  | .blk _ :: stk, a, w, h => by simp only [after, Exit.inBlock]; exact after_ret stk a w h
  | .pred _ :: stk, a, w, h => by simp only [after, Exit.then]; exact after_ret stk a w h

theorem WS.cond {c : Operand} {x y : Code} {b : Bool} (hc : ev env c = some (.bool b)) (ht : b = true → WS P fn Rp n R (.code x :: stk) env pre)
    (hf : b = false → WS P fn Rp n R (.code y :: stk) env pre) : WS P fn Rp n R (.code (.cond c x y) :: stk) env pre :=
  fun a w ha hw => wp_cond_split (ha.ev hc) (fun e => ht e a w ha hw) (fun e => hf e a w ha hw)

theorem WS.region {id : Nat} {l : List Oper} (h : WL P l.toArray (after P fn Rp stk) n R l env pre) : WS P fn Rp n R (.code (.region id l.toArray false) :: stk) env pre :=
  fun a w ha hw => wp_region (wpOps_of_wpL _ _ _ _ (by simpa using range_map_toList l.toArray) (h a w ha hw))

theorem WL.done {ops : Array Oper} (h : WS P fn Rp n R stk env pre) : WL P ops (after P fn Rp stk) n R [] env pre :=
  fun a w ha hw => h a w ha hw

/-- only what is found is kept of the frame -/
theorem WS.keep (ts : List Nat) {env' : List (Nat × Value)} (hr : restr env ts = some env') (h : WS P fn Rp n R stk env' pre) : WS P fn Rp n R stk env pre :=
  fun a w ha hw => h a w (ha.sub (restr_sub env ts env' hr)) hw

theorem WS.sub {env' : List (Nat × Value)} (hr : subEnv env' env) (h : WS P fn Rp n R stk env' pre) : WS P fn Rp n R stk env pre :=
  fun a w ha hw => h a w (ha.sub hr) hw

theorem Own.dropL {w : World} {L : Fr} : ∀ (B : List Chunk), Own w (B ++ L) → Own w L
  | [], h => h
  | c :: B, h => Own.dropL B (Own.drop1 (c := c) (L := B ++ L) h)

theorem Own.swap {w : World} {A B : List Chunk} {R : Fr} (h : Own w (A ++ (B ++ R))) : Own w (B ++ (A ++ R)) := by
  rw [← Fr.assoc] at h ⊢
  exact h.perm List.perm_append_comm

/-- the chunks that are named by their places, in that order; the others are dropped -/
theorem WS.pick (ks : List Nat) {A B : List Chunk} (ht : takes ks pre = some (A, B)) (h : WS P fn Rp n R stk env A) : WS P fn Rp n R stk env pre :=
  fun a w ha hw => h a w ha (by
    have h1 := Own.takes hw ht
    have h2 : Own w (B ++ (A ++ R)) := h1.swap
    exact Own.dropL B h2)

theorem exists_least {J : Nat → Prop} (h : ∃ k, J k) : ∃ k, J k ∧ ∀ j, J j → k ≤ j := by
  obtain ⟨k, hk⟩ := h
  induction k using Nat.strongRecOn with
  | _ k ih =>
    rcases Classical.em (∃ j, j < k ∧ J j) with ⟨j, hj, hJ⟩ | hn
    · exact ih j hj hJ
    · exact ⟨k, hk, fun j hj => Nat.le_of_not_lt fun hlt => hn ⟨j, hlt, hj⟩⟩

open Classical in
noncomputable def least (J : Nat → Prop) : Nat := if h : ∃ k, J k then Classical.choose (exists_least h) else 0

theorem least_spec {J : Nat → Prop} (h : ∃ k, J k) : J (least J) := by
  unfold least; rw [dif_pos h]; exact (Classical.choose_spec (exists_least h)).1

theorem least_le {J : Nat → Prop} {j : Nat} (h : J j) : least J ≤ j := by
  have hx : ∃ k, J k := ⟨j, h⟩
  unfold least; rw [dif_pos hx]; exact (Classical.choose_spec (exists_least hx)).2 j h

theorem WS.loop {ι : Type} (I : ι → List (Nat × Value)) (H : ι → List Chunk) (m : ι → Nat) (i₀ : ι) {c : Code}
    (h : ∀ i X, (∀ j, m j < m i → WS P fn Rp n R (.pred X :: stk) (I j) (H j)) → WS P fn Rp n R (.code c :: .pred X :: stk) (I i) (H i)) :
    WS P fn Rp n R (.code (.loop c) :: stk) (I i₀) (H i₀) := by
  intro a w ha hw
  let J : Act → World → Nat → Prop := fun a w k => ∃ i, m i = k ∧ Env a n (I i) ∧ Own w (H i ++ R)
  refine wp_loop (fun a w => ∃ k, J a w k) (fun a w => least (J a w)) ⟨m i₀, i₀, rfl, ha, hw⟩ ?_
  intro a w hex
  obtain ⟨i, hi, ha, hw⟩ := least_spec hex
  have key := h i (fun a' w' => (∃ k, J a' w' k) ∧ least (J a' w') < least (J a w)) (by
    intro j hj a' w' ha' hw'
    exact ⟨⟨m j, j, rfl, ha', hw'⟩, Nat.lt_of_le_of_lt (least_le (J := J a' w') (j := m j) ⟨j, rfl, ha', hw'⟩) (hi ▸ hj)⟩) a w ha hw
  exact key

theorem WS.loop_rounds (N : Nat) {c : Code} (h : WS P fn Rp n R (.pred (Code.rounds P c (after P fn Rp stk) N) :: stk) env pre) :
    WS P fn Rp n R (.code (.loop c) :: stk) env pre :=
  fun a w ha hw => wp_loop_rounds N (h a w ha hw)

theorem WS.round {N : Nat} {c : Code} (h : WS P fn Rp n R (.code c :: .pred (Code.rounds P c (after P fn Rp stk) N) :: stk) env pre) :
    WS P fn Rp n R (.pred (Code.rounds P c (after P fn Rp stk) (N + 1)) :: stk) env pre :=
  fun a w ha hw => h a w ha hw

end stack
end Go.Sep
end
section
namespace Go.Sep
open Go

class TyU (P : Program) (T : TypeId) (d : outParam TypeDesc) : Prop where
  u : P.underlying T = some d
class TyS (P : Program) (T : TypeId) (n : outParam Nat) (g : outParam Bool) : Prop where
  s : ∀ w, (sizeOf T).run P w = .ok n w
  g : ∀ w, (isAgg T).run P w = .ok g w
class TyZ (P : Program) (T : TypeId) (z : outParam Value) : Prop where
  z : ∀ w, (zeroValue T).run P w = .ok z w
/-- field f of a struct S: where it stands, its size, whether it is of several cells -/
class Fld (P : Program) (S : TypeId) (f : Nat) (k : outParam Nat) (n : outParam Nat) (g : outParam Bool) : Prop where
  at_ : ∀ b o w, (Instr.fieldAt S (.pointer (some ⟨b, o, none⟩)) f).run P w = .ok (.pointer (some ⟨b, o + k, none⟩)) w
  of_ : ∀ vs w, (Instr.field S (.agg vs) f).run P w = (match g with
    | true => .ok (.agg (vs.extract k (k + n))) w
    | false => match vs[k]? with
      | some v => .ok v w
      | none => .halt (.stuck "part: no such cell") w)

section ops
variable {P : Program} {ops : Array Oper} {Q : Exit → Act → World → Prop} {n : Nat} {R : Fr} {rest : List Oper} {env : List (Nat × Value)} {pre : List Chunk}
  {T : TypeId} {pos : String} {aft : Array Edge}

/-- what an operation's values are -/
def Sees (ρ : Operand → Value) (env : List (Nat × Value)) : Prop := ∀ x v, ev env x = some v → ρ x = v

theorem WL.value {d : Nat} {op : Op} {v : Value} (hd : Nat.blt d n = true)
    (h : ∀ (ρ : Operand → Value) (w : World), Sees ρ env → (execOp ρ ⟨some d, op, T, pos, aft, none⟩).run P w = .ok (.value v) w)
    (k : WL P ops Q n R rest ((d, v) :: env) pre) : WL P ops Q n R (⟨some d, op, T, pos, aft, none⟩ :: rest) env pre := by
  intro a w ha hw
  simp only [wpL, Region.wanted, if_true]
  unfold Oper.wp
  rw [h a.eval w (fun x v hx => ha.ev hx)]
  exact k _ _ (ha.put hd) hw

/-- one that turns memory, or finds what hangs on it -/
theorem WL.turn {d : Nat} {op : Op} {X : Type} (v : X → Value) (pre' : X → List Chunk) (hd : Nat.blt d n = true)
    (h : ∀ (ρ : Operand → Value) (w : World), Sees ρ env → Own w (pre ++ R) → ∃ x w', (execOp ρ ⟨some d, op, T, pos, aft, none⟩).run P w = .ok (.value (v x)) w' ∧ Own w' (pre' x ++ R))
    (k : ∀ x, WL P ops Q n R rest ((d, v x) :: env) (pre' x)) : WL P ops Q n R (⟨some d, op, T, pos, aft, none⟩ :: rest) env pre := by
  intro a w ha hw
  simp only [wpL, Region.wanted, if_true]
  unfold Oper.wp
  obtain ⟨x, w', hr, ho⟩ := h a.eval w (fun x v hx => ha.ev hx) hw
  rw [hr]
  exact k x _ _ (ha.put hd) ho

/-- one without a value -/
theorem WL.effect {op : Op} {X : Type} (pre' : X → List Chunk)
    (h : ∀ (ρ : Operand → Value) (w : World), Sees ρ env → Own w (pre ++ R) → ∃ x w', (execOp ρ ⟨none, op, T, pos, aft, none⟩).run P w = .ok .skip w' ∧ Own w' (pre' x ++ R))
    (k : ∀ x, WL P ops Q n R rest env (pre' x)) : WL P ops Q n R (⟨none, op, T, pos, aft, none⟩ :: rest) env pre := by
  intro a w ha hw
  simp only [wpL, Region.wanted, if_true]
  unfold Oper.wp
  obtain ⟨x, w', hr, ho⟩ := h a.eval w (fun x v hx => ha.ev hx) hw
  rw [hr]
  exact k x _ _ ha ho

/-- a guarded operation: it runs, or it does not -/
theorem WL.guard {dst : Option Nat} {op : Op} {j t : Nat} {want b : Bool} (hj : ((ops[j]?).bind (·.dst)) = some t) (hb : lk t env = some (.bool b))
    (hy : b = want → WL P ops Q n R (⟨dst, op, T, pos, aft, none⟩ :: rest) env pre)
    (hn : b ≠ want → WL P ops Q n R rest env pre) (hd : ∀ d, dst = some d → lk d env = none) :
    WL P ops Q n R (⟨dst, op, T, pos, aft, some (j, want)⟩ :: rest) env pre := by
  intro a w ha hw
  have hyl : yielded ops a.tmps j = some b := by
    have hg := ha.get t _ hb
    have : a.tmps[t]? = some (.bool b) := by
      simp only [Array.getD_eq_getD_getElem?] at hg
      cases ht : a.tmps[t]? with
      | none => rw [ht] at hg; simp [undef] at hg
      | some v => rw [ht] at hg; simp at hg; rw [hg]
    simp [yielded, hj, this]
  simp only [wpL, Region.wanted, hyl]
  by_cases e : b = want
  · subst e
    simp only [beq_self_eq_true, if_true]
    have := hy rfl a w ha hw
    simp only [wpL, Region.wanted, if_true] at this
    exact this
  · have hne : (some b == some want) = false := by simpa using e
    rw [hne]
    simp only [Bool.false_eq_true, if_false]
    refine hn e _ _ ?_ hw
    cases dst with
    | none => exact ha
    | some d =>
      refine ⟨ha.defers, by simp [Act.put, ha.size], ?_⟩
      intro t' v ht'
      have hne : d ≠ t' := by
        intro e'; subst e'; rw [hd d rfl] at ht'; simp at ht'
      rw [← ha.get t' v ht']
      simp only [Act.put, Array.getD_eq_getD_getElem?]
      rw [Array.getElem?_setIfInBounds_ne hne]

theorem run_binOp {gg : Option (Nat × Bool)} (ρ : Operand → Value) (dst : Option Tmp) (op : BinOp) (T1 T2 : TypeId) (x y : Operand) (w : World) :
    (execOp ρ ⟨dst, .binOp op T1 x y T2, T, pos, aft, gg⟩).run P w =
      ((eqGuard op T1 x y (ρ x) (ρ y) >>= fun _ => binOp op T1 (ρ x) (ρ y)).run P w).andThen fun v w' => .ok (.value v) w' := by
  simp only [execOp, Sem.run_bind, Sem.run_pure]

theorem run_equal_succ (T1 : TypeId) (x y : Value) (w : World) : (Op.equal T1 x y).run P w = (Op.equalIn (9999 + 1) T1 x y).run P w := rfl

theorem run_eqNilP (T1 E : TypeId) [hu : TyU P T1 (.pointer E)] (a : Option Addr) (w : World) :
    (Op.equal T1 (.pointer a) (.pointer none)).run P w = .ok a.isNone w := by
  rw [run_equal_succ, Op.equalIn]
  cases a <;> simp [underlying, hu.u]

theorem run_eqNilM (T1 K1 E : TypeId) [hu : TyU P T1 (.map K1 E)] (a : Option Nat) (w : World) :
    (Op.equal T1 (.map a) (.map none)).run P w = .ok a.isNone w := by
  rw [run_equal_succ, Op.equalIn]
  cases a <;> simp [underlying, hu.u]

theorem run_eqNilS (T1 E : TypeId) [hu : TyU P T1 (.slice E)] (a : Option Addr) (l c : Nat) (w : World) :
    (Op.equal T1 (.slice a l c) (.slice none 0 0)).run P w = .ok a.isNone w := by
  rw [run_equal_succ, Op.equalIn]
  cases a <;> simp [underlying, hu.u]

/-- an operation that comes to a value, whatever memory holds -/
def OpV (P : Program) (op : Op) (T : TypeId) (env : List (Nat × Value)) (v : Value) : Prop :=
  ∀ (dst : Option Tmp) (pos : String) (aft : Array Edge) (g : Option (Nat × Bool)) (ρ : Operand → Value) (w : World), Sees ρ env → (execOp ρ ⟨dst, op, T, pos, aft, g⟩).run P w = .ok (.value v) w

/-- what memory holds -/
def Has (w : World) (L : List Chunk) : Prop := ∀ x ∈ L.flatten, w.heap[x.1]? = some x.2

/-- an operation that comes to a value, where memory holds this -/
def OpR (P : Program) (op : Op) (T : TypeId) (env : List (Nat × Value)) (pre : List Chunk) (v : Value) : Prop :=
  ∀ (dst : Option Tmp) (pos : String) (aft : Array Edge) (g : Option (Nat × Bool)) (ρ : Operand → Value) (w : World), Sees ρ env → Has w pre → (execOp ρ ⟨dst, op, T, pos, aft, g⟩).run P w = .ok (.value v) w

theorem Own.has {w : World} {pre : List Chunk} {R : Fr} (h : Own w (pre ++ R)) : Has w pre := fun x hx => h.2 x (by simp only [Fr.app_L, List.flatten_append, List.mem_append]; exact .inl hx)

theorem WL.v {d : Nat} {op : Op} {v : Value} (h : OpV P op T env v) (hd : Nat.blt d n = true) (k : WL P ops Q n R rest ((d, v) :: env) pre) :
    WL P ops Q n R (⟨some d, op, T, pos, aft, none⟩ :: rest) env pre := WL.value hd (fun ρ w hs => h _ _ _ _ ρ w hs) k

theorem WL.r {d : Nat} {op : Op} {v : Value} (h : OpR P op T env pre v) (hd : Nat.blt d n = true) (k : WL P ops Q n R rest ((d, v) :: env) pre) :
    WL P ops Q n R (⟨some d, op, T, pos, aft, none⟩ :: rest) env pre :=
  WL.turn (X := Unit) (fun _ => v) (fun _ => pre) hd (fun ρ w hs ho => ⟨(), w, h _ _ _ _ ρ w hs ho.has, ho⟩) (fun _ => k)

section values
variable {d : Nat} {x y : Operand} {T2 : TypeId}

theorem V.move {v : Value} (hx : ev env x = some v)   : OpV P (.move x) T env (v) := fun _ _ _ _ ρ w hs => by simp [execOp, hs x v hx, pure, Sem.run]

theorem V.assign {v : Value} (hx : ev env x = some v)   : OpV P (.assign x) T env (v) := fun _ _ _ _ ρ w hs => by simp [execOp, hs x v hx, pure, Sem.run]

theorem V.nilCheck {a : Addr} (hx : ev env x = some (.pointer (some a)))   : OpV P (.nilCheck x) T env (.pointer (some a)) := fun _ _ _ _ ρ w hs => by simp [execOp, hs x _ hx, pure, Sem.run]

theorem V.fieldAddr {S f kk m : Nat} {g : Bool} [hf : Fld P S f kk m g] {b o : Nat} (hx : ev env x = some (.pointer (some ⟨b, o, none⟩))) 
     : OpV P (.fieldAddr S x f) T env (.pointer (some ⟨b, o + kk, none⟩)) := fun _ _ _ _ ρ w hs => by
    have := hf.at_ b o w
    simp [execOp, hs x _ hx, this]


theorem V.nilCheckFunc {f : FuncId} {fs cs : Array Value} (hx : ev env x = some (.func (.func f) fs cs))   : OpV P (.nilCheck x) T env (.func (.func f) fs cs) := fun _ _ _ _ ρ w hs => by simp [execOp, hs x _ hx]

theorem V.pick {c : Operand} {b : Bool} {v u : Value} (hc : ev env c = some (.bool b)) (hx : b = true → ev env x = some v) (hy : b = false → ev env y = some u)
      : OpV P (.pick c x y) T env (if b then v else u) := fun _ _ _ _ ρ w hs => by
    cases b
    · simp [execOp, hs c _ hc, asBool, hs y _ (hy rfl)]
    · simp [execOp, hs c _ hc, asBool, hs x _ (hx rfl)]

theorem V.extract {vs : Array Value} {i : Nat} {v : Value} (hx : ev env x = some (.tuple vs)) (hi : vs[i]? = some v) 
     : OpV P (.extract x i) T env (v) := fun _ _ _ _ ρ w hs => by simp [execOp, hs x _ hx, Instr.extract, hi]

theorem V.fieldOne {S f kk m : Nat} [hf : Fld P S f kk m false] {vs : Array Value} {v : Value} (hx : ev env x = some (.agg vs)) (hv : vs[kk]? = some v) 
     : OpV P (.field S x f) T env (v) := fun _ _ _ _ ρ w hs => by
    have := hf.of_ vs w
    simp only [hv] at this
    simp [execOp, hs x _ hx, this]

theorem V.fieldAgg {S f kk m : Nat} [hf : Fld P S f kk m true] {vs us : Array Value} (hx : ev env x = some (.agg vs)) (hv : vs.extract kk (kk + m) = us) 
     : OpV P (.field S x f) T env (.agg us) := fun _ _ _ _ ρ w hs => by
    have := hf.of_ vs w
    simp only [hv] at this
    simp [execOp, hs x _ hx, this]

theorem V.mkFunc {fn : Fn} {f c : Array Operand} {fv cv : Array Value} (hf : ∀ ρ, Sees ρ env → f.map ρ = fv) (hc : ∀ ρ, Sees ρ env → c.map ρ = cv) 
    
    (hm : ∀ w, (Instr.makeFunc fn fv cv).run P w = .ok (.func fn fv cv) w) : OpV P (.makeFunc fn f c) T env (.func fn fv cv) := fun _ _ _ _ ρ w hs => by simp [execOp, hf ρ hs, hc ρ hs, hm w]

/-! ### numbers -/

theorem V.lt {T1 : TypeId} {k1 : IntKind} {p q : Int} (hx : ev env x = some (.int k1 p)) (hy : ev env y = some (.int k1 q)) 
     : OpV P (.binOp .lss T1 x y T2) T env (.bool (decide (p < q))) := fun _ _ _ _ ρ w hs => by simp [execOp, hs x _ hx, hs y _ hy, eqGuard, binOp, Op.intCmp]

theorem V.le {T1 : TypeId} {k1 : IntKind} {p q : Int} (hx : ev env x = some (.int k1 p)) (hy : ev env y = some (.int k1 q)) 
     : OpV P (.binOp .leq T1 x y T2) T env (.bool (decide (p ≤ q))) := fun _ _ _ _ ρ w hs => by simp [execOp, hs x _ hx, hs y _ hy, eqGuard, binOp, Op.intCmp]

theorem V.gt {T1 : TypeId} {k1 : IntKind} {p q : Int} (hx : ev env x = some (.int k1 p)) (hy : ev env y = some (.int k1 q)) 
     : OpV P (.binOp .gtr T1 x y T2) T env (.bool (decide (q < p))) := fun _ _ _ _ ρ w hs => by simp [execOp, hs x _ hx, hs y _ hy, eqGuard, binOp, Op.intCmp]

theorem V.ge {T1 : TypeId} {k1 : IntKind} {p q : Int} (hx : ev env x = some (.int k1 p)) (hy : ev env y = some (.int k1 q)) 
     : OpV P (.binOp .geq T1 x y T2) T env (.bool (decide (q ≤ p))) := fun _ _ _ _ ρ w hs => by simp [execOp, hs x _ hx, hs y _ hy, eqGuard, binOp, Op.intCmp]

theorem V.eqi {T1 : TypeId} {k1 : IntKind} {p q : Int} (hx : ev env x = some (.int k1 p)) (hy : ev env y = some (.int k1 q)) 
     : OpV P (.binOp .eql T1 x y T2) T env (.bool (decide (p = q))) := fun _ _ _ _ ρ w hs => by
    simp [execOp, hs x _ hx, hs y _ hy, eqGuard, binOp, Op.intCmp]
    rfl

theorem V.nei {T1 : TypeId} {k1 : IntKind} {p q : Int} (hx : ev env x = some (.int k1 p)) (hy : ev env y = some (.int k1 q)) 
     : OpV P (.binOp .neq T1 x y T2) T env (.bool (!decide (p = q))) := fun _ _ _ _ ρ w hs => by
    simp [execOp, hs x _ hx, hs y _ hy, eqGuard, binOp, Op.intCmp]
    rfl

def fits (k : IntKind) (z : Int) : Prop := k.wrap z = z

theorem V.add {T1 : TypeId} {k1 : IntKind} {p q : Int} (hx : ev env x = some (.int k1 p)) (hy : ev env y = some (.int k1 q)) 
    (hf : fits k1 (p + q))  : OpV P (.binOp .add T1 x y T2) T env (.int k1 (p + q)) := fun _ _ _ _ ρ w hs => by rw [← hf]; simp [execOp, hs x _ hx, hs y _ hy, eqGuard, binOp, Op.intArith]

theorem V.addw {T1 : TypeId} {k1 : IntKind} {p q : Int} (hx : ev env x = some (.int k1 p)) (hy : ev env y = some (.int k1 q)) 
     : OpV P (.binOp .add T1 x y T2) T env (.int k1 (k1.wrap (p + q))) := fun _ _ _ _ ρ w hs => by simp [execOp, hs x _ hx, hs y _ hy, eqGuard, binOp, Op.intArith]

theorem V.sub {T1 : TypeId} {k1 : IntKind} {p q : Int} (hx : ev env x = some (.int k1 p)) (hy : ev env y = some (.int k1 q)) 
    (hf : fits k1 (p - q))  : OpV P (.binOp .sub T1 x y T2) T env (.int k1 (p - q)) := fun _ _ _ _ ρ w hs => by rw [← hf]; simp [execOp, hs x _ hx, hs y _ hy, eqGuard, binOp, Op.intArith]

theorem V.subw {T1 : TypeId} {k1 : IntKind} {p q : Int} (hx : ev env x = some (.int k1 p)) (hy : ev env y = some (.int k1 q)) 
     : OpV P (.binOp .sub T1 x y T2) T env (.int k1 (k1.wrap (p - q))) := fun _ _ _ _ ρ w hs => by simp [execOp, hs x _ hx, hs y _ hy, eqGuard, binOp, Op.intArith]

theorem V.mul {T1 : TypeId} {k1 : IntKind} {p q : Int} (hx : ev env x = some (.int k1 p)) (hy : ev env y = some (.int k1 q)) 
    (hf : fits k1 (p * q))  : OpV P (.binOp .mul T1 x y T2) T env (.int k1 (p * q)) := fun _ _ _ _ ρ w hs => by rw [← hf]; simp [execOp, hs x _ hx, hs y _ hy, eqGuard, binOp, Op.intArith]

theorem V.quo {T1 : TypeId} {k1 : IntKind} {p q : Int} (hx : ev env x = some (.int k1 p)) (hy : ev env y = some (.int k1 q)) 
    (hq : q ≠ 0) (hf : fits k1 (p.tdiv q))  : OpV P (.binOp .quo T1 x y T2) T env (.int k1 (p.tdiv q)) := fun _ _ _ _ ρ w hs => by rw [← hf]; simp [execOp, hs x _ hx, hs y _ hy, eqGuard, binOp, Op.intDiv, hq]

theorem V.rem {T1 : TypeId} {k1 : IntKind} {p q : Int} (hx : ev env x = some (.int k1 p)) (hy : ev env y = some (.int k1 q)) 
    (hq : q ≠ 0)  : OpV P (.binOp .rem T1 x y T2) T env (.int k1 (p.tmod q)) := fun _ _ _ _ ρ w hs => by simp [execOp, hs x _ hx, hs y _ hy, eqGuard, binOp, Op.intDiv, hq]

/-- & | ^ &^ of two numbers of a kind -/
def bitsOf (op : BinOp) (k : IntKind) (p q : Int) : Int :=
  let a := BitVec.ofInt k.bits p
  let b := BitVec.ofInt k.bits q
  k.wrap (match op with
    | .and => (a &&& b).toNat
    | .or => (a ||| b).toNat
    | .xor => (a ^^^ b).toNat
    | _ => (a &&& ~~~b).toNat)

theorem V.bits {op : BinOp} {T1 : TypeId} {k1 : IntKind} {p q : Int} (hop : (match op with | .and | .or | .xor | .andNot => true | _ => false) = true)
    (hx : ev env x = some (.int k1 p)) (hy : ev env y = some (.int k1 q)) 
     : OpV P (.binOp op T1 x y T2) T env (.int k1 (bitsOf op k1 p q)) := fun _ _ _ _ ρ w hs => by
    cases op <;> simp at hop <;> simp [execOp, hs x _ hx, hs y _ hy, eqGuard, binOp, Op.intBits, bitsOf]

theorem V.shl {T1 : TypeId} {k1 k2 : IntKind} {p q : Int} (hx : ev env x = some (.int k1 p)) (hy : ev env y = some (.int k2 q)) 
    (hq : 0 ≤ q)  : OpV P (.binOp .shl T1 x y T2) T env (.int k1 (k1.wrap (p * 2 ^ (min q.toNat k1.bits)))) := fun _ _ _ _ ρ w hs => by simp [execOp, hs x _ hx, hs y _ hy, eqGuard, binOp, Op.shift, Int.not_lt.2 hq]

theorem V.shr {T1 : TypeId} {k1 k2 : IntKind} {p q : Int} (hx : ev env x = some (.int k1 p)) (hy : ev env y = some (.int k2 q)) 
    (hq : 0 ≤ q)  : OpV P (.binOp .shr T1 x y T2) T env (.int k1 (p.fdiv (2 ^ (min q.toNat k1.bits)))) := fun _ _ _ _ ρ w hs => by simp [execOp, hs x _ hx, hs y _ hy, eqGuard, binOp, Op.shift, Int.not_lt.2 hq]

theorem V.not {b : Bool} (hx : ev env x = some (.bool b))  {T1 : TypeId}
     : OpV P (.unOp .not T1 x) T env (.bool (!b)) := fun _ _ _ _ ρ w hs => by simp [execOp, hs x _ hx, Op.unary]

theorem V.neg {k1 : IntKind} {p : Int} (hx : ev env x = some (.int k1 p))  {T1 : TypeId} (hf : fits k1 (-p))
     : OpV P (.unOp .neg T1 x) T env (.int k1 (-p)) := fun _ _ _ _ ρ w hs => by rw [← hf]; simp [execOp, hs x _ hx, Op.unary, Op.intArith]

theorem V.conv {S1 D1 : TypeId} {k1 k2 kk : IntKind} {p : Int} [hs1 : TyU P S1 (.int kk)] [hd1 : TyU P D1 (.int k2)] (hx : ev env x = some (.int k1 p)) 
     : OpV P (.convert S1 D1 x) T env (.int k2 (k2.wrap p)) := fun _ _ _ _ ρ w hs => by simp [execOp, hs x _ hx, convert, underlying, hs1.u, hd1.u, Conv.intToInt]

/-! ### nil -/

theorem V.eqNilP {T1 : TypeId} {a : Option Addr} {E : TypeId} [hu : TyU P T1 (.pointer E)] (hx : ev env x = some (.pointer a)) (hy : ev env y = some (.pointer none)) 
     : OpV P (.binOp .eql T1 x y T2) T env (.bool a.isNone) := fun _ _ _ _ ρ w hs => by
    rw [run_binOp, hs x _ hx, hs y _ hy]
    have h1 : eqGuard .eql T1 x y (.pointer a) (.pointer none) = pure () := by cases a <;> rfl
    have h2 : binOp .eql T1 (.pointer a) (.pointer none) = (do pure (.bool ((← Op.equal T1 (.pointer a) (.pointer none))))) := by cases a <;> rfl
    rw [h1, h2]
    have h3 := run_eqNilP (P := P) T1 E a w
    simp [h3]

theorem V.neNilP {T1 : TypeId} {a : Option Addr} {E : TypeId} [hu : TyU P T1 (.pointer E)] (hx : ev env x = some (.pointer a)) (hy : ev env y = some (.pointer none)) 
     : OpV P (.binOp .neq T1 x y T2) T env (.bool a.isSome) := fun _ _ _ _ ρ w hs => by
    rw [run_binOp, hs x _ hx, hs y _ hy]
    have h1 : eqGuard .neq T1 x y (.pointer a) (.pointer none) = pure () := by cases a <;> rfl
    have h2 : binOp .neq T1 (.pointer a) (.pointer none) = (do pure (.bool (!(← Op.equal T1 (.pointer a) (.pointer none))))) := by cases a <;> rfl
    rw [h1, h2]
    have h3 := run_eqNilP (P := P) T1 E a w
    simp [h3]

theorem V.eqNilM {T1 : TypeId} {a : Option Nat} {K1 E : TypeId} [hu : TyU P T1 (.map K1 E)] (hx : ev env x = some (.map a)) (hy : ev env y = some (.map none)) 
     : OpV P (.binOp .eql T1 x y T2) T env (.bool a.isNone) := fun _ _ _ _ ρ w hs => by
    rw [run_binOp, hs x _ hx, hs y _ hy]
    have h1 : eqGuard .eql T1 x y (.map a) (.map none) = pure () := by cases a <;> rfl
    have h2 : binOp .eql T1 (.map a) (.map none) = (do pure (.bool ((← Op.equal T1 (.map a) (.map none))))) := by cases a <;> rfl
    rw [h1, h2]
    have h3 := run_eqNilM (P := P) T1 K1 E a w
    simp [h3]

/-! ### lengths, slicing, places of elements -/

theorem V.lenS {T1 E : TypeId} [hu : TyU P T1 (.slice E)] {a : Option Addr} {l c : Nat} (hx : ev env x = some (.slice a l c)) 
     : OpV P (.call ⟨.builtin .len, #[x], #[T1]⟩) T env (.int .i64 l) := fun _ _ _ _ ρ w hs => by
    simp [execOp, hs x _ hx, resolve, invoke, builtin, Builtin.len_, underlying, hu.u, goInt]

theorem V.min2 {T1 T3 : TypeId} {k1 : IntKind} {p q : Int} (hx : ev env x = some (.int k1 p)) (hy : ev env y = some (.int k1 q)) 
     : OpV P (.call ⟨.builtin .min, #[x, y], #[T1, T3]⟩) T env (.int k1 (min p q)) := fun _ _ _ _ ρ w hs => by
    have : min p q = if q < p then q else p := by split <;> omega
    simp [execOp, hs x _ hx, hs y _ hy, resolve, invoke, builtin, Builtin.min_, Builtin.min2, this]

theorem V.min3 {T1 T3 T4 : TypeId} {z : Operand} {k1 : IntKind} {p q r : Int} (hx : ev env x = some (.int k1 p)) (hy : ev env y = some (.int k1 q)) (hz : ev env z = some (.int k1 r)) 
     : OpV P (.call ⟨.builtin .min, #[x, y, z], #[T1, T3, T4]⟩) T env (.int k1 (min (min p q) r)) := fun _ _ _ _ ρ w hs => by
    have : min p q = if q < p then q else p := by split <;> omega
    have h2 : min (min p q) r = if r < min p q then r else min p q := by split <;> omega
    rw [h2, this]
    simp [execOp, hs x _ hx, hs y _ hy, hs z _ hz, resolve, invoke, builtin, Builtin.min_, Builtin.min2]

theorem V.max2 {T1 T3 : TypeId} {k1 : IntKind} {p q : Int} (hx : ev env x = some (.int k1 p)) (hy : ev env y = some (.int k1 q)) 
     : OpV P (.call ⟨.builtin .max, #[x, y], #[T1, T3]⟩) T env (.int k1 (max p q)) := fun _ _ _ _ ρ w hs => by
    have : max p q = if q > p then q else p := by split <;> omega
    simp [execOp, hs x _ hx, hs y _ hy, resolve, invoke, builtin, Builtin.max_, Builtin.max2, this]

theorem V.indexAddr {T1 E : TypeId} {m : Nat} {g : Bool} [hu : TyU P T1 (.slice E)] [he : TyS P E m g] {b o l c : Nat} {i : Int} {k1 : IntKind}
    (hx : ev env x = some (.slice (some ⟨b, o, none⟩) l c)) (hy : ev env y = some (.int k1 i)) (hi : 0 ≤ i ∧ i < l) 
     : OpV P (.indexAddr T1 x y) T env (.pointer (some ⟨b, o + i.toNat * m, none⟩)) := fun _ _ _ _ ρ w hs => by
    have e : (⟨b, o, none⟩ : Addr).add (i.toNat * m) = ⟨b, o + i.toNat * m, none⟩ := by
      unfold Addr.add; split
      · rename_i h; simp [h]
      · rfl
    simp [execOp, hs x _ hx, hs y _ hy, Instr.indexAt, asIntOf, underlying, hu.u, he.s, hi.1, hi.2, e]

def bnd (env : List (Nat × Value)) : Option Operand → Nat → Nat → Prop
  | none, df, v => v = df
  | some z, _, v => ∃ kz zi, ev env z = some (.int kz zi) ∧ 0 ≤ zi ∧ v = zi.toNat

theorem run_sliceBounds (l c i j : Nat) (lv hv : Option Value) (w : World) (hlo : lv = none ∧ i = 0 ∨ ∃ kz zi, lv = some (.int kz zi) ∧ 0 ≤ zi ∧ i = zi.toNat)
    (hhi : hv = none ∧ j = l ∨ ∃ kz zi, hv = some (.int kz zi) ∧ 0 ≤ zi ∧ j = zi.toNat) (hij : i ≤ j) (hjc : j ≤ c) :
    (Instr.sliceBounds true l c lv hv none).run P w = .ok (i, j, c) w := by
  rcases hlo with ⟨rfl, rfl⟩ | ⟨kz, zi, rfl, h0, rfl⟩ <;> rcases hhi with ⟨rfl, rfl⟩ | ⟨kz', zj, rfl, h0', rfl⟩
  · simp [Instr.sliceBounds]
  · have h2 : zj ≤ (c : Int) := by omega
    simp [Instr.sliceBounds, Instr.sliceBound, asIntOf, h0', h2]
  · have h2 : zi ≤ (j : Int) := by omega
    simp [Instr.sliceBounds, Instr.sliceBound, asIntOf, h0, h2]
  · have h2 : zj ≤ (c : Int) := by omega
    have h3 : zi ≤ max zj 0 := by omega
    simp [Instr.sliceBounds, Instr.sliceBound, asIntOf, h0, h0', h2, h3]

/-- xs[lo:hi] -/
theorem V.slice {T1 E : TypeId} {m : Nat} {g : Bool} [hu : TyU P T1 (.slice E)] [he : TyS P E m g] {a : Option Addr} {l c : Nat} {lo hi : Option Operand} {i j : Nat}
    (hx : ev env x = some (.slice a l c)) (hlo : bnd env lo 0 i) (hhi : bnd env hi l j) (hij : i ≤ j) (hjc : j ≤ c) 
     : OpV P (.slice T1 x lo hi none) T env (.slice (if c = i then a else a.map (·.add (i * m))) (j - i) (c - i)) := fun _ _ _ _ ρ w hs => by
    have hr := run_sliceBounds (P := P) l c i j (lo.map ρ) (hi.map ρ) w (by
      cases lo with
      | none => exact .inl ⟨rfl, hlo⟩
      | some z => obtain ⟨kz, zi, h, h'⟩ := hlo; exact .inr ⟨kz, zi, by simp [hs z _ h], h'⟩) (by
      cases hi with
      | none => exact .inl ⟨rfl, hhi⟩
      | some z => obtain ⟨kz, zi, h, h'⟩ := hhi; exact .inr ⟨kz, zi, by simp [hs z _ h], h'⟩) hij hjc
    simp [execOp, hs x _ hx, Instr.sliceAt, Instr.slice, underlying, hu.u, he.s, hr]

end values
end ops
end Go.Sep
end
section
namespace Go.Sep
open Go

abbrev blk (b : Nat) (T : TypeId) (l : List Value) : Chunk := [(b, .cells l.toArray T (0, 0))]

def nthC : Nat → List Chunk → Option Chunk
  | _, [] => none
  | 0, c :: _ => some c
  | k + 1, _ :: L => nthC k L

theorem nthC_mem : ∀ (k : Nat) (L : List Chunk) (c : Chunk), nthC k L = some c → c ∈ L
  | _, [], _, h => by simp [nthC] at h
  | 0, c :: L, d, h => by simp [nthC] at h; simp [h]
  | k + 1, c :: L, d, h => by simp only [nthC] at h; exact List.mem_cons_of_mem _ (nthC_mem k L d h)

theorem Has.nth {w : World} {pre : List Chunk} {k b : Nat} {o : Obj} (h : Has w pre) (hc : nthC k pre = some [(b, o)]) : w.heap[b]? = some o := by
  refine h (b, o) ?_
  rw [List.mem_flatten]
  exact ⟨_, nthC_mem k pre _ hc, by simp⟩

/-- n cells from a place on -/
def getN : Nat → Nat → List Value → Option (List Value)
  | 0, 0, _ => some []
  | 0, n + 1, v :: l => match getN 0 n l with
    | some r => some (v :: r)
    | none => none
  | 0, _ + 1, [] => none
  | o + 1, n, _ :: l => getN o n l
  | _ + 1, _, [] => none

/-- others there -/
def setN : Nat → List Value → List Value → Option (List Value)
  | 0, [], l => some l
  | 0, v :: vs, _ :: l => match setN 0 vs l with
    | some r => some (v :: r)
    | none => none
  | 0, _ :: _, [] => none
  | o + 1, vs, u :: l => match setN o vs l with
    | some r => some (u :: r)
    | none => none
  | _ + 1, _, [] => none

theorem getN_eq : ∀ (o n : Nat) (l vs : List Value), getN o n l = some vs → vs = (l.drop o).take n ∧ vs.length = n ∧ o + n ≤ l.length ∨ (n = 0 ∧ vs = [])
  | 0, 0, l, vs, h => by simp [getN] at h; exact .inr ⟨rfl, h⟩
  | 0, n + 1, v :: l, vs, h => by
    simp only [getN] at h
    split at h
    · rename_i r hr
      simp at h
      subst h
      rcases getN_eq 0 n l r hr with ⟨h1, h2, h3⟩ | ⟨rfl, rfl⟩
      · left; simp at h1 ⊢; exact ⟨h1, h2, by omega⟩
      · left; simp
    · simp at h
  | 0, _ + 1, [], _, h => by simp [getN] at h
  | o + 1, n, v :: l, vs, h => by
    simp only [getN] at h
    rcases getN_eq o n l vs h with ⟨h1, h2, h3⟩ | h
    · left; simp; exact ⟨h1, h2, by omega⟩
    · exact .inr h
  | _ + 1, _, [], _, h => by simp [getN] at h

theorem getN_get {o n : Nat} {l vs : List Value} (h : getN o n l = some vs) : vs.length = n ∧ ∀ i, i < n → l[o + i]? = vs[i]? := by
  rcases getN_eq o n l vs h with ⟨h1, h2, h3⟩ | ⟨rfl, rfl⟩
  · refine ⟨h2, fun i hi => ?_⟩
    rw [h1, List.getElem?_take_of_lt hi, List.getElem?_drop]
  · exact ⟨rfl, fun i hi => by omega⟩

theorem setN_len : ∀ (o : Nat) (vs l l' : List Value), setN o vs l = some l' → l'.length = l.length
  | 0, [], l, l', h => by simp [setN] at h; rw [h]
  | 0, v :: vs, u :: l, l', h => by
    simp only [setN] at h
    split at h
    · rename_i r hr
      simp at h; subst h
      simp [setN_len 0 vs l r hr]
    · simp at h
  | 0, _ :: _, [], _, h => by simp [setN] at h
  | o + 1, vs, u :: l, l', h => by
    simp only [setN] at h
    split at h
    · rename_i r hr
      simp at h; subst h
      simp [setN_len o vs l r hr]
    · simp at h
  | _ + 1, _, [], _, h => by simp [setN] at h

/-- one cell, then the others -/
theorem setN_cons : ∀ (o : Nat) (v : Value) (vs l l' : List Value), setN o (v :: vs) l = some l' → o < l.length ∧ setN (o + 1) vs (l.set o v) = some l'
  | 0, v, vs, u :: l, l', h => by
    simp only [setN] at h
    refine ⟨by simp, ?_⟩
    simp only [List.set_cons_zero, setN]
    exact h
  | 0, _, _, [], _, h => by simp [setN] at h
  | o + 1, v, vs, u :: l, l', h => by
    simp only [setN] at h
    split at h
    · rename_i r hr
      have := setN_cons o v vs l r hr
      simp at h; subst h
      refine ⟨by simp; exact this.1, ?_⟩
      simp only [List.set_cons_succ, setN, this.2]
    · simp at h
  | _ + 1, _, _, [], _, h => by simp [setN] at h

theorem setN_nil : ∀ (o : Nat) (l l' : List Value), setN o [] l = some l' → l' = l
  | 0, l, l', h => by simp [setN] at h; exact h.symm
  | o + 1, u :: l, l', h => by
    simp only [setN] at h
    split at h
    · rename_i r hr
      simp at h; subst h
      rw [setN_nil o l r hr]
    · simp at h
  | _ + 1, [], _, h => by simp [setN] at h

theorem cell_of {w : World} {b T : Nat} {l : List Value} (h : w.heap[b]? = some (.cells l.toArray T (0, 0))) (o : Nat) : w.cell? ⟨b, o, none⟩ = l[o]? := by
  simp [World.cell?, h]

theorem addr_add (b o i : Nat) : (⟨b, o, none⟩ : Addr).add i = ⟨b, o + i, none⟩ := by
  unfold Addr.add; split
  · rename_i h; simp [h]
  · rfl

theorem run_loadCellsFrom {P : Program} {w : World} {b T : Nat} {l : List Value} (h : w.heap[b]? = some (.cells l.toArray T (0, 0))) (o : Nat) :
    ∀ (m i : Nat) (vs : List Value) (acc : Array Value), vs.length = m → (∀ j, j < m → l[o + i + j]? = vs[j]?) →
      (loadCellsFrom ⟨b, o, none⟩ i m acc).run P w = .ok (acc ++ vs.toArray) w
  | 0, i, vs, acc, hl, hg => by
    cases vs with
    | nil => simp [loadCellsFrom]
    | cons _ _ => simp at hl
  | m + 1, i, vs, acc, hl, hg => by
    cases vs with
    | nil => simp at hl
    | cons v vs =>
      have h0 := hg 0 (by omega)
      simp at h0
      have hc : w.cell? ⟨b, o + i, none⟩ = some v := by rw [cell_of h]; exact h0
      simp only [loadCellsFrom, Sem.run_bind, run_load, addr_add, hc, Result.andThen_ok]
      rw [run_loadCellsFrom h o m (i + 1) vs (acc.push v) (by simpa using hl) (fun j hj => by
        have := hg (j + 1) (by omega)
        rw [show o + (i + 1) + j = o + i + (j + 1) from by omega, this]; simp)]
      simp

theorem run_loadCells {P : Program} {w : World} {b T : Nat} {l : List Value} (h : w.heap[b]? = some (.cells l.toArray T (0, 0))) {o m : Nat} {vs : List Value} (hv : getN o m l = some vs) :
    (loadCells ⟨b, o, none⟩ m).run P w = .ok vs.toArray w := by
  have := getN_get hv
  rw [loadCells, run_loadCellsFrom h o m 0 vs #[] this.1 (fun j hj => by simpa using this.2 j hj)]
  simp

def oneC : Value → Bool
  | .agg _ | .tuple _ => false
  | _ => true

def allOne : List Value → Bool
  | [] => true
  | v :: vs => match oneC v with
    | true => allOne vs
    | false => false

theorem run_storeCells {P : Program} {b T : Nat} : ∀ (vs : List Value) (w : World) (l l' : List Value) (o i : Nat), w.heap[b]? = some (.cells l.toArray T (0, 0)) → setN (o + i) vs l = some l' → allOne vs = true →
      ∃ w', (storeCells ⟨b, o, none⟩ vs i).run P w = .ok () w' ∧ w'.heap[b]? = some (.cells l'.toArray T (0, 0)) ∧ (∀ r, r ≠ b → w'.heap[r]? = w.heap[r]?) ∧ SameX w w'
  | [], w, l, l', o, i, h, hs, _ => by
    have := setN_nil _ _ _ hs
    subst this
    exact ⟨w, by simp [storeCells], h, fun _ _ => rfl, SameX.rfl'⟩
  | v :: vs, w, l, l', o, i, h, hs, ha => by
    have h1 := setN_cons _ _ _ _ _ hs
    simp only [allOne] at ha
    have hone : oneC v = true := by
      cases hv : oneC v with
      | true => rfl
      | false => rw [hv] at ha; simp at ha
    rw [hone] at ha
    have hc : w.cell? ⟨b, o + i, none⟩ = some l[o + i] := by rw [cell_of h]; simp [h1.1]
    have hfr : w.frozen? ⟨b, o + i, none⟩ = false := by simp [World.frozen?, h]
    have hb : (w.setCell ⟨b, o + i, none⟩ v).heap[b]? = some (.cells (l.set (o + i) v).toArray T (0, 0)) := by
      simp [World.setCell, Array.getElem?_modify, h]
    have hf : ∀ r, r ≠ b → (w.setCell ⟨b, o + i, none⟩ v).heap[r]? = w.heap[r]? := by
      intro r hr
      simp [World.setCell, Array.getElem?_modify, Ne.symm hr]
    obtain ⟨w', hr, hb', hf', hx'⟩ := run_storeCells (P := P) vs (w.setCell ⟨b, o + i, none⟩ v) (l.set (o + i) v) l' o (i + 1) hb (by rw [show o + (i + 1) = o + i + 1 from by omega]; exact h1.2) ha
    refine ⟨w', ?_, hb', fun r hne => by rw [hf' r hne, hf r hne], SameX.trans ⟨rfl, rfl, rfl⟩ hx'⟩
    simp only [storeCells, Sem.run_bind, addr_add]
    have hst : (store ⟨b, o + i, none⟩ v).run P w = .ok () (w.setCell ⟨b, o + i, none⟩ v) := by
      cases v <;> simp [oneC] at hone <;> simp [store, Sem.run, hc, hfr]
    rw [hst]
    simp only [Result.andThen_ok]
    exact hr

section heap
variable {P : Program} {ops : Array Oper} {Q : Exit → Act → World → Prop} {n : Nat} {R : Fr} {rest : List Oper} {env : List (Nat × Value)} {pre : List Chunk}
  {T : TypeId} {pos : String} {aft : Array Edge} {d : Nat} {x y : Operand}

theorem V.load1 (kp : Nat) {T1 b o Tb : Nat} {l : List Value} {v : Value} [ht : TyS P T1 1 false] (hx : ev env x = some (.pointer (some ⟨b, o, none⟩)))
    (hc : nthC kp pre = some (blk b Tb l)) (hv : getN o 1 l = some [v])   : OpR P (.load T1 x) T env pre (v) := fun _ _ _ _ ρ w hs ho => by
    have hb := ho.nth hc
    have h1 := (getN_get hv).2 0 (by omega)
    simp at h1
    have : w.cell? ⟨b, o, none⟩ = some v := by rw [cell_of hb]; exact h1
    simp [execOp, hs x _ hx, Instr.loadAt, Instr.sureAddr, loadVar, ht.g, this]

theorem V.loadN (kp : Nat) {T1 b o Tb m : Nat} {l vs : List Value} [ht : TyS P T1 m true] (hx : ev env x = some (.pointer (some ⟨b, o, none⟩)))
    (hc : nthC kp pre = some (blk b Tb l)) (hv : getN o m l = some vs)   : OpR P (.load T1 x) T env pre (.agg vs.toArray) := fun _ _ _ _ ρ w hs ho => by
    have := run_loadCells (P := P) (ho.nth hc) hv
    simp [execOp, hs x _ hx, Instr.loadAt, Instr.sureAddr, loadVar, ht.g, ht.s, this]

/-- a value's cells -/
def cellsV : Value → List Value
  | .agg cs => cs.toList
  | v => [v]

theorem cells_cellsV (v : Value) : v.cells = (cellsV v).toArray := by
  cases v <;> simp [Value.cells, cellsV]

theorem Own.at {w : World} {pre pre' : List Chunk} {R : Fr} {k : Nat} {c : Chunk} (h : Own w (pre ++ R)) (ht : takeAt k pre = some (c, pre')) : Own w ([c] ++ (pre' ++ R)) :=
  Own.perm (L' := c :: pre') h (takeAt_perm k pre c pre' ht)

theorem WL.store (kp : Nat) {T1 b o Tb m : Nat} {g : Bool} {l l' : List Value} {v : Value} {pre' : List Chunk} [ht : TyS P T1 m g] (hx : ev env x = some (.pointer (some ⟨b, o, none⟩))) (hy : ev env y = some v)
    (hc : takeAt kp pre = some (blk b Tb l, pre')) (hm : (cellsV v).length = m) (ha : allOne (cellsV v) = true) (hv : setN o (cellsV v) l = some l')
    (k : WL P ops Q n R rest env (blk b Tb l' :: pre')) :
    WL P ops Q n R (⟨none, .store T1 x y, T, pos, aft, none⟩ :: rest) env pre :=
  WL.effect (X := Unit) (fun _ => blk b Tb l' :: pre') (fun ρ w hs ho => by
    have h1 := ho.at hc
    obtain ⟨w', hr, hb, hf, hx'⟩ := run_storeCells (P := P) (cellsV v) w l l' o 0 h1.head hv ha
    refine ⟨(), w', ?_, Own.set h1 hb hf hx'⟩
    simp [execOp, hs x _ hx, hs y _ hy, Instr.storeAt, Instr.sureAddr, storeVar, cells_cellsV, hm, ht.s, hr]) (fun _ => k)

theorem run_newRow {P : Program} (E : TypeId) (cs : Array Value) (w : World) :
    (newRow E cs).run P w = .ok ⟨w.heap.size, 0, none⟩ { w with heap := w.heap.push (.cells cs E) } := by
  simp [newRow]

theorem WL.alloc {E : Nat} {z : Value} [hz : TyZ P E z] (hd : Nat.blt d n = true)
    (k : ∀ r, WL P ops Q n R rest ((d, .pointer (some ⟨r, 0, none⟩)) :: env) (blk r E (cellsV z) :: pre)) :
    WL P ops Q n R (⟨some d, .alloc E, T, pos, aft, none⟩ :: rest) env pre :=
  WL.turn (X := Nat) (fun r => .pointer (some ⟨r, 0, none⟩)) (fun r => blk r E (cellsV z) :: pre) hd (fun ρ w hs ho => by
    refine ⟨w.heap.size, { w with heap := w.heap.push (.cells (cellsV z).toArray E) }, ?_, ho.new _⟩
    simp [execOp, Instr.alloc, hz.z, newVar, run_newRow, cells_cellsV]) k

theorem WL.box {E : Nat} {v : Value} (hx : ev env x = some v) (hd : Nat.blt d n = true)
    (k : ∀ r, WL P ops Q n R rest ((d, .pointer (some ⟨r, 0, none⟩)) :: env) (blk r E (cellsV v) :: pre)) :
    WL P ops Q n R (⟨some d, .box E x, T, pos, aft, none⟩ :: rest) env pre :=
  WL.turn (X := Nat) (fun r => .pointer (some ⟨r, 0, none⟩)) (fun r => blk r E (cellsV v) :: pre) hd (fun ρ w hs ho => by
    refine ⟨w.heap.size, { w with heap := w.heap.push (.cells (cellsV v).toArray E) }, ?_, ho.new _⟩
    simp [execOp, Instr.box, hs x _ hx, newVar, run_newRow, cells_cellsV]) k

def nthL : Nat → List Value → Option Value
  | _, [] => none
  | 0, v :: _ => some v
  | i + 1, _ :: l => nthL i l

theorem nthL_eq : ∀ (i : Nat) (l : List Value), nthL i l = l[i]?
  | _, [] => by simp [nthL]
  | 0, v :: _ => by simp [nthL]
  | i + 1, _ :: l => by simp [nthL, nthL_eq i l]

theorem V.extractL {l : List Value} {i : Nat} {v : Value} (hx : ev env x = some (.tuple l.toArray)) (hi : nthL i l = some v) : OpV P (.extract x i) T env v :=
  V.extract hx (by rw [nthL_eq] at hi; simpa using hi)

theorem V.fieldOneL {S f kk m : Nat} [hf : Fld P S f kk m false] {l : List Value} {v : Value} (hx : ev env x = some (.agg l.toArray)) (hv : nthL kk l = some v) : OpV P (.field S x f) T env v :=
  V.fieldOne hx (by rw [nthL_eq] at hv; simpa using hv)

theorem V.fieldAggL {S f kk m : Nat} [hf : Fld P S f kk m true] {l us : List Value} (hx : ev env x = some (.agg l.toArray)) (hv : getN kk m l = some us) : OpV P (.field S x f) T env (.agg us.toArray) :=
  V.fieldAgg hx (by
    have h := getN_get hv
    apply Array.ext'
    simp
    apply List.ext_getElem?
    intro j
    by_cases hj : j < m
    · rw [List.getElem?_take_of_lt (by omega), List.getElem?_drop, h.2 j hj]
    · rw [List.getElem?_eq_none (by simp; omega), List.getElem?_eq_none (by rw [h.1]; omega)])

end heap
end Go.Sep
end
