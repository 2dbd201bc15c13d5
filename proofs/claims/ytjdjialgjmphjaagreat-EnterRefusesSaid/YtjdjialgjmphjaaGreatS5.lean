/- Part of the proof: SepH SepI SepJ SepK. -/
import Derived.Test.YtjdjialgjmphjaaGreatS4
set_option linter.all false
section
namespace Go.Sep
open Go
section
variable {P : Program} {env : List (Nat × Value)} {pre : List Chunk} {T T1 E : TypeId} {x y : Operand} {α : Type} {enc : α → List Value} {sz : Nat}

/-- where an element is -/
theorem V.indexSL {g : Bool} {s : SL enc sz} {i : Int} {k1 : IntKind} [hu : TyU P T1 (.slice E)] [he : TyS P E sz g]
    (hx : ev env x = some s.val) (hy : ev env y = some (.int k1 i)) (hi : 0 ≤ i ∧ i < s.xs.length) :
    OpV P (.indexAddr T1 x y) T env (.pointer (some ⟨s.b.getD 0, i.toNat * sz, none⟩)) := by
  cases hb : s.b with
  | none => have := s.nil hb; rw [this] at hi; simp at hi; omega
  | some b =>
    have h := V.indexAddr (P := P) (T := T) (T1 := T1) (env := env) (x := x) (y := y) (b := b) (o := 0) (l := s.xs.length) (c := s.cap) (i := i) (k1 := k1)
      (by rw [hx]; simp only [SL.val, hb]) hy hi
    simpa using h

theorem V.loadSL (kp : Nat) {s : SL enc sz} {i : Nat} {a : α} [hE : Enc enc sz] [ht : TyS P E sz true] (hx : ev env x = some (.pointer (some ⟨s.b.getD 0, i * sz, none⟩)))
    (hc : nthC kp pre = some (s.ch E)) (ha : s.xs[i]? = some a) : OpR P (.load E x) T env pre (.agg (enc a).toArray) := by
  cases hb : s.b with
  | none => have := s.nil hb; rw [this] at ha; simp at ha
  | some b =>
    exact V.loadN kp (b := b) (o := i * sz) (Tb := E) (by rw [hx, hb]; rfl) (by rw [hc]; simp only [SL.ch, hb]) (flat_get s.xs s.junk i a ha)

theorem V.loadSL1 (kp : Nat) {enc : α → List Value} {s : SL enc 1} {i : Nat} {a : α} {v : Value} [hE : Enc enc 1] [ht : TyS P E 1 false] (hx : ev env x = some (.pointer (some ⟨s.b.getD 0, i * 1, none⟩)))
    (hc : nthC kp pre = some (s.ch E)) (ha : s.xs[i]? = some a) (hv : enc a = [v]) : OpR P (.load E x) T env pre v := by
  cases hb : s.b with
  | none => have := s.nil hb; rw [this] at ha; simp at ha
  | some b =>
    exact V.load1 kp (b := b) (o := i * 1) (Tb := E) (l := flat enc s.xs ++ s.junk) (by rw [hx, hb]; rfl) (by rw [hc]; simp only [SL.ch, hb]) (by rw [flat_get (sz := 1) s.xs s.junk i a ha, hv])
end

section
variable {P : Program} {ops : Array Oper} {Q : Exit → Act → World → Prop} {n : Nat} {R : Fr} {rest : List Oper} {env : List (Nat × Value)} {pre : List Chunk} {T : TypeId} {pos : String} {aft : Array Edge}

theorem WL.skipU {d : Nat} {op : Op} {j : Nat} {want : Bool} (hw : ∀ a : Act, Env a n env → yielded ops a.tmps j ≠ some want) (hd : Nat.blt d n = true)
    (k : WL P ops Q n R rest ((d, undef) :: env) pre) : WL P ops Q n R (⟨some d, op, T, pos, aft, some (j, want)⟩ :: rest) env pre := by
  intro a w ha hown
  have hne : (yielded ops a.tmps j == some want) = false := by
    have := hw a ha
    cases h : yielded ops a.tmps j with
    | none => rfl
    | some b => rw [h] at this; simpa using this
  simp only [wpL, Region.wanted, hne]
  exact k _ w (ha.put hd) hown

/-- its guard does not let it run: nothing is known of it behind that -/
theorem WL.gn2 {d : Nat} {op : Op} {j t : Nat} {want b : Bool} (hj : ((ops[j]?).bind (·.dst)) = some t) (hb : lk t env = some (.bool b)) (hne : want = !b) (hd : Nat.blt d n = true)
    (k : WL P ops Q n R rest ((d, undef) :: env) pre) : WL P ops Q n R (⟨some d, op, T, pos, aft, some (j, want)⟩ :: rest) env pre :=
  WL.skipU (fun a ha => by
    have hg := ha.get t _ hb
    have : a.tmps[t]? = some (.bool b) := by
      simp only [Array.getD_eq_getD_getElem?] at hg
      cases ht : a.tmps[t]? with
      | none => rw [ht] at hg; simp [undef] at hg
      | some v => rw [ht] at hg; simp at hg; rw [hg]
    simp [yielded, hj, this]
    subst hne
    cases b <;> simp) hd k

/-- its guard did not run -/
theorem WL.gu {d : Nat} {op : Op} {j t : Nat} {want : Bool} (hj : ((ops[j]?).bind (·.dst)) = some t) (hb : lk t env = some undef) (hd : Nat.blt d n = true)
    (k : WL P ops Q n R rest ((d, undef) :: env) pre) : WL P ops Q n R (⟨some d, op, T, pos, aft, some (j, want)⟩ :: rest) env pre :=
  WL.skipU (fun a ha => by
    have hg := ha.get t _ hb
    simp only [yielded, hj, Option.bind_some]
    simp only [Array.getD_eq_getD_getElem?] at hg
    cases ht : a.tmps[t]? with
    | none => simp
    | some v => rw [ht] at hg; simp at hg; subst hg; simp [undef]) hd k
end
end Go.Sep
end
section
namespace Go.Sep
open Go
section
variable {P : Program} {fn : Func} {Rp : Ending → World → Prop} {l : List Oper} {Q : Exit → Act → World → Prop} {n : Nat} {R : Fr} {Hc : List Chunk} {rem rem1 rem2 : Rem} {env : List (Nat × Value)} {pre : List Chunk} {stk : List K}

/-- several may come up: whichever it is -/
theorem WH.anyH (hex : noneRdy l.length rem rem = false)
    (k : ∀ i o rem', rem.Perm ((i, o) :: rem') → rdyE l.length rem o.after.toList = true → RemOK l rem' → noSel l = true → isV o.op = false ∧ WL P l.toArray (contG P l Q Hc Hc rem') n R [o] env pre) :
    WH P l Q n R Hc rem env pre := by
  intro ok hns a w ha hw
  have hne : ∃ i o, (i, o) ∈ rem ∧ rdyE l.length rem o.after.toList = true := by
    have key : ∀ r : Rem, noneRdy l.length rem r = false → ∃ i o, (i, o) ∈ r ∧ rdyE l.length rem o.after.toList = true := by
      intro r
      induction r with
      | nil => intro h; simp [noneRdy] at h
      | cons p r ih =>
        obtain ⟨j, oj⟩ := p
        intro h
        simp only [noneRdy] at h
        split at h
        · rename_i hr; exact ⟨j, oj, by simp, hr⟩
        · obtain ⟨i, o, h1, h2⟩ := ih h; exact ⟨i, o, List.mem_cons_of_mem _ h1, h2⟩
    exact key rem hex
  obtain ⟨i₀, o₀, hm₀, hr₀⟩ := hne
  have hlen : ∃ m, rem.length = m + 1 := ⟨rem.length - 1, by have := List.length_pos_of_mem hm₀; omega⟩
  obtain ⟨m, hm⟩ := hlen
  rw [hm]
  refine ⟨fun h => ?_, fun j hj => ?_⟩
  · have : i₀ ∈ Region.ready .any l.toArray (lst l.length rem) := (ready_iff ok).2 ⟨o₀, hm₀, hr₀⟩
    rw [h] at this; cases this
  · obtain ⟨oj, hmj, hrj⟩ := (ready_iff ok).1 hj
    obtain ⟨r1, r2, hsplit⟩ := List.append_of_mem hmj
    have hperm : rem.Perm ((j, oj) :: (r1 ++ r2)) := by rw [hsplit]; exact List.perm_middle
    have ok' : RemOK l ((j, oj) :: (r1 ++ r2)) := ok.perm hperm.symm
    obtain ⟨hbig, hwl⟩ := k j oj (r1 ++ r2) hperm hrj ok'.tail hns
    have hone := hwl a w ha hw
    have hat := ok'.at_ j oj (by simp)
    have hset : (lst l.length rem).setIfInBounds j true = lst l.length (r1 ++ r2) := lst_set fun j' => by
      rw [← inRem_perm hperm.symm j']; exact inRem_tail ok' j'
    have hlen' : m = (r1 ++ r2).length := by have := hperm.length_eq; simp at this ⊢; omega
    rw [hset, hlen']
    have hat' : l.toArray[j]? = some oj := by simpa using hat
    have h1 : wpOps P l.toArray (contG P l Q Hc Hc (r1 ++ r2)) [j] a w := wpOps_of_wpL [j] [oj] a w (by simp [hat]) hone
    rw [wpOps_cons] at h1
    have hD' : ∀ w', Has w' Hc → Dd l Hc j w w' := fun w' h => by simp only [Dd, hat, hbig]; exact fun _ => h
    unfold wpOp at h1 ⊢
    simp only [hat'] at h1 ⊢
    have step : ∀ a' w', contG P l Q Hc Hc (r1 ++ r2) .normal a' w' → Dd l Hc j w w' ∧ wpAnyD P .any l.toArray (NP Q) (Dd l Hc) (r1 ++ r2).length (lst l.length (r1 ++ r2)) a' w' := fun a' w' h => ⟨hD' w' h.1, h.2⟩
    split
    · rename_i hw; simp only [hw, if_true] at h1
      rcases h1 with h1 | ⟨h1, a₀, w₀, h'⟩
      · left
        unfold Oper.wp at h1 ⊢
        revert h1
        generalize (execOp a.eval oj).run P _ = r
        intro h
        unfold Oper.upon at h ⊢
        split at h
        · exact step _ _ h
        · exact step _ _ h
        · exact step _ _ h
        · refine h.mono ?_
          intro e w'' he
          cases e with
          | returned v => exact step _ _ he
          | panicked chain => exact he.elim
          | outgrown => exact he
        · exact h.mono fun v w'' he => step _ _ he
        · exact h.elim
        · exact h.elim
      · exact .inr ⟨h1, a₀, w₀, h'⟩
    · rename_i hw; simp only [hw] at h1
      exact step _ _ h1

/-- one of two -/
theorem WH.two {i1 i2 : Nat} {o1 o2 : Oper} (hp1 : pickB l.length rem rem = some ((i1, o1), rem1)) (hp2 : pickB l.length rem rem1 = some ((i2, o2), rem2)) (hno : noneRdy l.length rem rem2 = true)
    (hb1 : isV o1.op = false) (hb2 : isV o2.op = false)
    (k1 : RemOK l rem1 → noSel l = true → WL P l.toArray (contG P l Q Hc Hc rem1) n R [o1] env pre)
    (k2 : RemOK l ((i1, o1) :: rem2) → noSel l = true → WL P l.toArray (contG P l Q Hc Hc ((i1, o1) :: rem2)) n R [o2] env pre) :
    WH P l Q n R Hc rem env pre := by
  obtain ⟨hr1, hperm1⟩ := pickB_spec hp1
  obtain ⟨hr2, hperm2⟩ := pickB_spec hp2
  have hperm : rem.Perm ((i1, o1) :: (i2, o2) :: rem2) := hperm1.trans (hperm2.cons _)
  -- by the same tale, whatever is left stands in another order
  have same : ∀ r r' : Rem, r.Perm r' → contG P l Q Hc Hc r = contG P l Q Hc Hc r' := fun r r' hpp => by
    have e1 : lst l.length r = lst l.length r' := by
      unfold lst; congr 1; refine List.map_congr_left fun j _ => ?_
      rw [inRem_perm hpp.symm j]
    funext e a w
    cases e <;> simp only [contG, e1, hpp.length_eq]
  refine WH.anyH ?_ ?_
  · cases hn : noneRdy l.length rem rem with
    | false => rfl
    | true =>
      have := noneRdy_spec hn i1 o1 (hperm.mem_iff.2 (by simp))
      rw [hr1] at this; simp at this
  · intro i o rem' hp hr ok' hns
    have hmem : (i, o) ∈ rem := hp.mem_iff.2 (by simp)
    have hm2 := hperm.mem_iff.1 hmem
    simp only [List.mem_cons] at hm2
    rcases hm2 with h | h | h
    · simp only [Prod.mk.injEq] at h
      obtain ⟨rfl, rfl⟩ := h
      have hpr : rem'.Perm rem1 := by
        have := hp.symm.trans hperm1
        exact (List.perm_cons _).1 this
      refine ⟨hb1, ?_⟩
      rw [same _ _ hpr]
      exact k1 (ok'.perm hpr.symm) hns
    · simp only [Prod.mk.injEq] at h
      obtain ⟨rfl, rfl⟩ := h
      have hpr : rem'.Perm ((i1, o1) :: rem2) := by
        have := hp.symm.trans (hperm.trans (List.Perm.swap _ _ _))
        exact (List.perm_cons _).1 this
      refine ⟨hb2, ?_⟩
      rw [same _ _ hpr]
      exact k2 (ok'.perm hpr.symm) hns
    · have := noneRdy_spec hno i o h
      rw [hr] at this; simp at this
end
end Go.Sep
end
section
namespace Go.Sep
open Go
section
variable {P : Program} {fn : Func} {Rp : Ending → World → Prop} {l : List Oper} {Q : Exit → Act → World → Prop} {n : Nat} {R : Fr} {Hc : List Chunk} {rem rem1 rem2 : Rem} {env : List (Nat × Value)} {pre : List Chunk} {stk : List K}
  {T : TypeId} {pos : String} {aft : Array Edge} {d : Nat}

/-- a read and one that turns memory may come up: whichever it is -/
theorem WH.vOr {i1 i2 : Nat} {op : Op} {g : Option (Nat × Bool)} {v : Value} {o2 : Oper} (h : OpR P op T env pre v) (hg : gSays l env g = some true) (hv : isV op = true) (hd : Nat.blt d n = true)
    (hp1 : pickV l.length rem rem = some ((i1, ⟨some d, op, T, pos, aft, g⟩), rem1)) (hp2 : pickB l.length rem rem1 = some ((i2, o2), rem2)) (hno : noneRdy l.length rem rem2 = true)
    (hb2 : isV o2.op = false)
    (k1 : WH P l Q n R Hc rem1 ((d, v) :: env) pre)
    (k2 : RemOK l ((i1, ⟨some d, op, T, pos, aft, g⟩) :: rem2) → noSel l = true → WL P l.toArray (contG P l Q Hc Hc ((i1, ⟨some d, op, T, pos, aft, g⟩) :: rem2)) n R [o2] env pre) :
    WH P l Q n R Hc rem env pre := by
  intro ok hns a w ha hw
  obtain ⟨hr1, hperm1⟩ := pickV_spec hp1
  obtain ⟨hr2, hperm2⟩ := pickB_spec hp2
  have ok1 : RemOK l ((i1, ⟨some d, op, T, pos, aft, g⟩) :: rem1) := ok.perm hperm1.symm
  have hperm : rem.Perm ((i2, o2) :: (i1, ⟨some d, op, T, pos, aft, g⟩) :: rem2) := (hperm1.trans (hperm2.cons _)).trans (List.Perm.swap _ _ _)
  have ok2 : RemOK l ((i2, o2) :: (i1, ⟨some d, op, T, pos, aft, g⟩) :: rem2) := ok.perm hperm.symm
  have hlen : rem.length = rem1.length + 1 := by rw [hperm1.length_eq]; simp
  have hlen2 : rem1.length = ((i1, (⟨some d, op, T, pos, aft, g⟩ : Oper)) :: rem2).length := by rw [hperm2.length_eq]; simp
  have hat1 := ok1.at_ i1 _ (List.mem_cons_self ..)
  have hat2 := ok2.at_ i2 o2 (List.mem_cons_self ..)
  have hset1 : (lst l.length rem).setIfInBounds i1 true = lst l.length rem1 := lst_set fun j => by
    rw [← inRem_perm hperm1.symm j]; exact inRem_tail ok1 j
  have hset2 : (lst l.length rem).setIfInBounds i2 true = lst l.length ((i1, ⟨some d, op, T, pos, aft, g⟩) :: rem2) := lst_set fun j => by
    rw [← inRem_perm hperm.symm j]; exact inRem_tail ok2 j
  have hi1 : i1 ∈ Region.ready .any l.toArray (lst l.length rem) := (ready_iff ok).2 ⟨_, hperm1.mem_iff.2 (List.mem_cons_self ..), hr1⟩
  rw [hlen]
  refine ⟨fun hh => (by rw [hh] at hi1; cases hi1), fun j hj => ?_⟩
  obtain ⟨oj, hm, hrj⟩ := (ready_iff ok).1 hj
  have hm2 := hperm.mem_iff.1 hm
  simp only [List.mem_cons] at hm2
  rcases hm2 with e | e | e
  · -- the one that turns memory
    simp only [Prod.mk.injEq] at e
    obtain ⟨rfl, rfl⟩ := e
    rw [hset2, hlen2]
    have hwl := k2 ok2.tail hns a w ha hw
    have hat' : l.toArray[j]? = some oj := by simpa using hat2
    have h1 : wpOps P l.toArray (contG P l Q Hc Hc ((i1, ⟨some d, op, T, pos, aft, g⟩) :: rem2)) [j] a w := wpOps_of_wpL [j] [oj] a w (by simp [hat2]) hwl
    rw [wpOps_cons] at h1
    have hD' : ∀ w', Has w' Hc → Dd l Hc j w w' := fun w' h => by simp only [Dd, hat2, hb2]; exact fun _ => h
    unfold wpOp at h1 ⊢
    simp only [hat'] at h1 ⊢
    have step : ∀ a' w', contG P l Q Hc Hc ((i1, ⟨some d, op, T, pos, aft, g⟩) :: rem2) .normal a' w' → Dd l Hc j w w' ∧ wpAnyD P .any l.toArray (NP Q) (Dd l Hc) ((i1, (⟨some d, op, T, pos, aft, g⟩ : Oper)) :: rem2).length (lst l.length ((i1, ⟨some d, op, T, pos, aft, g⟩) :: rem2)) a' w' := fun a' w' h => ⟨hD' w' h.1, h.2⟩
    split
    · rename_i hw; simp only [hw, if_true] at h1
      rcases h1 with h1 | ⟨h1, a₀, w₀, h'⟩
      · left
        unfold Oper.wp at h1 ⊢
        revert h1
        generalize (execOp a.eval oj).run P _ = r
        intro h
        unfold Oper.upon at h ⊢
        split at h
        · exact step _ _ h
        · exact step _ _ h
        · exact step _ _ h
        · refine h.mono ?_
          intro e w'' he
          cases e with
          | returned v => exact step _ _ he
          | panicked chain => exact he.elim
          | outgrown => exact he
        · exact h.mono fun v w'' he => step _ _ he
        · exact h.elim
        · exact h.elim
      · exact .inr ⟨h1, a₀, w₀, h'⟩
    · rename_i hw; simp only [hw] at h1
      exact step _ _ h1
  · -- the read
    simp only [Prod.mk.injEq] at e
    obtain ⟨rfl, rfl⟩ := e
    rw [hset1]
    have hat' : l.toArray[j]? = some ⟨some d, op, T, pos, aft, g⟩ := by simpa using hat1
    have hy : YieldsIf P l.toArray (fun w => Has w pre) ⟨some d, op, T, pos, aft, g⟩ v a :=
      .inl ⟨gSays_wanted hg ha, fun w hS => h _ _ _ _ a.eval w (fun x v hx => ha.ev hx) hS⟩
    refine hy.wpOp hat' hw.has ⟨?_, k1 ok1.tail hns _ w (ha.put hd) hw⟩
    simp only [Dd, hat1, hv]
  · have := noneRdy_spec hno j oj e
    rw [hrj] at this; simp at this

theorem WHT.vOr {i1 i2 : Nat} {op : Op} {g : Option (Nat × Bool)} {v : Value} {o2 : Oper} (h : OpR P op T env pre v) (hg : gSays l env g = some true) (hv : isV op = true) (hd : Nat.blt d n = true)
    (hp2 : pickB l.length rem rem1 = some ((i2, o2), rem2)) (hno : noneRdy l.length rem rem2 = true)
    (hb2 : isV o2.op = false)
    (k1 : WH P l Q n R Hc rem1 ((d, v) :: env) pre)
    (k2 : RemOK l ((i1, ⟨some d, op, T, pos, aft, g⟩) :: rem2) → noSel l = true → WL P l.toArray (contG P l Q Hc Hc ((i1, ⟨some d, op, T, pos, aft, g⟩) :: rem2)) n R [o2] env pre) :
    WHT P l Q n R Hc (i1, ⟨some d, op, T, pos, aft, g⟩) rem1 rem env pre := fun hp1 => WH.vOr h hg hv hd hp1 hp2 hno hb2 k1 k2

/-- it is taken later -/
theorem WHT.defer {x : Nat × Oper} (k : WH P l Q n R Hc (rem1 ++ [x]) env pre) : WHT P l Q n R Hc x rem1 rem env pre := fun hp => by
  obtain ⟨i, o⟩ := x
  obtain ⟨_, hperm⟩ := pickV_spec hp
  exact WH.permRem (List.Perm.trans (List.perm_append_comm (l₁ := rem1) (l₂ := [(i, o)])) hperm.symm) k
end
end Go.Sep
end
section
namespace Go.Sep
open Go

/-- as fillL, in an array -/
def fillA (size : Nat) : List (Nat × Value) → List Value → Option (List Value)
  | [], l => some l
  | (i, v) :: ps, l => match Nat.beq (cellsV v).length size with
    | true => match setN (i * size) (cellsV v) l with
      | some l' => fillA size ps l'
      | none => none
    | false => none

theorem fill_ofA {size : Nat} : ∀ (ps : List (Nat × Value)) (l l' : List Value), fillA size ps l = some l' → (∀ p ∈ ps, cellsV p.2 ≠ []) →
    Instr.fill (fun i => some (i * size, size)) l.toArray ps = some l'.toArray
  | [], l, l', h, _ => by simp [fillA] at h; subst h; simp [Instr.fill]
  | (i, v) :: ps, l, l', h, hne => by
    simp only [fillA] at h
    split at h
    · rename_i hsz
      have hsz' : (cellsV v).length = size := Nat.eq_of_beq_eq_true hsz
      split at h
      · rename_i l₁ hs
        have hfit := setN_fits (i * size) (cellsV v) l l₁ hs (hne (i, v) (by simp))
        have ih := fill_ofA ps l₁ l' h (fun p hp => hne p (by simp [hp]))
        have hf := foldl_set (cellsV v) (i * size) 0 l l₁ (by simpa using hs)
        simp only [Instr.fill, cells_cellsV]
        have hcond : ¬ ((cellsV v).toArray.size ≠ size ∨ i * size + (cellsV v).toArray.size > l.toArray.size) := by simp [hsz']; omega
        simp only [ne_eq, decide_not, Bool.or_eq_true, Bool.not_eq_eq_eq_not, Bool.not_true, decide_eq_false_iff_not, decide_eq_true_eq]
        rw [if_neg (by simpa using hcond)]
        rw [← ih]
        congr 1
        rw [← hf]
        rw [← Array.foldl_toList]
        simp
      · simp at h
    · simp at h

class TyA (P : Program) (T : TypeId) (E : outParam TypeId) (n size : outParam Nat) (z : outParam (List Value)) : Prop where
  u : P.underlying T = some (.array n E)
  s : ∀ w, (sizeOf E).run P w = .ok size w
  g : ∀ w, (isAgg E).run P w = .ok true w
  z : ∀ w, (zeroValue T).run P w = .ok (.agg z.toArray) w

section
variable {P : Program} {env : List (Nat × Value)} {T T1 : TypeId} {x y : Operand}

theorem V.buildA {E n size : Nat} {z l : List Value} {ps : List (Nat × Operand)} {pv : List (Nat × Value)} [ha : TyA P T1 E n size z] (hx : evp env ps = some pv)
    (hl : fillA size pv z = some l) (hne : noEmpty pv = true) : OpV P (.build T1 ps.toArray) T env (.agg l.toArray) := fun _ _ _ _ ρ w hs => by
  have h1 := evp_map hs ps pv hx
  have h2 : ps.toArray.map (fun (x : Nat × Operand) => (x.1, ρ x.2)) = pv.toArray := by simp [← h1]
  have h3 := fill_ofA (size := size) pv z l hl (noEmpty_mem pv hne)
  simp [execOp, h2, Instr.build, ha.z, ha.u, ha.s, underlying, Value.cells, h3]

theorem V.indexA {E n size : Nat} {z l us : List Value} {i : Int} {k1 : IntKind} [ha : TyA P T1 E n size z] (hx : ev env x = some (.agg l.toArray)) (hy : ev env y = some (.int k1 i))
    (hi : 0 ≤ i ∧ i < n) (hv : getN (i.toNat * size) size l = some us) : OpV P (.index T1 x y) T env (.agg us.toArray) := fun _ _ _ _ ρ w hs => by
  obtain ⟨h1, h2⟩ := getN_get hv
  have e : l.toArray.extract (i.toNat * size) (i.toNat * size + size) = us.toArray := by
    apply Array.ext'
    simp only [Array.toList_extract, List.toList_toArray]
    apply List.ext_getElem?
    intro j
    simp only [List.extract_eq_take_drop, List.getElem?_take, List.getElem?_drop]
    by_cases hj : j < size
    · rw [if_pos (by omega), h2 j hj]
    · rw [if_neg (by omega)]
      symm
      exact List.getElem?_eq_none (by omega)
  have e2 : List.take size (List.drop (i.toNat * size) l) = us := by
    have := congrArg Array.toList e
    simpa using this
  simp [execOp, hs x _ hx, hs y _ hy, Instr.index, asIntOf, underlying, ha.u, hi.1, hi.2, ha.s, part, ha.g, e2]
end
end Go.Sep
end
