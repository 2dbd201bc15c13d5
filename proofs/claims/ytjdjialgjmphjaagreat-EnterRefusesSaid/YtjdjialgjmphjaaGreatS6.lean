/- Part of the proof: SepL SepM SepN SepO. -/
import Derived.Test.YtjdjialgjmphjaaGreatS5
import Derived.Test.YtjdjialgjmphjaaGreatS4
import Derived.Test.YtjdjialgjmphjaaGreatS3
set_option linter.all false
section
namespace Go.Sep
open Go
section
variable {P : Program} {l : List Oper} {Q : Exit → Act → World → Prop} {n : Nat} {R : Fr} {Hc : List Chunk} {rem rem' : Rem} {env₀ : List (Nat × Value)} {pre : List Chunk}

theorem par_goH (hH : ∀ c ∈ Hc, c ∈ pre) (S₀ : List POp) (hnd : (S₀.map (·.d)).Nodup) (hd : ∀ s ∈ S₀, lk s.d env₀ = none) (hdst : ∀ s ∈ S₀, isV s.o.op = false) (hA : ∀ s ∈ S₀, AOp P n env₀ s)
    (hrdy : ∀ s ∈ S₀, rdyE l.length (rems S₀ ++ rem') s.o.after.toList = true) (hwait : ∀ s ∈ S₀, noneRdy l.length ((s.i, s.o) :: rem') rem' = true)
    (k : ∀ vs : List (POp × (Value × List Chunk)), vs.map Prod.fst = S₀ → (∀ x ∈ vs, x.1.Qp x.2.1 x.2.2) →
      WH P l Q n R Hc rem' (vs.map (fun x => (x.1.d, x.2.1)) ++ env₀) ((vs.map fun x => x.2.2).flatten ++ pre)) :
    ∀ (m : Nat) (S : List POp) (D : List (POp × (Value × List Chunk))) (env : List (Nat × Value)) (pr : List Chunk), S.length = m → (D.map Prod.fst ++ S).Perm S₀ → (∀ x ∈ D, x.1.Qp x.2.1 x.2.2) →
      subEnv env₀ env → (∀ x ∈ D, lk x.1.d env = some x.2.1) → pr.Perm ((D.map fun x => x.2.2).flatten ++ pre) → WH P l Q n R Hc (rems S ++ rem') env pr
  | 0, S, D, env, pr, hm, hp, hQ, hsub, henv, hpr => by
    have hS : S = [] := List.length_eq_zero_iff.1 hm
    subst hS
    rw [List.append_nil] at hp
    obtain ⟨D', h1, h2⟩ := perm_map_fst S₀ D hp
    have hk := k D' h2 (fun x hx => hQ x (h1.mem_iff.1 hx))
    refine WH.sub (env' := D'.map (fun x => (x.1.d, x.2.1)) ++ env₀) ?_ (WH.perm (pre' := (D'.map fun x => x.2.2).flatten ++ pre) ?_ hk)
    · intro t v ht
      have key : ∀ L : List (POp × (Value × List Chunk)), (∀ x ∈ L, x ∈ D) → lk t (L.map (fun x => (x.1.d, x.2.1)) ++ env₀) = some v → lk t env = some v := by
        intro L
        induction L with
        | nil => intro _ h; exact hsub t v (by simpa using h)
        | cons x L ih =>
          intro hL h
          simp only [List.map_cons, List.cons_append, lk] at h
          split at h
          · rename_i he
            have : x.1.d = t := Nat.eq_of_beq_eq_true he
            simp at h; subst h; subst this
            exact henv x (hL x (by simp))
          · exact ih (fun y hy => hL y (List.mem_cons_of_mem _ hy)) h
      exact key D' (fun x hx => h1.mem_iff.1 hx) ht
    · have h3 : ((D'.map fun x => x.2.2).flatten ++ pre).Perm pr := by
        refine List.Perm.trans ?_ hpr.symm
        exact List.Perm.append_right _ ((h1.map _).flatten)
      exact h3.flatten
  | m + 1, S, D, env, pr, hm, hp, hQ, hsub, henv, hpr => by
    have hmem : ∀ s ∈ S, s ∈ S₀ := fun s hs => hp.mem_iff.1 (List.mem_append_right _ hs)
    have hin : ∀ j, inRem j (rems S ++ rem') = true → inRem j (rems S₀ ++ rem') = true := by
      intro j hj
      obtain ⟨o, ho⟩ := inRem_iff.1 hj
      simp only [List.mem_append] at ho
      rcases ho with ho | ho
      · obtain ⟨s, hs, e⟩ := List.mem_map.1 ho
        exact inRem_iff.2 ⟨o, List.mem_append_left _ (List.mem_map.2 ⟨s, hmem s hs, e⟩)⟩
      · exact inRem_iff.2 ⟨o, List.mem_append_right _ ho⟩
    have hrdyS : ∀ s ∈ S, rdyE l.length (rems S ++ rem') s.o.after.toList = true := fun s hs => rdyE_mono hin (hrdy s (hmem s hs))
    cases S with
    | nil => simp at hm
    | cons s₁ S₁ =>
      refine WH.anyH ?_ ?_
      · cases hb : noneRdy l.length (rems (s₁ :: S₁) ++ rem') (rems (s₁ :: S₁) ++ rem') with
        | false => rfl
        | true =>
          have := noneRdy_spec hb s₁.i s₁.o (by simp [rems])
          rw [hrdyS s₁ (by simp)] at this; simp at this
      · intro i o rem₁ hperm hr ok hns
        have hmo : (i, o) ∈ rems (s₁ :: S₁) ++ rem' := hperm.mem_iff.2 (by simp)
        simp only [List.mem_append] at hmo
        rcases hmo with hmo | hmo
        · obtain ⟨s, hs, e⟩ := List.mem_map.1 hmo
          simp at e
          obtain ⟨rfl, rfl⟩ := e
          refine ⟨hdst s (hmem s hs), ?_⟩
          refine hA s (hmem s hs) _ _ R env pr hsub ?_
          intro v A hv
          obtain ⟨S1, S2, hS⟩ := List.append_of_mem hs
          have hpS : (s₁ :: S₁).Perm (s :: (S1 ++ S2)) := by rw [hS]; exact List.perm_middle
          have hprem : rem₁.Perm (rems (S1 ++ S2) ++ rem') := by
            have h1 : ((s.i, s.o) :: rem₁).Perm ((s.i, s.o) :: (rems (S1 ++ S2) ++ rem')) := hperm.symm.trans (by
              have h2 : (rems (s₁ :: S₁)).Perm (rems (s :: (S1 ++ S2))) := hpS.map _
              simpa [rems] using h2.append_right rem')
            exact h1.cons_inv
          have hnd' : ∀ x ∈ D, x.1.d ≠ s.d := by
            have h1 : ((D.map Prod.fst ++ (s₁ :: S₁)).map (·.d)).Nodup := ((hp.map (·.d)).nodup_iff).2 hnd
            rw [List.map_append, List.nodup_append] at h1
            intro x hx e
            exact h1.2.2 _ (List.mem_map_of_mem (List.mem_map_of_mem hx)) _ (List.mem_map_of_mem hs) e
          refine WL.nextH (ok := ok) (hns := hns) (fun c hc => List.mem_append_right A (hpr.mem_iff.2 (List.mem_append_right _ (hH c hc)))) (WH.permRem hprem.symm ?_)
          refine par_goH hH S₀ hnd hd hdst hA hrdy hwait k m (S1 ++ S2) ((s, (v, A)) :: D) ((s.d, v) :: env) (A ++ pr) ?_ ?_ ?_ ?_ ?_ ?_
          · have := hpS.length_eq; simp at this hm ⊢; omega
          · have h1 : (D.map Prod.fst ++ (s :: (S1 ++ S2))).Perm S₀ := (List.Perm.append_left _ hpS.symm).trans hp
            have h2 : (s :: (D.map Prod.fst ++ (S1 ++ S2))).Perm (D.map Prod.fst ++ (s :: (S1 ++ S2))) := List.perm_middle.symm
            simpa using h2.trans h1
          · intro x hx; simp at hx; rcases hx with rfl | hx; exact hv; exact hQ x hx
          · intro t u ht
            simp only [lk]
            split
            · rename_i he
              have : s.d = t := Nat.eq_of_beq_eq_true he
              subst this
              rw [hd s (hmem s hs)] at ht; simp at ht
            · exact hsub t u ht
          · intro x hx
            simp at hx
            rcases hx with rfl | hx
            · simp [lk]
            · simp only [lk]
              have : Nat.beq s.d x.1.d = false := by
                cases hb : Nat.beq s.d x.1.d with
                | true => exact absurd (Nat.eq_of_beq_eq_true hb).symm (hnd' x hx)
                | false => rfl
              rw [this]
              exact henv x hx
          · simp only [List.map_cons, List.flatten_cons, List.append_assoc]
            exact List.Perm.append_left A hpr
        · have h1 := noneRdy_spec (hwait s₁ (hmem s₁ (by simp))) i o hmo
          have h2 : rdyE l.length ((s₁.i, s₁.o) :: rem') o.after.toList = true := rdyE_mono (r' := rems (s₁ :: S₁) ++ rem') (by
            intro j hj
            obtain ⟨o', ho'⟩ := inRem_iff.1 hj
            simp at ho'
            rcases ho' with ⟨rfl, rfl⟩ | ho'
            · exact inRem_iff.2 ⟨s₁.o, by simp [rems]⟩
            · exact inRem_iff.2 ⟨o', List.mem_append_right _ ho'⟩) hr
          rw [h1] at h2; simp at h2

/-- operations that make memory, in whatever order they come -/
theorem WH.parH (hH : ∀ c ∈ Hc, c ∈ pre) (S : List POp) (rem' : Rem) (hp : (rems S ++ rem').Perm rem) (hnd : (S.map (·.d)).Nodup) (hd : ∀ s ∈ S, lk s.d env₀ = none) (hdst : ∀ s ∈ S, isV s.o.op = false) (hA : ∀ s ∈ S, AOp P n env₀ s)
    (hrdy : ∀ s ∈ S, rdyE l.length (rems S ++ rem') s.o.after.toList = true) (hwait : ∀ s ∈ S, noneRdy l.length ((s.i, s.o) :: rem') rem' = true)
    (k : ∀ vs : List (POp × (Value × List Chunk)), vs.map Prod.fst = S → (∀ x ∈ vs, x.1.Qp x.2.1 x.2.2) →
      WH P l Q n R Hc rem' (vs.map (fun x => (x.1.d, x.2.1)) ++ env₀) ((vs.map fun x => x.2.2).flatten ++ pre)) :
    WH P l Q n R Hc rem env₀ pre :=
  WH.permRem hp (par_goH hH S hnd hd hdst hA hrdy hwait k S.length S [] env₀ pre rfl (by simp) (by simp) (fun _ _ h => h) (by simp) (by simp))


/-- one that makes memory, by its own law -/
theorem AOp.of {P : Program} {n : Nat} {env₀ : List (Nat × Value)} {s : POp}
    (h : ∀ (ops : Array Oper) (Q : Exit → Act → World → Prop) (R : Fr) (env : List (Nat × Value)) (pre : List Chunk), subEnv env₀ env →
      (∀ v A, s.Qp v A → WL P ops Q n R [] ((s.d, v) :: env) (A ++ pre)) → WL P ops Q n R [s.o] env pre) : AOp P n env₀ s := h

theorem AOp.makeMap {P : Program} {n : Nat} {env₀ : List (Nat × Value)} {i d : Nat} {T1 T KT VT : TypeId} {pos : String} {aft : Array Edge} {α β : Type} [DecidableEq α] [hu : TyU P T1 (.map KT VT)] (kenc : α → Value) (venc : β → Value) (hd : Nat.blt d n = true) :
    AOp P n env₀ ⟨i, ⟨some d, .makeMap T1 none, T, pos, aft, none⟩, d, fun v A => ∃ r, v = .map (some r) ∧ A = [mapC r kenc venc (GMap.empty : GMap α β)]⟩ := by
  intro ops Q R env pre _ k
  refine WL.makeMap kenc venc hd ?_
  intro r
  exact k _ _ ⟨r, rfl, rfl⟩

theorem AOp.call {P : Program} {n : Nat} {env₀ : List (Nat × Value)} {i d : Nat} {T : TypeId} {pos : String} {aft : Array Edge} {f : FuncId} {xs : List Operand} {args : List Value} {ats : Array TypeId} {Qp : Value → List Chunk → Prop}
    (S : Spec P f args [] Qp) (hx : ∀ env, subEnv env₀ env → evs env xs = some args) (hd : Nat.blt d n = true) :
    AOp P n env₀ ⟨i, ⟨some d, .call ⟨.value (.func f), xs.toArray, ats⟩, T, pos, aft, none⟩, d, Qp⟩ := by
  intro ops Q R env pre hs k
  refine WL.call S [] (hx env hs) rfl hd ?_
  intro v A hq
  exact k v A hq
end
end Go.Sep
end
section
namespace Go.Sep
open Go
section
variable {P : Program} {ops : Array Oper} {Q : Exit → Act → World → Prop} {n : Nat} {R : Fr} {rest : List Oper} {env : List (Nat × Value)} {pre : List Chunk}
  {T T1 T2 KT VT : TypeId} {pos : String} {aft : Array Edge} {d : Nat} {x y u : Operand} {α β : Type} [DecidableEq α] {kenc : α → Value} {venc : β → Value}

/-- a map that has a new key, its value yet to come -/
abbrev midC (r : Nat) (kenc : α → Value) (venc : β → Value) (m : GMap α β) (k : α) (z : Value) : Chunk := [(r, .map ((m.es.map (encE kenc venc)) ++ [(⟨kenc k, z, m.ck⟩ : MapEntry)]).toArray (m.ck + 1))]

theorem WL.mapEntryNew (kp : Nat) {r : Nat} {m : GMap α β} {k : α} {z : Value} {pre' : List Chunk} [hu : TyU P T1 (.map KT VT)] [hk : KeyEnc P KT kenc] [hz : TyZ P VT z] (hnone : m.get k = none)
    (hx : ev env x = some (.map (some r))) (hy : ev env y = some (kenc k)) (hc : takeAt kp pre = some (mapC r kenc venc m, pre')) (hd : Nat.blt d n = true)
    (kk : WL P ops Q n R rest ((d, .tuple #[z, .int .i64 (m.ck : Int)]) :: env) (midC r kenc venc m k z :: pre')) :
    WL P ops Q n R (⟨some d, .mapEntry T1 x y, T, pos, aft, none⟩ :: rest) env pre :=
  WL.turn (X := Unit) (fun _ => .tuple #[z, .int .i64 (m.ck : Int)]) (fun _ => midC r kenc venc m k z :: pre') hd (fun ρ w hs ho => by
    have h1 := ho.at hc
    have hh := h1.head
    have hg := run_getMap (P := P) hh
    have hf := hk.find venc k m.es w
    have hlt : r < w.heap.size := (Array.getElem?_eq_some_iff.1 hh).1
    have hp : GMap.pos k m.es = none := by
      unfold GMap.get at hnone
      cases h : GMap.pos k m.es with
      | none => rfl
      | some x => rw [h] at hnone; simp at hnone
    rw [hp] at hf
    refine ⟨(), { w with heap := w.heap.setIfInBounds r (.map ((m.es.map (encE kenc venc)) ++ [(⟨kenc k, z, m.ck⟩ : MapEntry)]).toArray (m.ck + 1)) }, ?_, Own.set h1 (heap_set w r _ hlt).1 (heap_set w r _ hlt).2 ⟨rfl, rfl, rfl⟩⟩
    simp only [execOp, hs x _ hx, hs y _ hy, Instr.mapEntry]
    have hck := hk.check k false w
    simp [underlying, hu.u, hg, hck, hf, hz.z, run_setMap hh, goInt]) (fun _ => kk)

theorem WL.entryStoreNew (kp : Nat) {r : Nat} {m : GMap α β} {k : α} {z : Value} {v : β} {q : Int} {k1 : IntKind} {pre' : List Chunk} (hnone : m.get k = none) (hq : q = m.ck)
    (hx : ev env x = some (.map (some r))) (hy : ev env y = some (.int k1 q)) (hv : ev env u = some (venc v)) (hc : takeAt kp pre = some (midC r kenc venc m k z, pre'))
    (kk : WL P ops Q n R rest env (mapC r kenc venc (m.put k v) :: pre')) :
    WL P ops Q n R (⟨none, .entryStore T1 x y u, T, pos, aft, none⟩ :: rest) env pre :=
  WL.effect (X := Unit) (fun _ => mapC r kenc venc (m.put k v) :: pre') (fun ρ w hs ho => by
    have h1 := ho.at hc
    have hh := h1.head
    have hlt : r < w.heap.size := (Array.getElem?_eq_some_iff.1 hh).1
    have hp : GMap.pos k m.es = none := by
      unfold GMap.get at hnone
      cases h : GMap.pos k m.es with
      | none => rfl
      | some x => rw [h] at hnone; simp at hnone
    have hput := GMap.put_none (v := v) hp
    have hg : (getObj r).run P w = .ok (.map ((m.es.map (encE kenc venc)) ++ [(⟨kenc k, z, m.ck⟩ : MapEntry)]).toArray (m.ck + 1)) w := by simp [getObj, Sem.run, hh]
    refine ⟨(), { w with heap := w.heap.setIfInBounds r (.map ((m.put k v).es.map (encE kenc venc)).toArray (m.put k v).ck) }, ?_, Own.set h1 (heap_set w r _ hlt).1 (heap_set w r _ hlt).2 ⟨rfl, rfl, rfl⟩⟩
    have hfi : ((m.es.map (encE kenc venc)) ++ [(⟨kenc k, z, m.ck⟩ : MapEntry)]).findIdx? (fun e => (e.born : Int) == q) = some m.es.length := by
      subst hq
      rw [List.findIdx?_append]
      have h0 : (m.es.map (encE kenc venc)).findIdx? (fun e => (e.born : Int) == (m.ck : Int)) = none := by
        rw [List.findIdx?_eq_none_iff]
        intro e he
        obtain ⟨e', he', rfl⟩ := List.mem_map.1 he
        have := m.lt e' he'
        simp [encE]
        omega
      rw [h0]
      simp [List.findIdx?_cons]
    have hmod : (((m.es.map (encE kenc venc)) ++ [(⟨kenc k, z, m.ck⟩ : MapEntry)]).modify m.es.length fun e => { e with val := venc v }) = ((m.put k v).es.map (encE kenc venc)) := by
      rw [hput.1]
      apply List.ext_getElem?
      intro j
      simp only [List.getElem?_modify, List.map_append, List.map_cons, List.map_nil]
      by_cases hj : m.es.length = j
      · subst hj
        rw [List.getElem?_append_right (by simp), List.getElem?_append_right (by simp)]
        simp [encE]
      · by_cases hj2 : j < m.es.length
        · rw [List.getElem?_append_left (by simpa using hj2), List.getElem?_append_left (by simpa using hj2)]
          simp [hj]
        · rw [List.getElem?_eq_none (by simp; omega), List.getElem?_eq_none (by simp; omega)]
          simp
    have hck2 : m.ck + 1 = (m.put k v).ck := hput.2.symm
    have hset : (setObj r (.map ((m.put k v).es.map (encE kenc venc)).toArray (m.put k v).ck)).run P w = .ok () { w with heap := w.heap.setIfInBounds r (.map ((m.put k v).es.map (encE kenc venc)).toArray (m.put k v).ck) } := by simp [setObj, Sem.run, hh]
    generalize ((m.es.map (encE kenc venc)) ++ [(⟨kenc k, z, m.ck⟩ : MapEntry)]) = EL at hg hfi hmod
    simp only [execOp, hs x _ hx, hs y _ hy, hs u _ hv, Instr.entryStore]
    simp [hg, asInt, asIntOf, hfi, hmod, hset, hck2]) (fun _ => kk)

/-- []E{x, y, ..} -/
theorem WL.sliceK {T1 E : TypeId} {m len : Nat} {g : Bool} {ps : List (Nat × Operand)} {pv : List (Nat × Value)} {l : List Value} [hu : TyU P T1 (.slice E)] [he : TyS P E m g] {zz : Value} [hz : TyZ P E zz] (hx : evp env ps = some pv)
    (hz' : (cellsV zz).length = m) (hp : 0 < len * m) (hs : len * m ≤ 16777216) (hl : fillA m pv ((List.range (len * m)).map (fun i => (cellsV zz).getD (i % m) default)) = some l) (hne : noEmpty pv = true) (hd : Nat.blt d n = true)
    (k : ∀ r, WL P ops Q n R rest ((d, .slice (some ⟨r, 0, none⟩) len len) :: env) (blk r E l :: pre)) :
    WL P ops Q n R (⟨some d, .buildSlice T1 len ps.toArray, T, pos, aft, none⟩ :: rest) env pre :=
  WL.turn (X := Nat) (fun r => .slice (some ⟨r, 0, none⟩) len len) (fun r => blk r E l :: pre) hd (fun ρ w hs' ho => by
    refine ⟨w.heap.size, { w with heap := w.heap.push (.cells l.toArray E) }, ?_, ho.new _⟩
    have h1 := evp_map hs' ps pv hx
    have h2 : ps.toArray.map (fun (x : Nat × Operand) => (x.1, ρ x.2)) = pv.toArray := by simp [← h1]
    have h3 := fill_ofA (size := m) pv _ l hl (noEmpty_mem pv hne)
    have h5 : ¬ (len * m > 2 ^ 24) := by omega
    have h6 : ¬ (len * m = 0) := by omega
    simp only [execOp, h2]
    have h7 : ¬ (16777216 < len * m) := by omega
    have h8 : ¬ len = 0 := fun e => by rw [e] at hp; simp at hp
    have h9 : ¬ m = 0 := fun e => by rw [e] at hp; simp at hp
    have h4 : ((Array.range (len * m)).map fun x => (cellsV zz)[x % m]?.getD default) = ((List.range (len * m)).map (fun i => (cellsV zz).getD (i % m) default)).toArray := by
      apply Array.ext'
      simp only [Array.toList_map, Array.toList_range, List.getD_eq_getElem?_getD]
    simp [Instr.buildSlice, underlying, hu.u, he.s, hz.z, cells_cellsV, h7, h8, h9, hz']
    rw [if_neg h6, h4, h3]
    simp [run_newRow]) k
end
end Go.Sep
end
section
namespace Go.Sep
open Go
section
variable {P : Program} {ops : Array Oper} {Q : Exit → Act → World → Prop} {n : Nat} {R : Fr} {rest : List Oper} {env : List (Nat × Value)} {pre : List Chunk}
  {T T1 E : TypeId} {pos : String} {aft : Array Edge} {d : Nat} {x y : Operand}

theorem WL.makeSliceC {bytes l m : Nat} {z : Value} {k1 k2 : IntKind} [hu : TyU P T1 (.slice E)] [he : TyS P E 1 false] [hz : TyZ P E z] [hb : TyB P E bytes] (hx : ev env x = some (.int k1 (l : Int))) (hy : ev env y = some (.int k2 (m : Int)))
    (hlm : l ≤ m) (hz1 : oneC z = true) (hm : bytes * m ≤ 281474976710656) (hm2 : m < 9223372036854775808) (hd : Nat.blt d n = true)
    (k : ∀ r, WL P ops Q n R rest ((d, .slice (some ⟨r, 0, none⟩) l m) :: env) (blk r E (List.replicate m z) :: pre)) :
    WL P ops Q n R (⟨some d, .makeSlice T1 x y, T, pos, aft, none⟩ :: rest) env pre :=
  WL.turn (X := Nat) (fun r => .slice (some ⟨r, 0, none⟩) l m) (fun r => blk r E (List.replicate m z) :: pre) hd (fun ρ w hs' ho => by
    refine ⟨w.heap.size, { w with heap := w.heap.push (.cells (List.replicate m z).toArray E) }, ?_, ho.new _⟩
    obtain ⟨ti, hti, htb⟩ := hb.run w
    have hw : IntKind.i64.wrap (m : Int) = m := fits_i64 (by omega) (by omega)
    have hwl : IntKind.i64.wrap (l : Int) = l := fits_i64 (by omega) (by omega)
    have hbig : ¬ ((281474976710656 : Int) < (bytes : Int) * (m : Int)) := by
      have h1 : ((bytes * m : Nat) : Int) = (bytes : Int) * (m : Int) := Int.natCast_mul _ _
      rw [← h1]
      omega
    have hneg : ¬ ((m : Int) < 0) := by omega
    have hnegl : ¬ ((l : Int) < 0) := by omega
    have hlm' : ¬ ((m : Int) < (l : Int)) := by omega
    have hlm2 : ¬ (m < l) := by omega
    have hzc : z.cells = #[z] := by cases z <;> simp [oneC] at hz1 <;> rfl
    subst htb
    simp [execOp, hs' x _ hx, hs' y _ hy, Instr.makeSlice, underlying, hu.u, asInt, asIntOf, hti, hw, hwl, hbig, hneg, hnegl, hlm', hlm2, he.s, hz.z, hzc]
    cases m with
    | zero => simp [run_newRow, range0]
    | succ m =>
      simp [run_newRow]
      have e : (Array.range (m + 1)).map (fun i => ([z] : List Value)[i % 1]?.getD default) = Array.replicate (m + 1) z := by
        apply Array.ext'
        simp [Nat.mod_one, List.eq_replicate_iff]
      rw [e]) k
end
end Go.Sep
end
section
namespace Go.Sep
open Go
section
variable {P : Program} {T T1 : TypeId} {env : List (Nat × Value)} {pre : List Chunk} {x y : Operand}

/-- one cell of whatever row -/
theorem V.loadRaw (kp : Nat) {T1 b o Tb : Nat} {fr : Nat × Nat} {c : Array Value} {v : Value} [ht : TyS P T1 1 false] (hx : ev env x = some (.pointer (some ⟨b, o, none⟩)))
    (hc : nthC kp pre = some [(b, .cells c Tb fr)]) (hv : c[o]? = some v) : OpR P (.load T1 x) T env pre v := fun _ _ _ _ ρ w hs ho => by
  have hb := ho.nth hc
  have : w.cell? ⟨b, o, none⟩ = some v := by simp [World.cell?, hb, hv]
  simp [execOp, hs x _ hx, Instr.loadAt, Instr.sureAddr, loadVar, ht.g, this]
end

/-- a slice of numbers that came in: its row, and what stands there -/
structure ArgI (k : IntKind) (a : Option Addr) (len cap : Nat) (ch : Chunk) (zs : Nat → Int) : Prop where
  nil : a = none → len = 0
  row : 0 < len → ∃ b o c Tb fr, a = some ⟨b, o, none⟩ ∧ ch = [(b, .cells c Tb fr)] ∧ ∀ i, i < len → c[o + i]? = some (.int k (zs i))
end Go.Sep
end
