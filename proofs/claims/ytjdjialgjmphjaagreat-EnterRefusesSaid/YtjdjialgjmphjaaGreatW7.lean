/- Part of the proof: W7. -/
import Derived.Test.YtjdjialgjmphjaaGreatW6
set_option linter.all false
set_option maxRecDepth 100000
set_option maxHeartbeats 8000000
namespace Go.Proofs
open Go Go.Sep
attribute [local irreducible] WS WL WH WHT OpV OpR

/-! ## the table of requests -/

theorem left_perm {α β : Type} [DecidableEq α] (m : GMap α β) (seen : List Nat) (e : Ent α β) (he : e ∈ left m seen) : (left m seen).Perm (e :: left m (seen ++ [e.b])) := by
  have hm : e ∈ m.es := (List.mem_filter.1 he).1
  obtain ⟨l1, l2, hl⟩ := List.append_of_mem hm
  have hinc := m.inc
  rw [hl] at hinc
  simp only [List.map_append, List.map_cons, List.pairwise_append, List.pairwise_cons] at hinc
  obtain ⟨_, ⟨h2, _⟩, h1⟩ := hinc
  have e1 : l1.filter (fun x => !decide (x.b ∈ seen)) = l1.filter (fun x => !decide (x.b ∈ seen ++ [e.b])) := by
    refine List.filter_congr fun x hx => ?_
    have : x.b ≠ e.b := Nat.ne_of_lt (h1 x.b (List.mem_map_of_mem hx) e.b (by simp))
    simp [this]
  have e2 : l2.filter (fun x => !decide (x.b ∈ seen)) = l2.filter (fun x => !decide (x.b ∈ seen ++ [e.b])) := by
    refine List.filter_congr fun x hx => ?_
    have : x.b ≠ e.b := (Nat.ne_of_lt (h2 x.b (List.mem_map_of_mem hx))).symm
    simp [this]
  have hne : e.b ∉ seen := by have := (List.mem_filter.1 he).2; simpa using this
  unfold left
  rw [hl, List.filter_append, List.filter_append, List.filter_cons, List.filter_cons, if_pos (by simp [hne]), if_neg (by simp), e1, e2]
  exact List.perm_middle

structure RT where
  p : MP ID Req
  L : List Req
  rel : p.m.kv.Perm (L.map fun r => (r.id, r))
  sorted : L.Pairwise (fun a b => a.id.ring = b.id.ring → a.id.seq < b.id.seq)

abbrev RT.ch (t : RT) : Chunk := t.p.ch kID vR
def RT.of (t : RT) (ring : Nat) : List Req := t.L.filter (fun r => decide (r.id.ring = ring))

theorem RT.of_sorted (t : RT) (ring : Nat) : (t.of ring).Pairwise (fun a b => a.id.seq < b.id.seq) := by
  have h := t.sorted.sublist (List.filter_sublist (p := fun r => decide (r.id.ring = ring)))
  refine List.Pairwise.imp_of_mem ?_ h
  intro a b ha hb hab
  have h1 := (List.mem_filter.1 ha).2
  have h2 := (List.mem_filter.1 hb).2
  simp at h1 h2
  exact hab (by omega)

theorem RT.of_eq (t : RT) (ring : Nat) (ys : List Req) (hp : ys.Perm (t.of ring)) (hs : ys.Pairwise (fun a b => a.id.seq ≤ b.id.seq)) : ys = t.of ring := by
  refine List.Perm.eq_of_pairwise (le := fun a b => a.id.seq ≤ b.id.seq) ?_ hs ((t.of_sorted ring).imp (fun h => Nat.le_of_lt h)) hp
  intro a b ha hb h1 h2
  have ha' := hp.mem_iff.1 ha
  have hpw := t.of_sorted ring
  rcases Classical.em (a = b) with h | h
  · exact h
  · exfalso
    have key : ∀ (l : List Req), l.Pairwise (fun a b => a.id.seq < b.id.seq) → a ∈ l → b ∈ l → a.id.seq < b.id.seq ∨ b.id.seq < a.id.seq := by
      intro l hl
      induction hl with
      | nil => intro h; simp at h
      | cons hx hl ih =>
        intro h1 h2
        rcases List.mem_cons.1 h1 with e1 | m1 <;> rcases List.mem_cons.1 h2 with e2 | m2
        · exact absurd (e1.trans e2.symm) h
        · subst e1; exact .inl (hx _ m2)
        · subst e2; exact .inr (hx _ m1)
        · exact ih m1 m2
    have := key _ hpw ha' hb
    omega

structure Seen (m : GMap ID Req) (ring : Nat) where
  seen : List Nat
  out : SL encR 13
  es : List (Ent ID Req)
  perm : (es ++ left m seen).Perm m.es
  outs : out.xs = (es.filter (fun e => decide (e.k.ring = ring))).map (·.v)

theorem reqs_Of (sb o E0 : Nat) (cells : List Value) (t : RT) (ring : Nat) (hc : getN o 1 cells = some [t.p.val]) (hb : (t.of ring).length ≤ 12) (hk : t.L.length ≤ 1000) :
    Spec Tryz.prog 53 [ptr sb o, I ring] [blk sb E0 cells, t.ch]
      (fun v A => ∃ s : SL encR 13, s.xs = t.of ring ∧ v = s.val ∧ A = [s.ch 210, blk sb E0 cells, t.ch]) := by
  refine Spec.of Tryz.func53 rfl Tryz.call53 rfl (fun R => ?_)
  refine WS.seq ?_
  refine WS.region ?_
  refine WL.v (V.assign rfl) rfl ?_
  refine WL.done ?_
  refine WS.seq ?_
  refine WS.region ?_
  refine WL.v (V.assign rfl) rfl ?_
  refine WL.done ?_
  refine WS.seq ?_
  refine WS.seq ?_
  refine WS.region ?_
  refine WL.v (V.move rfl) rfl ?_
  refine WL.v (V.nilCheck rfl) rfl ?_
  refine WL.v (V.fieldAddr rfl) rfl ?_
  refine WL.r (V.load1 0 rfl rfl hc) rfl ?_
  obtain ⟨⟨r, m, hn⟩, L, rel, sorted⟩ := t
  cases r with
  | none =>
    refine WL.rangeN rfl rfl ?_
    intro it
    refine WL.done ?_
    refine WS.block ?_
    refine WS.loop_rounds 1 ?_
    refine WS.round ?_
    refine WS.seq ?_
    refine WS.region ?_
    refine WL.r (V.nextN 0 rfl rfl) rfl ?_
    refine WL.v (V.extractL rfl rfl) rfl ?_
    refine WL.done ?_
    refine WS.seq ?_
    refine WS.condF rfl ?_
    refine WS.exit rfl ?_
    refine WS.seq ?_
    refine WS.region ?_
    refine WL.v (V.move rfl) rfl ?_
    refine WL.perm (pre' := [(SL.empty : SL encR 13).ch 210, [(it, .mapIter none 0 #[] 0)], blk sb E0 cells, []]) (by simp [RT.ch, MP.ch]) ?_
    refine WL.call (sortReq SL.empty (by simp)) [0] rfl rfl rfl ?_
    rintro _ _ ⟨s', hp', hs', hv', rfl⟩
    refine WL.done ?_
    refine WS.seq ?_
    refine WS.region ?_
    refine WL.v (V.move rfl) rfl ?_
    refine WL.v (V.assign rfl) rfl ?_
    refine WL.done ?_
    refine WS.pick [0, 1, 1] rfl ?_
    refine WS.ret rfl ?_
    have he : m.es = [] := hn rfl
    have hL : L = [] := by
      have := rel.length_eq
      simp [GMap.kv, he] at this
      exact List.length_eq_zero_iff.1 this.symm
    subst hL
    refine ⟨s', ?_, by rw [hv']; rfl, rfl⟩
    simpa [RT.of] using hp'
  | some r =>
    refine WL.range 1 rfl rfl rfl ?_
    intro it
    refine WL.done ?_
    refine WS.block ?_
    refine WS.keep [12, 5, 1] rfl ?_
    refine WS.perm (pre' := [iterC it r m.ck [], (SL.empty : SL encR 13).ch 210, blk sb E0 cells, mapC r kID vR m]) (by simp [RT.ch, MP.ch]) ?_
    refine WS.loop (ι := Seen m ring) (fun s => [(12, ptr it 0), (5, s.out.val), (1, I ring)]) (fun s => [iterC it r m.ck s.seen, s.out.ch 210, blk sb E0 cells, mapC r kID vR m])
      (fun s => (left m s.seen).length) ⟨[], SL.empty, [], by rw [List.nil_append]; simp only [left, List.not_mem_nil, decide_false, Bool.not_false]; exact List.Perm.of_eq (List.filter_eq_self.2 (fun _ _ => rfl)), by simp⟩ ?_
    rintro ⟨seen, out, es, hperm, houts⟩ X ih
    simp only at ih ⊢
    have hlenL : m.es.length = L.length := by have := rel.length_eq; simpa [GMap.kv] using this
    have hol : out.xs.length ≤ 1000 := by
      rw [houts, List.length_map]
      have h1 := List.length_filter_le (fun e : Ent ID Req => decide (e.k.ring = ring)) es
      have h2 := hperm.length_eq
      simp at h2
      simp only at hk
      omega
    refine WS.seq ?_
    refine WS.region ?_
    refine WL.next 0 3 rfl rfl rfl rfl ?_ ?_
    · intro hleft
      refine WL.v (V.extractL rfl rfl) rfl ?_
      refine WL.done ?_
      refine WS.seq ?_
      refine WS.condF rfl ?_
      refine WS.exit rfl ?_
      refine WS.seq ?_
      refine WS.region ?_
      refine WL.v (V.move rfl) rfl ?_
      have hpe : es.Perm m.es := by rw [hleft, List.append_nil] at hperm; exact hperm
      have hpo : out.xs.Perm (L.filter fun r => decide (r.id.ring = ring)) := by
        rw [houts]
        have h1 : ((es.filter (fun e => decide (e.k.ring = ring))).map (·.v)).Perm ((m.es.filter (fun e => decide (e.k.ring = ring))).map (·.v)) := (hpe.filter _).map _
        have h2 : (m.es.filter (fun e => decide (e.k.ring = ring))).map (·.v) = (m.kv.filter (fun p => decide (p.1.ring = ring))).map (·.2) := by
          simp [GMap.kv, List.filter_map, Function.comp_def]
        have h3 : ((m.kv.filter (fun p => decide (p.1.ring = ring))).map (·.2)).Perm (((L.map fun r => (r.id, r)).filter (fun p => decide (p.1.ring = ring))).map (·.2)) := (rel.filter _).map _
        have h4 : ((L.map fun r => (r.id, r)).filter (fun p => decide (p.1.ring = ring))).map (·.2) = L.filter fun r => decide (r.id.ring = ring) := by
          simp [List.filter_map, Function.comp_def]
        rw [h2] at h1
        rw [h4] at h3
        exact h1.trans h3
      refine WL.call (sortReq out (by rw [hpo.length_eq]; exact hb)) [1] rfl rfl rfl ?_
      rintro _ _ ⟨s', hp', hs', hv', rfl⟩
      refine WL.done ?_
      refine WS.seq ?_
      refine WS.region ?_
      refine WL.v (V.move rfl) rfl ?_
      refine WL.v (V.assign rfl) rfl ?_
      refine WL.done ?_
      refine WS.pick [0, 1, 1] rfl ?_
      refine WS.ret rfl ?_
      refine ⟨s', ?_, by rw [hv']; rfl, rfl⟩
      exact RT.of_eq ⟨⟨some r, m, hn⟩, L, rel, sorted⟩ ring _ (hp'.trans hpo) hs'
    · intro e he
      have hem : e ∈ m.es := (List.mem_filter.1 he).1
      refine WL.v (V.extractL rfl rfl) rfl ?_
      refine WL.done ?_
      refine WS.seq ?_
      refine WS.condT rfl ?_
      refine WS.skip ?_
      refine WS.block ?_
      refine WS.seq ?_
      refine WS.region ?_
      refine WL.r (V.entry 0 3 hem rfl rfl rfl) rfl ?_
      refine WL.v (V.extractL rfl rfl) rfl ?_
      refine WL.v (V.extractL rfl rfl) rfl ?_
      refine WL.alloc rfl ?_; intro r_
      refine WL.alloc rfl ?_; intro r_
      refine WL.store 1 rfl rfl rfl rfl rfl rfl ?_
      refine WL.store 1 rfl rfl rfl rfl rfl rfl ?_
      refine WL.done ?_
      refine WS.seq ?_
      refine WS.region ?_
      refine WL.v (V.fieldAddr rfl) rfl ?_
      refine WL.r (V.load1 1 rfl rfl rfl) rfl ?_
      refine WL.v (V.move rfl) rfl ?_
      refine WL.v (V.eqi rfl rfl) rfl ?_
      refine WL.done ?_
      (refine WS.condD rfl ?_ ?_) <;> intro h_ <;> try (exfalso; omega)
      refine WS.region ?_
      refine WL.v (V.move rfl) rfl ?_
      refine WL.r (V.loadN 0 rfl rfl rfl) rfl ?_
      rotate_left
      refine WS.skip ?_
      refine WS.blk ?_
      rotate_left
      · refine WL.slice1 (m := 13) rfl rfl rfl (by omega) (by omega) rfl ?_
        intro nb
        refine WL.append (enc := encR) [e.v] 4 out rfl rfl rfl rfl (.inr ⟨nb, 0, 1, 0, 210, _, rfl, rfl, rfl⟩) (by simp only [List.length_cons, List.length_nil]; omega) rfl ?_
        intro s' hs'
        refine WL.v (V.assign rfl) rfl ?_
        refine WL.done ?_
        refine WS.blk ?_
        refine WS.keep [12, 5, 1] rfl ?_
        refine WS.pick [4, 0, 3, 3] rfl ?_
        refine ih ⟨seen ++ [e.b], s', es ++ [e], ?_, ?_⟩ ?_
        · rw [List.append_assoc]
          exact (List.Perm.append_left es (left_perm m seen e he).symm).trans hperm
        · rw [hs', houts, List.filter_append, List.map_append, List.filter_cons, if_pos (by simp; omega)]
          rfl
        · have := (left_perm m seen e he).length_eq
          simp only [List.length_cons] at this
          simp only
          omega
      · refine WS.keep [12, 5, 1] rfl ?_
        refine WS.pick [2, 2, 2, 2] rfl ?_
        refine ih ⟨seen ++ [e.b], out, es ++ [e], ?_, ?_⟩ ?_
        · rw [List.append_assoc]
          exact (List.Perm.append_left es (left_perm m seen e he).symm).trans hperm
        · rw [houts, List.filter_append, List.map_append, List.filter_cons, if_neg (by simp; omega)]
          simp
        · have := (left_perm m seen e he).length_eq
          simp only [List.length_cons] at this
          simp only
          omega

/-! what a table tells, and how it turns -/

theorem pos_find {β : Type} (k : ID) : ∀ (es : List (Ent ID β)), (GMap.pos k es).map (·.2) = (es.find? (fun e => decide (e.k = k))).map (·.v)
  | [] => rfl
  | e :: es => by
    simp only [GMap.pos, List.find?_cons]
    by_cases h : e.k = k
    · simp [h]
    · simp only [if_neg h, h, decide_false]
      rw [← pos_find k es]
      cases GMap.pos k es <;> rfl

def RT.find (t : RT) (id : ID) : Option Req := t.L.find? (fun r => decide (r.id = id))

theorem RT.get_eq (t : RT) (id : ID) : t.p.get id = t.find id := by
  unfold MP.get GMap.get
  rw [pos_find]
  have hmem : ∀ x : ID × Req, x ∈ t.p.m.kv ↔ x ∈ t.L.map (fun r => (r.id, r)) := fun x => t.rel.mem_iff
  have hnd : (t.p.m.es.map (·.k)).Nodup := t.p.m.nodup
  unfold RT.find
  cases h : t.L.find? (fun r => decide (r.id = id)) with
  | none =>
    cases h2 : t.p.m.es.find? (fun e => decide (e.k = id)) with
    | none => rfl
    | some e =>
      exfalso
      have he := List.mem_of_find?_eq_some h2
      have hk : e.k = id := by simpa using List.find?_some h2
      obtain ⟨r, hr, e2⟩ := List.mem_map.1 ((hmem (e.k, e.v)).1 (List.mem_map_of_mem he))
      rw [List.find?_eq_none] at h
      have := h r hr
      simp at e2
      exact this (by simp [e2.1, hk])
  | some r =>
    have hr := List.mem_of_find?_eq_some h
    have hk : r.id = id := by simpa using List.find?_some h
    obtain ⟨e, he, e2⟩ := List.mem_map.1 ((hmem (r.id, r)).2 (List.mem_map_of_mem (f := fun r => (r.id, r)) hr))
    simp at e2
    cases h2 : t.p.m.es.find? (fun e => decide (e.k = id)) with
    | none =>
      exfalso
      rw [List.find?_eq_none] at h2
      exact h2 e he (by simp [e2.1, hk])
    | some e' =>
      have he' := List.mem_of_find?_eq_some h2
      have hk' : e'.k = id := by simpa using List.find?_some h2
      have : e' = e := by
        obtain ⟨l1, l2, hl⟩ := List.append_of_mem he
        rw [hl] at hnd he'
        rcases List.mem_append.1 he' with h3 | h3
        · exfalso
          simp only [List.map_append, List.nodup_append] at hnd
          exact hnd.2.2 e'.k (List.mem_map_of_mem h3) e.k (by simp) (by rw [hk', e2.1, hk])
        · rcases List.mem_cons.1 h3 with h4 | h4
          · exact h4
          · exfalso
            simp only [List.map_append, List.map_cons, List.nodup_append, List.nodup_cons] at hnd
            exact hnd.2.1.1 (by rw [e2.1, hk, ← hk']; exact List.mem_map_of_mem h4)
      rw [this]
      simp [e2.2]
end Go.Proofs
