/- Part of the proof: W22. -/
import Derived.Test.YtjdjialgjmphjaaGreatW21
set_option linter.all false
set_option maxRecDepth 100000
set_option maxHeartbeats 8000000
namespace Go.Proofs
open Go Go.Sep
attribute [local irreducible] WS WL WH WHT OpV OpR

/-! ## running -/

def mayL (L : List Req) (ring k : Nat) (r : Req) : Bool :=
  !r.started && (r.prev == 0 || (L.find? (fun q => decide (q.id = (⟨ring, r.prev⟩ : ID)))).isNone) && (noDrain r.e.flags || k == 0)
def nextFromL (L : List Req) (ring : Nat) : Nat → List Req → Option ID
  | _, [] => none
  | k, r :: rs => if mayL L ring k r then some r.id else nextFromL L ring (k + 1) rs
def nextL (L : List Req) (ring : Nat) : Option ID := nextFromL L ring 0 (L.filter (fun r => decide (r.id.ring = ring)))

theorem nextFrom_eq (t : RT) (ring : Nat) : ∀ (l : List Req) (k : Nat), t.nextFrom ring k l = nextFromL t.L ring k l
  | [], _ => rfl
  | r :: rs, k => by
    simp only [RT.nextFrom, nextFromL]
    have : t.may ring k r = mayL t.L ring k r := rfl
    rw [this, nextFrom_eq t ring rs (k + 1)]

theorem next_eq (t : RT) (ring : Nat) : t.next ring = nextL t.L ring := nextFrom_eq t ring _ 0

theorem nextFromL_some {L : List Req} {ring : Nat} {id : ID} : ∀ (l : List Req) (k : Nat), nextFromL L ring k l = some id → ∃ r ∈ l, r.id = id ∧ r.started = false
  | [], _, h => by simp [nextFromL] at h
  | r :: rs, k, h => by
    simp only [nextFromL] at h
    split at h
    · rename_i hm
      simp at h
      refine ⟨r, by simp, h, ?_⟩
      simp [mayL] at hm
      exact hm.1.1
    · obtain ⟨q, hq, h2⟩ := nextFromL_some rs (k + 1) h
      exact ⟨q, by simp [hq], h2⟩

theorem find_of_mem (t : RT) (r : Req) (h : r ∈ t.L) : t.find r.id = some r := by
  unfold RT.find
  have hs := t.sorted
  revert h hs
  generalize t.L = L
  induction L with
  | nil => intro h; simp at h
  | cons q L ih =>
    intro h hs
    rw [List.pairwise_cons] at hs
    rcases List.mem_cons.1 h with rfl | h'
    · rw [List.find?_cons_of_pos (by simp)]
    · rw [List.find?_cons_of_neg, ih h' hs.2]
      simp only [decide_eq_true_eq]
      intro e
      have := hs.1 r h' (by rw [e])
      rw [e] at this
      omega

def actRes (q : Req) : Int := if q.e.op = 1 then 0 else -11
def AS.start (cb : Nat) (a : AS) (id : ID) : AS := match a.find id with
  | none => a
  | some q => (a.started q).decide cb 12 id (actRes q) 0
def AS.run (cb : Nat) : Nat → AS → AS × Nat
  | 0, a => (a, 0)
  | n + 1, a => match nextL a.L 4 with
    | none => (a, 0)
    | some id => ((AS.run cb n (a.start cb id)).1, (AS.run cb n (a.start cb id)).2 + 1)

/-- no more than there was -/
structure AS.Sub (b a : AS) : Prop where
  sub : ∀ r ∈ b.L, ∃ q ∈ a.L, r.id = q.id ∧ r.e = q.e
  len : b.L.length ≤ a.L.length
  ov : b.over.length + b.L.length ≤ a.over.length + a.L.length
  jn : b.J.length + b.L.length ≤ a.J.length + a.L.length

theorem AS.Sub.refl (a : AS) : AS.Sub a a := ⟨fun r h => ⟨r, h, rfl, rfl⟩, by omega, by omega, by omega⟩
theorem AS.Sub.trans {a b c : AS} (h : AS.Sub a b) (k : AS.Sub b c) : AS.Sub a c :=
  ⟨fun r hr => by
    obtain ⟨q, hq, e1, e2⟩ := h.sub r hr
    obtain ⟨p, hp, f1, f2⟩ := k.sub q hq
    exact ⟨p, hp, e1.trans f1, e2.trans f2⟩, by have := h.len; have := k.len; omega, by have := h.ov; have := k.ov; omega, by have := h.jn; have := k.jn; omega⟩

theorem AS.find_mem {a : AS} {id : ID} {r : Req} (h : a.find id = some r) : r ∈ a.L ∧ r.id = id :=
  ⟨List.mem_of_find?_eq_some h, by simpa using List.find?_some h⟩

theorem AS.decide_sub (cb : Nat) : ∀ (n : Nat) (a : AS) (id : ID) (res : Int) (val : UInt32), AS.Sub (a.decide cb n id res val) a
  | 0, a, _, _, _ => AS.Sub.refl a
  | n + 1, a, id, res, val => by
    simp only [AS.decide]
    cases hf : a.find id with
    | none => exact AS.Sub.refl a
    | some r =>
      simp only
      have h1 : AS.Sub ((a.drop id).tell cb ⟨id.ring, id.seq, r.e.tag, r.e.op, res, val, false⟩) a := by
        obtain ⟨hm, hid⟩ := AS.find_mem hf
        have hpo := AS.post_over cb { (a.drop id) with J := (a.drop id).J ++ [⟨id.ring, id.seq, r.e.tag, r.e.op, res, val, false⟩] } (Cqe.of ⟨id.ring, id.seq, r.e.tag, r.e.op, res, val, false⟩)
        have hL : ((a.drop id).tell cb ⟨id.ring, id.seq, r.e.tag, r.e.op, res, val, false⟩).L = a.L.filter (fun r => Decidable.decide (r.id ≠ id)) := hpo.2.1
        have hJ : ((a.drop id).tell cb ⟨id.ring, id.seq, r.e.tag, r.e.op, res, val, false⟩).J = a.J ++ [_] := hpo.2.2
        have hO : ((a.drop id).tell cb ⟨id.ring, id.seq, r.e.tag, r.e.op, res, val, false⟩).over.length ≤ a.over.length + 1 := hpo.1
        have hlt : (a.L.filter (fun r => Decidable.decide (r.id ≠ id))).length < a.L.length := by
          rw [List.length_filter_lt_length_iff_exists]
          exact ⟨r, hm, by simp [hid]⟩
        refine ⟨fun q hq => ?_, ?_, ?_, ?_⟩
        · rw [hL] at hq
          exact ⟨q, (List.mem_filter.1 hq).1, rfl, rfl⟩
        · rw [hL]; omega
        · rw [hL]; omega
        · rw [hL, hJ, List.length_append, List.length_singleton]; omega
      split
      · exact h1
      · split
        · exact (AS.decide_sub cb n _ _ _ _).trans h1
        · exact h1

theorem AS.started_sub (a : AS) (q : Req) (h : q ∈ a.L) : AS.Sub (a.started q) a := by
  refine ⟨fun r hr => ?_, by simp [AS.started], by simp [AS.started], by simp [AS.started]⟩
  simp only [AS.started, List.mem_map] at hr
  obtain ⟨p, hp, e⟩ := hr
  split at e
  · subst e; exact ⟨q, h, rfl, rfl⟩
  · subst e; exact ⟨p, hp, rfl, rfl⟩

theorem AS.start_sub (cb : Nat) (a : AS) (id : ID) : AS.Sub (a.start cb id) a := by
  unfold AS.start
  split
  · exact AS.Sub.refl a
  · rename_i q hq
    exact (AS.decide_sub cb 12 _ _ _ _).trans (AS.started_sub a q (AS.find_mem hq).1)

/-- what is asked does nothing, or cancels what is not there -/
structure AS.Good (a : AS) : Prop where
  ring : ∀ q ∈ a.L, q.id.ring = 4
  act : ∀ q ∈ a.L, q.e.op = 1 ∨ (q.e.op = 20 ∧ ∀ r ∈ a.L, r.e.tag ≠ q.e.a)
  len : a.L.length ≤ 12
  ov : a.over.length + a.L.length ≤ 900
  jn : a.J.length + a.L.length ≤ 900

theorem AS.Good.of_sub {a b : AS} (h : a.Good) (s : AS.Sub b a) : b.Good where
  ring := fun q hq => by
    obtain ⟨p, hp, e, _⟩ := s.sub q hq
    rw [e]; exact h.ring p hp
  act := fun q hq => by
    obtain ⟨p, hp, _, e⟩ := s.sub q hq
    rw [e]
    rcases h.act p hp with h1 | ⟨h1, h2⟩
    · exact .inl h1
    · refine .inr ⟨h1, fun r hr => ?_⟩
      obtain ⟨p', hp', _, e'⟩ := s.sub r hr
      rw [e']; exact h2 p' hp'
  len := by have := s.len; have := h.len; omega
  ov := by have := s.ov; have := h.ov; omega
  jn := by have := s.jn; have := h.jn; omega

/-- what it does -/
theorem KW.doesGood (k1 : KW) (q : Req) (id : ID) (hr : id.ring = 4) (hq : q.e.op = 1 ∨ (q.e.op = 20 ∧ ∀ r ∈ k1.t.L, r.e.tag ≠ q.e.a)) (hL : k1.t.L.length ≤ 12) : Does k1 q id k1.view ⟨actRes q, 0, false⟩ := by
  rcases hq with h | ⟨h, ht⟩
  · have : actRes q = 0 := by simp [actRes, h]
    rw [this]
    exact Does.nop k1 q id h
  · have : actRes q = -11 := by simp [actRes, h]
    rw [this]
    refine Does.cancelNo k1 q id h hr ?_ (Nat.le_trans (List.length_filter_le _ _) hL) (by omega)
    unfold RT.tagged
    have : (k1.t.of 4).find? (tagIs q.e.a id.seq) = none := by
      rw [List.find?_eq_none]
      intro r hr
      have hm : r ∈ k1.t.L := (List.mem_filter.1 hr).1
      simp [tagIs, ht r hm]
    rw [this]; rfl

theorem KW.StartG (k : KW) (id : ID) (hg : k.view.Good) (hn : nextL k.t.L 4 = some id) :
    Spec Tryz.prog 37 [k.p, kID id] k.chs (fun v A => ∃ k' : KW, k'.x = k.x ∧ k'.view = k.view.start k.x.cqb id ∧ v = B true ∧ A = k'.chs) := by
  obtain ⟨q, hq, hid, hs⟩ := nextFromL_some _ _ hn
  have hqL : q ∈ k.t.L := (List.mem_filter.1 hq).1
  have hf : k.t.find id = some q := by rw [← hid]; exact find_of_mem k.t q hqL
  have hr : id.ring = 4 := by rw [← hid]; exact hg.ring q hqL
  have hfv : k.view.find id = some q := hf
  have hsub := AS.started_sub k.view q hqL
  have hg1 := hg.of_sub hsub
  have hstart : k.view.start k.x.cqb id = (k.view.started q).decide k.x.cqb 12 id (actRes q) 0 := by
    simp only [AS.start, hfv]
  refine (KW.StartR k id q (k.view.started q) ⟨actRes q, 0, false⟩ hf hr hs hg.len ?_ (by have := hg1.ov; omega) (by have := hg1.jn; omega) hg1.len).mono ?_
  · intro k1 hx1 hv1
    have hL1 : k1.t.L = (k.view.started q).L := congrArg AS.L hv1
    rw [← hv1]
    refine KW.doesGood k1 { q with started := true } id hr ?_ (by rw [hL1]; exact hg1.len)
    rcases hg.act q hqL with h | ⟨h, h'⟩
    · exact .inl h
    · refine .inr ⟨h, fun r hr => ?_⟩
      rw [hL1] at hr
      obtain ⟨p, hp, _, e⟩ := hsub.sub r hr
      rw [e]; exact h' p hp
  · rintro v A ⟨k', h1, h2, h3, h4⟩
    exact ⟨k', h1, by rw [h2, hstart]; rfl, h3, h4⟩

theorem KW.NextU (k : KW) (u : Nat) (hb : (k.t.of u).length ≤ 12) (hk : k.t.L.length ≤ 1000) : Spec Tryz.prog 132 [ptr k.x.sb 10, I u] k.chs (fun v A => v = retID (nextL k.t.L u) ∧ A = k.chs) :=
  Spec.lift (reqs_Next k.x.sb 10 260 k.cells k.t u rfl hb hk) [0, 0] rfl (by rintro _ _ ⟨rfl, rfl⟩; exact ⟨k.chs, rfl, by rw [next_eq], rfl⟩)

/-- of a ring that has none -/
theorem KW.Run_none (k : KW) (u : Nat) (bud : Int) (h : nextL k.t.L u = none) (hb : (k.t.of u).length ≤ 12) (hk : k.t.L.length ≤ 1000) :
    Spec Tryz.prog 68 [k.p, I u, I bud] k.chs (fun v A => v = I 0 ∧ A = k.chs) := by
  have hnx := k.NextU u hb hk
  rw [h] at hnx
  refine Spec.of Tryz.func68 rfl Tryz.call68 rfl (fun R => ?_)
  refine WS.seq ?_
  refine WS.region ?_
  refine WL.v (V.assign rfl) rfl ?_
  refine WL.done ?_
  refine WS.seq ?_
  refine WS.seq ?_
  refine WS.region ?_
  refine WL.v (V.move rfl) rfl ?_
  refine WL.v (V.max2 rfl rfl) rfl ?_
  refine WL.v (V.move rfl) rfl ?_
  refine WL.done ?_
  refine WS.block ?_
  refine WS.loop_rounds 1 ?_
  refine WS.round ?_
  by_cases hp : 0 < bud
  · have : max bud 0 = bud := by omega
    rw [this]
    refine WS.seq ?_
    refine WS.region ?_
    refine WL.v (V.lt rfl rfl) rfl ?_
    refine WL.done ?_
    refine WS.seq ?_
    (refine WS.condD rfl ?_ ?_) <;> intro h_ <;> try (exfalso; omega)
    refine WS.skip ?_
    refine WS.seq ?_
    refine WS.block ?_
    refine WS.seq ?_
    refine WS.region ?_
    refine WL.v (V.move rfl) rfl ?_
    refine WL.v (V.assign rfl) rfl ?_
    refine WL.done ?_
    refine WS.seq ?_
    refine WS.region ?_
    refine WL.v (V.move rfl) rfl ?_
    refine WL.callB k.Reqs (wk 0) rfl rfl rfl ?_
    rintro _ _ ⟨rfl, rfl⟩
    refine WL.v (V.move rfl) rfl ?_
    refine WL.callB hnx (wk 0) rfl rfl rfl ?_
    rintro _ _ ⟨rfl, rfl⟩
    refine WL.v (V.move rfl) rfl ?_
    refine WL.v (V.extractL rfl rfl) rfl ?_
    refine WL.v (V.extractL rfl rfl) rfl ?_
    refine WL.alloc rfl ?_; intro r_
    refine WL.store 0 rfl rfl rfl rfl rfl rfl ?_
    refine WL.v (V.assign rfl) rfl ?_
    refine WL.done ?_
    refine WS.seq ?_
    refine WS.seq ?_
    refine WS.region ?_
    refine WL.v (V.move rfl) rfl ?_
    refine WL.v (V.not rfl) rfl ?_
    refine WL.done ?_
    refine WS.condT rfl ?_
    refine WS.seq ?_
    refine WS.region ?_
    refine WL.v (V.move rfl) rfl ?_
    refine WL.v (V.assign rfl) rfl ?_
    refine WL.done ?_
    refine WS.pick (wk 1) rfl ?_
    refine WS.ret rfl ?_
    exact ⟨rfl, rfl⟩
  · have : max bud 0 = 0 := by omega
    rw [this]
    refine WS.seq ?_
    refine WS.region ?_
    refine WL.v (V.lt rfl rfl) rfl ?_
    refine WL.done ?_
    refine WS.seq ?_
    refine WS.condF rfl ?_
    refine WS.exit rfl ?_
    refine WS.seq ?_
    refine WS.region ?_
    refine WL.v (V.move rfl) rfl ?_
    refine WL.v (V.max2 rfl rfl) rfl ?_
    refine WL.v (V.assign rfl) rfl ?_
    refine WL.done ?_
    refine WS.ret rfl ?_
    refine ⟨?_, rfl⟩
    simp [retV, this]

theorem KW.Run (k : KW) (N : Nat) (hN : N ≤ 1000) (hg : k.view.Good) :
    Spec Tryz.prog 68 [k.p, I 4, I N] k.chs (fun v A => ∃ k' : KW, k'.x = k.x ∧ k'.view = (k.view.run k.x.cqb N).1 ∧ v = I ((k.view.run k.x.cqb N).2 : Nat) ∧ A = k'.chs) := by
  refine Spec.of Tryz.func68 rfl Tryz.call68 rfl (fun R => ?_)
  refine WS.seq ?_
  refine WS.region ?_
  refine WL.v (V.assign rfl) rfl ?_
  refine WL.done ?_
  refine WS.seq ?_
  refine WS.seq ?_
  refine WS.region ?_
  refine WL.v (V.move rfl) rfl ?_
  refine WL.v (V.max2 rfl rfl) rfl ?_
  refine WL.v (V.move rfl) rfl ?_
  refine WL.done ?_
  refine WS.block ?_
  have hmx : max (N : Int) 0 = N := by omega
  rw [hmx]
  refine WS.keep [12, 11, 0, 1, 2] rfl ?_
  refine WS.loop (ι := {p : Nat × KW // p.1 ≤ N ∧ p.2.x = k.x ∧ p.2.view.Good ∧ k.view.run k.x.cqb N = ((p.2.view.run k.x.cqb (N - p.1)).1, (p.2.view.run k.x.cqb (N - p.1)).2 + p.1)})
    (fun p => [(12, I p.1.1), (11, I N), (0, k.p), (1, I 4), (2, I N)]) (fun p => p.1.2.chs) (fun p => N - p.1.1) ⟨(0, k), by simp, rfl, hg, by simp⟩ ?_
  rintro ⟨⟨i, k1⟩, hi, hx1, hg1, hrun⟩ X ih
  simp only at ih hi hx1 hg1 hrun ⊢
  rw [show k.p = k1.p from by rw [KW.p, KW.p, hx1]]
  have hL1 : k1.t.L.length ≤ 12 := hg1.len
  refine WS.seq ?_
  refine WS.region ?_
  refine WL.v (V.lt rfl rfl) rfl ?_
  refine WL.done ?_
  refine WS.seq ?_
  (refine WS.condD rfl ?_ ?_) <;> intro h_ <;> try (exfalso; omega)
  refine WS.skip ?_
  refine WS.seq ?_
  refine WS.block ?_
  refine WS.seq ?_
  refine WS.region ?_
  refine WL.v (V.move rfl) rfl ?_
  refine WL.v (V.assign rfl) rfl ?_
  refine WL.done ?_
  refine WS.seq ?_
  refine WS.region ?_
  refine WL.v (V.move rfl) rfl ?_
  rotate_left
  refine WS.exit rfl ?_
  refine WS.seq ?_
  refine WS.region ?_
  refine WL.v (V.move rfl) rfl ?_
  refine WL.v (V.max2 rfl rfl) rfl ?_
  refine WL.v (V.assign rfl) rfl ?_
  refine WL.done ?_
  rotate_left
  · refine WL.callB k1.Reqs (wk 0) rfl rfl rfl ?_
    rintro _ _ ⟨rfl, rfl⟩
    refine WL.v (V.move rfl) rfl ?_
    refine WL.callB (k1.NextU 4 (Nat.le_trans (List.length_filter_le _ _) hL1) (by omega)) (wk 0) rfl rfl rfl ?_
    rintro _ _ ⟨rfl, rfl⟩
    obtain ⟨m, hm⟩ : ∃ m, N - i = m + 1 := ⟨N - i - 1, by omega⟩
    have hvL : k1.view.L = k1.t.L := rfl
    cases hn : nextL k1.t.L 4 with
    | none =>
      rw [hm] at hrun
      simp only [AS.run, hvL, hn, Nat.zero_add] at hrun
      refine WL.v (V.move rfl) rfl ?_
      refine WL.v (V.extractL rfl rfl) rfl ?_
      refine WL.v (V.extractL rfl rfl) rfl ?_
      refine WL.alloc rfl ?_; intro r_
      refine WL.store 0 rfl rfl rfl rfl rfl rfl ?_
      refine WL.v (V.assign rfl) rfl ?_
      refine WL.done ?_
      refine WS.seq ?_
      refine WS.seq ?_
      refine WS.region ?_
      refine WL.v (V.move rfl) rfl ?_
      refine WL.v (V.not rfl) rfl ?_
      refine WL.done ?_
      refine WS.condT rfl ?_
      refine WS.seq ?_
      refine WS.region ?_
      refine WL.v (V.move rfl) rfl ?_
      refine WL.v (V.assign rfl) rfl ?_
      refine WL.done ?_
      refine WS.pick (wk 1) rfl ?_
      refine WS.ret rfl ?_
      refine ⟨k1, hx1, ?_, ?_, rfl⟩
      · rw [hrun]
      · rw [hrun]; rfl
    | some id =>
      rw [hm] at hrun
      simp only [AS.run, hvL, hn] at hrun
      refine WL.v (V.move rfl) rfl ?_
      refine WL.v (V.extractL rfl rfl) rfl ?_
      refine WL.v (V.extractL rfl rfl) rfl ?_
      refine WL.alloc rfl ?_; intro r_
      refine WL.store 0 rfl rfl rfl rfl rfl rfl ?_
      refine WL.v (V.assign rfl) rfl ?_
      refine WL.done ?_
      refine WS.seq ?_
      refine WS.seq ?_
      refine WS.region ?_
      refine WL.v (V.move rfl) rfl ?_
      refine WL.v (V.not rfl) rfl ?_
      refine WL.done ?_
      refine WS.condF rfl ?_
      refine WS.skip ?_
      refine WS.region ?_
      refine WL.v (V.move rfl) rfl ?_
      refine WL.r (V.loadN 0 rfl rfl rfl) rfl ?_
      refine WL.callB (k1.StartG id hg1 hn) (wk 1) rfl rfl rfl ?_
      rintro _ _ ⟨k2, hx2, hv2, rfl, rfl⟩
      rw [show k1.p = k2.p from by rw [KW.p, KW.p, hx2]]
      refine WL.done ?_
      refine WS.blk ?_
      refine WS.region ?_
      refine WL.v (V.add rfl rfl (fits_i64 (by omega) (by omega))) rfl ?_
      refine WL.v (V.move rfl) rfl ?_
      refine WL.done ?_
      refine WS.keep [12, 11, 0, 1, 2] rfl ?_
      refine WS.pick (wk 1) rfl ?_
      rw [show k2.p = k.p from by rw [KW.p, KW.p, hx2, hx1]]
      refine ih ⟨(i + 1, k2), by simp only; omega, hx2.trans hx1, ?_, ?_⟩ (by simp only; omega)
      · simp only; rw [hv2]; exact hg1.of_sub (AS.start_sub _ _ _)
      · simp only
        rw [hrun, hv2, hx1, show N - (i + 1) = m from by omega]
        simp only [Prod.mk.injEq, true_and]
        omega
  · have hiN : i = N := by omega
    subst hiN
    rw [Nat.sub_self] at hrun
    simp only [AS.run, Nat.zero_add] at hrun
    rw [hmx]
    refine WS.ret rfl ?_
    refine ⟨k1, hx1, ?_, ?_, rfl⟩
    · rw [hrun]
    · rw [hrun]; rfl
end Go.Proofs
