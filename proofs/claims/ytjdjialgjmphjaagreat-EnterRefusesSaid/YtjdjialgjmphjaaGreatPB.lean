/- Part of the proof: P3 P4 P5 P6. -/
import Derived.Test.YtjdjialgjmphjaaGreatW27
import Derived.Test.YtjdjialgjmphjaaGreatPA
set_option linter.all false
section
namespace Go.Proofs
open Go Go.Sep

/-! ## a chain that runs to its end -/

structure Chn0 (L : List Req) : Prop where
  ring : ∀ r ∈ L, r.id.ring = 4
  sorted : L.Pairwise (fun a b => a.id.seq < b.id.seq)
  prev : ∀ r ∈ L, r.prev = 0 ∨ r.prev + 1 = r.id.seq
  seq : ∀ r ∈ L, 1 ≤ r.id.seq

theorem Chn0.tail {h : Req} {t : List Req} (c : Chn0 (h :: t)) : Chn0 t :=
  ⟨fun r hr => c.ring r (by simp [hr]), (List.pairwise_cons.1 c.sorted).2, fun r hr => c.prev r (by simp [hr]), fun r hr => c.seq r (by simp [hr])⟩

def AS.withL (a : AS) (L : List Req) : AS := { a with L := L }
@[simp] theorem AS.withL_L (a : AS) (L : List Req) : (a.withL L).L = L := rfl
theorem AS.withL_withL (a : AS) (L M : List Req) : (a.withL L).withL M = a.withL M := rfl

theorem AS.tell_withL (cb : Nat) (a : AS) (L : List Req) (d : Deed) : (a.withL L).tell cb d = (a.tell cb d).withL L := by
  unfold AS.tell AS.post
  have e : ∀ (x y : AS) (b : Bool), (if b = true then x else y).withL L = if b = true then x.withL L else y.withL L := by intro x y b; cases b <;> rfl
  rw [e]
  rfl

theorem AS.tell_L (cb : Nat) (a : AS) (d : Deed) : (a.tell cb d).L = a.L := (AS.post_over cb _ _).2.1
theorem AS.tell_J (cb : Nat) (a : AS) (d : Deed) : (a.tell cb d).J = a.J ++ [d] := (AS.post_over cb _ _).2.2

def AS.tells (cb : Nat) (a : AS) (ds : List Deed) : AS := ds.foldl (AS.tell cb) a
theorem AS.tells_cons (cb : Nat) (a : AS) (d : Deed) (ds : List Deed) : a.tells cb (d :: ds) = (a.tell cb d).tells cb ds := rfl
theorem AS.tells_append (cb : Nat) (a : AS) (ds es : List Deed) : a.tells cb (ds ++ es) = (a.tells cb ds).tells cb es := by simp [AS.tells, List.foldl_append]
theorem AS.tells_withL (cb : Nat) : ∀ (ds : List Deed) (a : AS) (L : List Req), (a.withL L).tells cb ds = (a.tells cb ds).withL L
  | [], _, _ => rfl
  | d :: ds, a, L => by rw [AS.tells_cons, AS.tells_cons, AS.tell_withL, AS.tells_withL cb ds]
theorem AS.tells_L (cb : Nat) : ∀ (ds : List Deed) (a : AS), (a.tells cb ds).L = a.L
  | [], _ => rfl
  | d :: ds, a => by rw [AS.tells_cons, AS.tells_L cb ds, AS.tell_L]
theorem AS.tells_J (cb : Nat) : ∀ (ds : List Deed) (a : AS), (a.tells cb ds).J = a.J ++ ds
  | [], _ => by simp [AS.tells]
  | d :: ds, a => by rw [AS.tells_cons, AS.tells_J cb ds, AS.tell_J]; simp

/-- a request's deed -/
def dd (r : Req) (res : Int) : Deed := ⟨r.id.ring, r.id.seq, r.e.tag, r.e.op, res, 0, false⟩

/-- those that are cut behind one: what is left, what is told -/
def casc (res : Int) (hs : Nat) : List Req → List Req × List Deed
  | [] => ([], [])
  | nx :: t => if nx.prev = hs ∧ nx.soft = true ∧ res < 0 then ((casc (-9) nx.id.seq t).1, dd nx (-9) :: (casc (-9) nx.id.seq t).2) else (nx :: t, [])

theorem find_head (a : AS) (h : Req) (t : List Req) (hL : a.L = h :: t) : a.find h.id = some h := by
  unfold AS.find
  rw [hL, List.find?_cons_of_pos (by simp)]

theorem drop_head (a : AS) (h : Req) (t : List Req) (hL : a.L = h :: t) (c : Chn0 (h :: t)) : a.drop h.id = a.withL t := by
  unfold AS.drop AS.withL
  congr 1
  rw [hL, List.filter_cons_of_neg (by simp)]
  rw [List.filter_eq_self]
  intro r hr
  have := (List.pairwise_cons.1 c.sorted).1 r hr
  simp only [decide_eq_true_eq]
  intro e
  rw [e] at this
  omega

theorem of_all (a : AS) (L : List Req) (hL : a.L = L) (h : ∀ r ∈ L, r.id.ring = 4) : a.of 4 = L := by
  unfold AS.of
  rw [hL, List.filter_eq_self]
  intro r hr
  simp [h r hr]

theorem after_head (a : AS) (h : Req) (t : List Req) (hL : a.L = t) (c : Chn0 (h :: t)) :
    a.after h.id = match t with
      | [] => none
      | nx :: _ => if nx.prev = h.id.seq then some nx else none := by
  unfold AS.after
  rw [c.ring h (by simp), of_all a t hL (fun r hr => c.ring r (by simp [hr]))]
  have h1 := c.seq h (by simp)
  cases t with
  | nil => rfl
  | cons nx t =>
    simp only
    have hn := (List.pairwise_cons.1 c.sorted).1
    split
    · rename_i e
      rw [List.find?_cons_of_pos (by simp [e])]
    · rename_i e
      rw [List.find?_cons_of_neg (by simp [e]), List.find?_eq_none]
      intro r hr
      simp only [decide_eq_true_eq]
      have h2 := (List.pairwise_cons.1 (List.pairwise_cons.1 c.sorted).2).1 r hr
      have h3 := hn nx (by simp)
      rcases c.prev r (by simp [hr]) with h | h <;> omega

theorem decide_chain (cb : Nat) : ∀ (t : List Req) (n : Nat) (a : AS) (h : Req) (res : Int), t.length < n → a.L = h :: t → Chn0 (h :: t) →
    a.decide cb n h.id res 0 = (a.tells cb (dd h res :: (casc res h.id.seq t).2)).withL (casc res h.id.seq t).1
  | t, 0, _, _, _, hn, _, _ => by omega
  | t, n + 1, a, h, res, hn, hL, c => by
    have hf := find_head a h t hL
    have hd := drop_head a h t hL c
    have ht : (a.drop h.id).tell cb ⟨h.id.ring, h.id.seq, h.e.tag, h.e.op, res, 0, false⟩ = (a.tell cb (dd h res)).withL t := by
      rw [hd, AS.tell_withL]; rfl
    have haf := after_head ((a.tell cb (dd h res)).withL t) h t rfl c
    simp only [AS.decide, hf, ht, haf]
    cases t with
    | nil => simp [casc, AS.tells]
    | cons nx t =>
      simp only
      by_cases e : nx.prev = h.id.seq
      · rw [if_pos e]
        simp only
        by_cases e2 : nx.soft = true ∧ res < 0
        · rw [if_pos (by simp [e2.1, e2.2])]
          have hc : casc res h.id.seq (nx :: t) = ((casc (-9) nx.id.seq t).1, dd nx (-9) :: (casc (-9) nx.id.seq t).2) := by
            simp only [casc]; rw [if_pos ⟨e, e2⟩]
          rw [hc]
          have ih := decide_chain cb t n ((a.tell cb (dd h res)).withL (nx :: t)) nx (-9) (by simp at hn; omega) rfl c.tail
          rw [ih]
          simp only [AS.tell_withL, AS.tells_withL, AS.withL_withL, AS.tells_cons]
        · rw [if_neg (by intro e3; simp only [Bool.and_eq_true, decide_eq_true_eq] at e3; exact e2 e3)]
          have hc : casc res h.id.seq (nx :: t) = (nx :: t, []) := by
            simp only [casc]; rw [if_neg (fun x => e2 x.2)]
          rw [hc]
          rfl
      · rw [if_neg e]
        have hc : casc res h.id.seq (nx :: t) = (nx :: t, []) := by
          simp only [casc]; rw [if_neg (fun x => e x.1)]
        rw [hc]
        rfl

/-- what is told of a chain, from one on: its number, its result -/
def outs : Nat → Int → List Req → List Deed
  | _, _, [] => []
  | s, x, r :: t =>
    let res := if r.prev = s ∧ r.soft = true ∧ x < 0 then -9 else actRes r
    dd r res :: outs r.id.seq res t

theorem outs_casc : ∀ (t : List Req) (s : Nat) (x : Int), outs s x t = (casc x s t).2 ++ outs 0 0 (casc x s t).1
  | [], _, _ => rfl
  | r :: t, s, x => by
    by_cases h : r.prev = s ∧ r.soft = true ∧ x < 0
    · simp only [outs, casc, if_pos h]
      rw [outs_casc t]
      rfl
    · simp only [outs, casc, if_neg h, List.nil_append]
      have : ¬ (r.prev = 0 ∧ r.soft = true ∧ (0 : Int) < 0) := fun e => by omega
      rw [if_neg this]

theorem casc_suffix : ∀ (t : List Req) (s : Nat) (x : Int), ∃ k, (casc x s t).1 = t.drop k
  | [], _, _ => ⟨0, rfl⟩
  | r :: t, s, x => by
    by_cases h : r.prev = s ∧ r.soft = true ∧ x < 0
    · obtain ⟨k, hk⟩ := casc_suffix t r.id.seq (-9)
      exact ⟨k + 1, by simp only [casc, if_pos h]; rw [hk]; simp⟩
    · exact ⟨0, by simp [casc, if_neg h]⟩

structure Chn (L : List Req) : Prop extends Chn0 L where
  drain : ∀ r ∈ L, noDrain r.e.flags = true
  started : ∀ r ∈ L, r.started = false

theorem Chn.drop {L : List Req} (c : Chn L) (k : Nat) : Chn (L.drop k) where
  ring := fun r hr => c.ring r (List.mem_of_mem_drop hr)
  sorted := c.sorted.sublist (List.drop_sublist k L)
  prev := fun r hr => c.prev r (List.mem_of_mem_drop hr)
  seq := fun r hr => c.seq r (List.mem_of_mem_drop hr)
  drain := fun r hr => c.drain r (List.mem_of_mem_drop hr)
  started := fun r hr => c.started r (List.mem_of_mem_drop hr)

theorem next_chain {h : Req} {t : List Req} (c : Chn (h :: t)) : nextL (h :: t) 4 = some h.id := by
  unfold nextL
  have : (h :: t).filter (fun r => decide (r.id.ring = 4)) = h :: t := by
    rw [List.filter_eq_self]; intro r hr; simp [c.ring r hr]
  rw [this]
  simp only [nextFromL]
  rw [if_pos]
  have h1 := c.seq h (by simp)
  have hp : h.prev = 0 ∨ ((h :: t).find? (fun q => decide (q.id = (⟨4, h.prev⟩ : ID)))) = none := by
    rcases c.prev h (by simp) with e | e
    · exact .inl e
    · right
      rw [List.find?_eq_none]
      intro q hq
      simp only [decide_eq_true_eq]
      intro e2
      have h3 : h.id.seq ≤ q.id.seq := by
        rcases List.mem_cons.1 hq with rfl | hq
        · exact Nat.le_refl _
        · exact Nat.le_of_lt ((List.pairwise_cons.1 c.sorted).1 q hq)
      rw [e2] at h3
      simp only at h3
      omega
  simp only [mayL, c.started h (by simp), c.drain h (by simp), Bool.not_false, Bool.true_and, Bool.true_or, Bool.and_true]
  rcases hp with e | e
  · simp [e]
  · rw [e]; simp

theorem run_chain (cb : Nat) : ∀ (n N : Nat) (a : AS) (L : List Req), L.length = n → n ≤ N → n ≤ 12 → a.L = L → Chn L → (a.run cb N).1 = (a.tells cb (outs 0 0 L)).withL [] := by
  intro n
  induction n using Nat.strongRecOn with
  | _ n ih =>
    intro N a L hl hN h12 hL c
    cases L with
    | nil =>
      have : nextL a.L 4 = none := by rw [hL]; rfl
      have e : (a.run cb N).1 = a := by
        cases N with
        | zero => rfl
        | succ N => simp only [AS.run, this]
      rw [e]
      simp only [outs, AS.tells, List.foldl_nil, AS.withL]
      rw [← hL]
    | cons h t =>
      cases N with
      | zero => simp at hl; omega
      | succ N =>
        have hn : nextL a.L 4 = some h.id := by rw [hL]; exact next_chain c
        simp only [AS.run, hn]
        have hf := find_head a h t hL
        have hst : (a.started h).L = { h with started := true } :: t := by
          simp only [AS.started, hL, List.map_cons, if_true]
          congr 1
          have : ∀ r ∈ t, (if r.id = h.id then { h with started := true } else r) = r := by
            intro r hr
            have := (List.pairwise_cons.1 c.sorted).1 r hr
            rw [if_neg (fun e => by rw [e] at this; omega)]
          rw [List.map_congr_left this]
          simp
        have c0 : Chn0 ({ h with started := true } :: t) := by
          have c1 := c.toChn0
          refine ⟨?_, ?_, ?_, ?_⟩
          · intro r hr
            rcases List.mem_cons.1 hr with rfl | hr
            · exact c1.ring h (by simp)
            · exact c1.ring r (by simp [hr])
          · rw [List.pairwise_cons]
            exact ⟨fun r hr => (List.pairwise_cons.1 c1.sorted).1 r hr, (List.pairwise_cons.1 c1.sorted).2⟩
          · intro r hr
            rcases List.mem_cons.1 hr with rfl | hr
            · exact c1.prev h (by simp)
            · exact c1.prev r (by simp [hr])
          · intro r hr
            rcases List.mem_cons.1 hr with rfl | hr
            · exact c1.seq h (by simp)
            · exact c1.seq r (by simp [hr])
        have hdec := decide_chain cb t 12 (a.started h) { h with started := true } (actRes h) (by simp at hl; omega) hst c0
        have hstart : a.start cb h.id = ((a.started h).tells cb (dd h (actRes h) :: (casc (actRes h) h.id.seq t).2)).withL (casc (actRes h) h.id.seq t).1 := by
          simp only [AS.start, hf]
          exact hdec
        rw [hstart]
        obtain ⟨k, hk⟩ := casc_suffix t h.id.seq (actRes h)
        have hc2 : Chn (casc (actRes h) h.id.seq t).1 := by
          rw [hk]
          have := c.drop (k + 1)
          simpa using this
        have hlen : (casc (actRes h) h.id.seq t).1.length ≤ t.length := by rw [hk]; simp
        simp at hl
        rw [ih (casc (actRes h) h.id.seq t).1.length (by omega) N _ _ rfl (by omega) (by omega) rfl hc2]
        have hs : a.started h = a.withL ({ h with started := true } :: t) := by rw [← hst]; rfl
        rw [hs]
        simp only [AS.tells_withL, AS.withL_withL, ← AS.tells_append]
        congr 2
        simp only [outs]
        have : ¬ (h.prev = 0 ∧ h.soft = true ∧ (0 : Int) < 0) := fun e => by omega
        rw [if_neg this, outs_casc t]
        simp
end Go.Proofs
end
section
namespace Go.Proofs
open Go Go.Sep

/-! ## what telling leaves of the ring -/

structure AS.WF (a : AS) : Prop where
  len : a.us.length = 64
  all : ∀ l ∈ a.us, l.length = 512

theorem KW.wf (k : KW) : k.view.WF := ⟨by simp [KW.view, k.m.len], by
  intro l hl
  simp only [KW.view, List.mem_map] at hl
  obtain ⟨p, hp, rfl⟩ := hl
  exact k.m.all p hp⟩

theorem AS.WF.at_len {a : AS} (h : a.WF) (u : Nat) (h1 : 1 ≤ u) (h2 : u ≤ 64) : (a.at_ u).length = 512 := by
  unfold AS.at_
  have : u - 1 < a.us.length := by rw [h.len]; omega
  rw [List.getElem?_eq_getElem this]
  exact h.all _ (List.getElem_mem this)

theorem AS.wr_at (a : AS) (h : a.WF) (u off : Nat) (b : List UInt8) (v : Nat) (hu : 1 ≤ u) (hu2 : u ≤ 64) (hv : 1 ≤ v) : (a.wr u off b).at_ v = if v = u then laidIn (a.at_ u) off b else a.at_ v := by
  unfold AS.at_ AS.wr
  simp only [List.getElem?_modify]
  by_cases e : v = u
  · subst e
    rw [if_pos rfl]
    have : v - 1 < a.us.length := by rw [h.len]; omega
    rw [List.getElem?_eq_getElem this]
    simp
  · rw [if_neg e]
    have : ¬ (u - 1 = v - 1) := by omega
    simp [this]

theorem AS.wr_wf {a : AS} (h : a.WF) (u off : Nat) (b : List UInt8) : (a.wr u off b).WF := by
  refine ⟨by simp [AS.wr, h.len], ?_⟩
  intro l hl
  simp only [AS.wr] at hl
  obtain ⟨i, hi, e⟩ := List.getElem_of_mem hl
  rw [List.getElem_modify] at e
  have hi' : i < a.us.length := by simpa using hi
  split at e
  · rw [← e, laidIn_len]; exact h.all _ (List.getElem_mem hi')
  · rw [← e]; exact h.all _ (List.getElem_mem hi')

/-- what telling does not touch -/
structure AS.Kept (b a : AS) : Prop where
  wf : b.WF
  at5 : b.at_ 5 = a.at_ 5
  hd : b.hd = a.hd
  taken : b.taken = a.taken
  now : b.now = a.now
  head : b.word 6 0 = a.word 6 0

theorem AS.Kept.refl {a : AS} (h : a.WF) : AS.Kept a a := ⟨h, rfl, rfl, rfl, rfl, rfl⟩
theorem AS.Kept.trans {a b c : AS} (h : AS.Kept c b) (k : AS.Kept b a) : AS.Kept c a :=
  ⟨h.wf, h.at5.trans k.at5, h.hd.trans k.hd, h.taken.trans k.taken, h.now.trans k.now, h.head.trans k.head⟩

theorem AS.out_kept (cb : Nat) (a : AS) (c : Cqe) (h : a.WF) : AS.Kept (a.out cb c) a := by
  have h1 := AS.wr_wf h 6 (16 + a.tl.toNat % 2 ^ cb * 16) c.bytes
  have h2 := AS.wr_wf h1 6 4 (le4 (a.tl + 1))
  refine ⟨⟨h2.len, h2.all⟩, ?_, rfl, rfl, rfl, ?_⟩
  · show ((a.wr 6 (16 + a.tl.toNat % 2 ^ cb * 16) c.bytes).wr 6 4 (le4 (a.tl + 1))).at_ 5 = a.at_ 5
    rw [AS.wr_at _ h1 6 4 _ 5 (by omega) (by omega) (by omega), if_neg (by omega), AS.wr_at _ h 6 _ _ 5 (by omega) (by omega) (by omega), if_neg (by omega)]
  · show u32At (((a.wr 6 (16 + a.tl.toNat % 2 ^ cb * 16) c.bytes).wr 6 4 (le4 (a.tl + 1))).at_ 6) 0 = u32At (a.at_ 6) 0
    rw [AS.wr_at _ h1 6 4 _ 6 (by omega) (by omega) (by omega), if_pos rfl, u32At_laidIn_ne _ _ _ _ (by omega), AS.wr_at _ h 6 _ _ 6 (by omega) (by omega) (by omega), if_pos rfl, u32At_laidIn_ne _ _ _ _ (by omega)]

theorem AS.room_some {cb r : Nat} {a : AS} (h : a.room cb = some r) : a.used.toNat + r = 2 ^ cb := by
  unfold AS.room at h
  split at h
  · simp at h; omega
  · simp at h

theorem AS.room_of {cb : Nat} {a : AS} {r : Nat} (h : a.used.toNat + r = 2 ^ cb) : a.room cb = some r := by
  unfold AS.room
  rw [if_pos (by omega)]
  congr 1; omega

theorem AS.tell_in (cb : Nat) (hcb : cb ≤ 8) (a : AS) (d : Deed) (r : Nat) (h : a.WF) (ho : a.over = []) (hr : a.room cb = some (r + 1)) :
    AS.Kept (a.tell cb d) a ∧ (a.tell cb d).over = [] ∧ (a.tell cb d).room cb = some r ∧ (a.tell cb d).tl = a.tl + 1 := by
  have hc : (a.over.length == 0 && AS.fits cb { a with J := a.J ++ [d] }) = true := by
    have : AS.fits cb { a with J := a.J ++ [d] } = AS.fits cb a := rfl
    rw [this, ho]
    simp [AS.fits, hr]
  have e : a.tell cb d = AS.out cb { a with J := a.J ++ [d] } (Cqe.of d) := by
    unfold AS.tell AS.post
    rw [if_pos hc]
  have hk := AS.out_kept cb { a with J := a.J ++ [d] } (Cqe.of d) ⟨h.len, h.all⟩
  rw [← e] at hk
  have hk' : AS.Kept (a.tell cb d) a := ⟨hk.wf, hk.at5, hk.hd, hk.taken, hk.now, hk.head⟩
  refine ⟨hk', by rw [e]; exact ho, ?_, by rw [e]; rfl⟩
  have htl : (a.tell cb d).tl = a.tl + 1 := by rw [e]; rfl
  apply AS.room_of
  have h1 := AS.room_some hr
  unfold AS.used at h1 ⊢
  rw [htl, hk'.head]
  have hp : 2 ^ cb ≤ 256 := by
    have := Nat.pow_le_pow_right (n := 2) (by omega) hcb
    simpa using this
  have h2 : (a.tl + 1 - a.word 6 0).toNat = ((a.tl - a.word 6 0).toNat + 1) % 2 ^ 32 := by
    simp only [UInt32.toNat_sub, UInt32.toNat_add]
    have := a.tl.toNat_lt
    have := (a.word 6 0).toNat_lt
    simp
    omega
  rw [h2]
  omega

theorem AS.tell_over (cb : Nat) (a : AS) (d : Deed) (h : a.WF) (ho : a.over ≠ [] ∨ a.room cb = some 0) :
    AS.Kept (a.tell cb d) a ∧ (a.tell cb d).over = a.over ++ [Cqe.of d] ∧ (a.tell cb d).room cb = a.room cb ∧ (a.tell cb d).tl = a.tl := by
  have hc : ¬ (a.over.length == 0 && AS.fits cb { a with J := a.J ++ [d] }) = true := by
    have : AS.fits cb { a with J := a.J ++ [d] } = AS.fits cb a := rfl
    rw [this]
    intro e
    rw [Bool.and_eq_true] at e
    rcases ho with ho | ho
    · exact ho (List.length_eq_zero_iff.1 (by simpa using e.1))
    · have := e.2
      simp [AS.fits, ho] at this
  have e : a.tell cb d = { { a with J := a.J ++ [d] } with over := a.over ++ [Cqe.of d] } := by
    unfold AS.tell AS.post
    rw [if_neg hc]
  rw [e]
  exact ⟨⟨⟨h.len, h.all⟩, rfl, rfl, rfl, rfl, rfl⟩, rfl, rfl, rfl⟩

theorem AS.tells_over (cb : Nat) : ∀ (ds : List Deed) (a : AS), a.WF → (a.over ≠ [] ∨ a.room cb = some 0) →
    AS.Kept (a.tells cb ds) a ∧ (a.tells cb ds).over.length = a.over.length + ds.length ∧ (a.tells cb ds).room cb = a.room cb ∧ (a.tells cb ds).tl = a.tl
  | [], a, h, _ => ⟨AS.Kept.refl h, rfl, rfl, rfl⟩
  | d :: ds, a, h, ho => by
    obtain ⟨h1, h2, h3, h4⟩ := AS.tell_over cb a d h ho
    obtain ⟨k1, k2, k3, k4⟩ := AS.tells_over cb ds (a.tell cb d) h1.wf (by left; rw [h2]; simp)
    rw [AS.tells_cons]
    exact ⟨k1.trans h1, by rw [k2, h2]; simp; omega, k3.trans h3, k4.trans h4⟩

theorem AS.tells_room (cb : Nat) (hcb : cb ≤ 8) : ∀ (ds : List Deed) (a : AS) (r : Nat), a.WF → a.over = [] → a.room cb = some r →
    AS.Kept (a.tells cb ds) a ∧ (a.tells cb ds).over.length = ds.length - r ∧ (a.tells cb ds).room cb = some (r - ds.length) ∧ (a.tells cb ds).tl = a.tl + UInt32.ofNat (min r ds.length)
  | [], a, r, h, ho, hr => ⟨AS.Kept.refl h, by show a.over.length = _; rw [ho]; simp, by simpa [AS.tells] using hr, by simp [AS.tells]⟩
  | d :: ds, a, r, h, ho, hr => by
    cases r with
    | zero =>
      obtain ⟨k1, k2, k3, k4⟩ := AS.tells_over cb (d :: ds) a h (.inr hr)
      exact ⟨k1, by rw [k2, ho]; simp, by rw [k3, hr]; simp, by rw [k4]; simp⟩
    | succ r =>
      obtain ⟨h1, h2, h3, h4⟩ := AS.tell_in cb hcb a d r h ho hr
      obtain ⟨k1, k2, k3, k4⟩ := AS.tells_room cb hcb ds (a.tell cb d) r h1.wf h2 h3
      rw [AS.tells_cons]
      refine ⟨k1.trans h1, by rw [k2]; simp, by rw [k3]; simp, ?_⟩
      rw [k4, h4]
      have : min (r + 1) (d :: ds).length = min r ds.length + 1 := by rw [List.length_cons]; omega
      rw [this]
      apply UInt32.toNat_inj.1
      simp only [UInt32.toNat_add, UInt32.toNat_ofNat']
      simp
      omega

/-! ## taking, plainly -/

def badD (first : Nat) (raws : List (List UInt8)) (i : Nat) : Deed := ⟨4, first + i, u32At (raws.getD i []) 4, 0, -1, 0, false⟩
def bads (first : Nat) (raws : List (List UInt8)) (k : Nat) : List Deed :=
  (List.range k).filterMap (fun i => match planAt 4 first (raws.map isEntry) (raws.map entOf) i with | some _ => none | none => some (badD first raws i))

theorem takeFrom_eq (cb first : Nat) (raws : List (List UInt8)) (a : AS) : ∀ k,
    AS.takeFrom cb first raws a k = (a.tells cb (bads first raws k)).withL (a.L ++ planL 4 first (raws.map isEntry) (raws.map entOf) k)
  | 0 => by
    simp only [AS.takeFrom, List.range_zero, List.foldl_nil, bads, List.filterMap_nil, AS.tells, planL, List.append_nil]
    rfl
  | k + 1 => by
    rw [takeFrom_succ, takeFrom_eq cb first raws a k]
    have hb : bads first raws (k + 1) = bads first raws k ++ (match planAt 4 first (raws.map isEntry) (raws.map entOf) k with | some _ => [] | none => [badD first raws k]) := by
      unfold bads
      rw [List.range_succ, List.filterMap_append]
      congr 1
      cases h : planAt 4 first (raws.map isEntry) (raws.map entOf) k <;> simp [h]
    have hp : planL 4 first (raws.map isEntry) (raws.map entOf) (k + 1) = planL 4 first (raws.map isEntry) (raws.map entOf) k ++ (match planAt 4 first (raws.map isEntry) (raws.map entOf) k with | some r => [r] | none => []) := by
      unfold planL
      rw [List.range_succ, List.filterMap_append]
      congr 1
      cases h : planAt 4 first (raws.map isEntry) (raws.map entOf) k <;> simp [h]
    rw [hb, hp]
    unfold AS.tk1
    cases h : planAt 4 first (raws.map isEntry) (raws.map entOf) k with
    | none =>
      simp only [List.append_nil]
      rw [AS.tell_withL, AS.tells_append]
      rfl
    | some r =>
      simp only [List.append_nil]
      rw [← List.append_assoc]
      rfl

theorem planAt_facts {ring seq : Nat} {good : List Bool} {es : List Sqe} {k : Nat} {r : Req} (h : planAt ring seq good es k = some r) :
    r.id = ⟨ring, seq + k⟩ ∧ es[k]? = some r.e ∧ rightAt good k = true ∧ r.started = false ∧ (r.prev = 0 ∨ (1 ≤ k ∧ r.prev = seq + k - 1)) := by
  unfold planAt at h
  cases he : es[k]? with
  | none => rw [he] at h; simp at h
  | some e =>
    rw [he] at h
    simp only at h
    cases hg : rightAt good k with
    | false => rw [hg] at h; simp at h
    | true =>
      rw [hg] at h
      simp only at h
      cases hg2 : rightAt good ((k : Int) - 1) with
      | false =>
        rw [hg2] at h; simp only [Option.some.injEq] at h; subst h
        exact ⟨rfl, rfl, rfl, rfl, .inl rfl⟩
      | true =>
        rw [hg2] at h; simp only [Option.some.injEq] at h; subst h
        refine ⟨rfl, rfl, rfl, rfl, ?_⟩
        simp only
        split
        · exact .inl rfl
        · right
          refine ⟨?_, rfl⟩
          unfold rightAt at hg2
          simp only [Bool.and_eq_true, decide_eq_true_eq] at hg2
          omega

theorem planL_mem {ring seq : Nat} {good : List Bool} {es : List Sqe} {n : Nat} {r : Req} (h : r ∈ planL ring seq good es n) : ∃ k, k < n ∧ planAt ring seq good es k = some r := by
  unfold planL at h
  obtain ⟨k, hk, e⟩ := List.mem_filterMap.1 h
  exact ⟨k, List.mem_range.1 hk, e⟩

theorem planL_chn {seq : Nat} {good : List Bool} {es : List Sqe} {n : Nat} (hs : 1 ≤ seq) (hd : ∀ e ∈ es, noDrain e.flags = true) : Chn (planL 4 seq good es n) where
  ring := fun r hr => by obtain ⟨k, _, h⟩ := planL_mem hr; rw [(planAt_facts h).1]
  sorted := by
    unfold planL
    rw [List.pairwise_filterMap]
    refine List.Pairwise.imp ?_ (List.pairwise_lt_range (n := n))
    intro i j hij r hr r' hr'
    have h1 := (planAt_facts hr).1
    have h2 := (planAt_facts hr').1
    rw [h1, h2]
    simp only
    omega
  prev := fun r hr => by
    obtain ⟨k, _, h⟩ := planL_mem hr
    obtain ⟨h1, _, _, _, h5⟩ := planAt_facts h
    rcases h5 with h5 | ⟨h5, h6⟩
    · exact .inl h5
    · right; rw [h6, h1]; simp only; omega
  seq := fun r hr => by
    obtain ⟨k, _, h⟩ := planL_mem hr
    rw [(planAt_facts h).1]; simp only; omega
  drain := fun r hr => by
    obtain ⟨k, _, h⟩ := planL_mem hr
    exact hd _ (List.mem_of_getElem? (planAt_facts h).2.1)
  started := fun r hr => by
    obtain ⟨k, _, h⟩ := planL_mem hr
    exact (planAt_facts h).2.2.2.1

theorem planL_len (ring seq : Nat) (good : List Bool) (es : List Sqe) (n : Nat) : (planL ring seq good es n).length ≤ n := by
  unfold planL
  refine Nat.le_trans (List.length_filterMap_le _ _) ?_
  simp
end Go.Proofs
end
section
namespace Go.Proofs
open Go Go.Sep

/-! ## entering, plainly -/

/-- what a thread may have laid into its ring, so that entering takes and ends all -/
structure EIn (sb cb : Nat) (b : Int) (a : AS) (N r : Nat) : Prop where
  wf : a.WF
  over : a.over = []
  L : a.L = []
  wait : a.waiting sb = some N
  N8 : N ≤ 8
  room : a.room cb = some r
  cb8 : cb ≤ 8
  tk : a.taken ≤ 800000
  jn : a.J.length ≤ 700
  act : ∀ i, i < N → isEntry (a.raw sb i) = true → noDrain (entOf (a.raw sb i)).flags = true ∧ (Sqe.parse (a.raw sb i)).noDead = true ∧
    ((entOf (a.raw sb i)).op = 1 ∨ ((entOf (a.raw sb i)).op = 20 ∧ ∀ j, j < N → (entOf (a.raw sb j)).tag ≠ (entOf (a.raw sb i)).a))

section
variable {sb cb : Nat} {b : Int} {a : AS} {N r : Nat}

theorem EIn.n (h : EIn sb cb b a N r) : a.takeN sb (bud b) = min N (bud b) := by
  have : a.of 4 = [] := by simp [AS.of, h.L]
  simp only [AS.takeN, h.wait, Option.getD_some, this, List.length_nil]
  have := h.N8
  omega

def AS.base (a : AS) (n : Nat) : AS := { a.adv n with taken := a.taken + n }
def AS.goods (sb : Nat) (a : AS) (n : Nat) : List Bool := (a.raws sb n).map isEntry
def AS.ents (sb : Nat) (a : AS) (n : Nat) : List Sqe := (a.raws sb n).map entOf
def AS.plan (sb : Nat) (a : AS) (n : Nat) : List Req := planL 4 (a.taken + 1) (a.goods sb n) (a.ents sb n) n
def AS.bad (sb : Nat) (a : AS) (n : Nat) : List Deed := bads (a.taken + 1) (a.raws sb n) n

theorem EIn.take (h : EIn sb cb b a N r) : a.take sb cb (bud b) = ((a.base (min N (bud b))).tells cb (a.bad sb (min N (bud b)))).withL (a.plan sb (min N (bud b))) := by
  unfold AS.take
  rw [h.n, takeFrom_eq]
  have : ({ a.adv (min N (bud b)) with taken := a.taken + min N (bud b) } : AS).L = [] := h.L
  rw [this, List.nil_append]
  rfl

theorem raws_get (sb : Nat) (a : AS) (n i : Nat) (h : i < n) : (a.raws sb n)[i]? = some (a.raw sb i) := by
  unfold AS.raws
  rw [List.getElem?_map, List.getElem?_range h]
  rfl

theorem ents_get (sb : Nat) (a : AS) (n i : Nat) (h : i < n) : (a.ents sb n)[i]? = some (entOf (a.raw sb i)) := by
  unfold AS.ents
  rw [List.getElem?_map, raws_get sb a n i h]
  rfl

theorem goods_get (sb : Nat) (a : AS) (n i : Nat) (h : i < n) : (a.goods sb n)[i]? = some (isEntry (a.raw sb i)) := by
  unfold AS.goods
  rw [List.getElem?_map, raws_get sb a n i h]
  rfl

theorem plan_at {sb : Nat} {a : AS} {n i : Nat} {q : Req} (hi : i < n) (h : planAt 4 (a.taken + 1) (a.goods sb n) (a.ents sb n) i = some q) : q.e = entOf (a.raw sb i) ∧ isEntry (a.raw sb i) = true := by
  obtain ⟨_, h2, h3, _, _⟩ := planAt_facts h
  rw [ents_get sb a n i hi] at h2
  refine ⟨(Option.some.inj h2).symm, ?_⟩
  unfold rightAt at h3
  simp only [Int.toNat_natCast, goods_get sb a n i hi, Option.getD_some, Bool.and_eq_true] at h3
  exact h3.2

theorem plan_mem {sb : Nat} {a : AS} {n : Nat} {q : Req} (h : q ∈ a.plan sb n) : ∃ i, i < n ∧ q.e = entOf (a.raw sb i) ∧ isEntry (a.raw sb i) = true := by
  obtain ⟨i, hi, h2⟩ := planL_mem h
  obtain ⟨h3, h4⟩ := plan_at hi h2
  exact ⟨i, hi, h3, h4⟩

theorem EIn.chn (h : EIn sb cb b a N r) (n : Nat) (hn : n ≤ N) : Chn (a.plan sb n) where
  ring := fun q hq => by obtain ⟨k, _, hk⟩ := planL_mem hq; rw [(planAt_facts hk).1]
  sorted := by
    unfold AS.plan planL
    rw [List.pairwise_filterMap]
    refine List.Pairwise.imp ?_ (List.pairwise_lt_range (n := n))
    intro i j hij q hq q' hq'
    rw [(planAt_facts hq).1, (planAt_facts hq').1]
    simp only
    omega
  prev := fun q hq => by
    obtain ⟨k, _, hk⟩ := planL_mem hq
    obtain ⟨h1, _, _, _, h5⟩ := planAt_facts hk
    rcases h5 with h5 | ⟨h5, h6⟩
    · exact .inl h5
    · right; rw [h6, h1]; simp only; omega
  seq := fun q hq => by
    obtain ⟨k, _, hk⟩ := planL_mem hq
    rw [(planAt_facts hk).1]; simp only; omega
  drain := fun q hq => by
    obtain ⟨i, hi, h2, h3⟩ := plan_mem hq
    rw [h2]
    exact (h.act i (by omega) h3).1
  started := fun q hq => by
    obtain ⟨k, _, hk⟩ := planL_mem hq
    exact (planAt_facts hk).2.2.2.1

theorem bads_len (first : Nat) (raws : List (List UInt8)) (k : Nat) : (bads first raws k).length ≤ k := by
  unfold bads
  refine Nat.le_trans (List.length_filterMap_le _ _) ?_
  simp

theorem base_wf (h : a.WF) (n : Nat) : (a.base n).WF := by
  have := AS.wr_wf h 5 0 (le4 (a.hd + UInt32.ofNat n))
  exact ⟨this.len, this.all⟩

theorem EIn.good (h : EIn sb cb b a N r) : (a.take sb cb (bud b)).Good := by
  rw [h.take]
  have hn : min N (bud b) ≤ 8 := by have := h.N8; omega
  generalize hnn : min N (bud b) = n at hn
  have hnN : n ≤ N := by omega
  have hc := h.chn n hnN
  have hpl : (a.plan sb n).length ≤ n := planL_len _ _ _ _ _
  have hbl : (a.bad sb n).length ≤ n := bads_len _ _ _
  have hbase_over : (a.base n).over = [] := h.over
  have hbase_J : (a.base n).J = a.J := rfl
  have hov : ∀ (ds : List Deed) (x : AS), (x.tells cb ds).over.length ≤ x.over.length + ds.length := by
    intro ds
    induction ds with
    | nil => intro x; simp [AS.tells]
    | cons d ds ih =>
      intro x
      rw [AS.tells_cons]
      have h1 := ih (x.tell cb d)
      have h2 := (AS.post_over cb { x with J := x.J ++ [d] } (Cqe.of d)).1
      have h3 : (x.tell cb d).over.length ≤ x.over.length + 1 := h2
      simp only [List.length_cons]
      omega
  refine ⟨hc.ring, ?_, by show (a.plan sb n).length ≤ 12; omega, ?_, ?_⟩
  · intro q hq
    have hq' : q ∈ a.plan sb n := hq
    obtain ⟨i, hi, h2, h3⟩ := plan_mem hq'
    rw [h2]
    rcases (h.act i (by omega) h3).2.2 with h4 | ⟨h4, h5⟩
    · exact .inl h4
    · refine .inr ⟨h4, fun q' hq' => ?_⟩
      have hq2 : q' ∈ a.plan sb n := hq'
      obtain ⟨j, hj, h6, _⟩ := plan_mem hq2
      rw [h6]
      exact h5 j (by omega)
  · have h1 := hov (a.bad sb n) (a.base n)
    rw [hbase_over] at h1
    show ((a.base n).tells cb (a.bad sb n)).over.length + (a.plan sb n).length ≤ 900
    simp only [List.length_nil] at h1
    omega
  · show ((a.base n).tells cb (a.bad sb n)).J.length + (a.plan sb n).length ≤ 900
    rw [AS.tells_J, hbase_J, List.length_append]
    have := h.jn
    omega

/-- entering ends all that was taken -/
theorem EIn.enter (h : EIn sb cb b a N r) : a.enter sb cb b =
    (((a.base (min N (bud b))).tells cb (a.bad sb (min N (bud b)) ++ outs 0 0 (a.plan sb (min N (bud b))))).withL [], ((min N (bud b) : Nat) : Int)) := by
  unfold AS.enter
  rw [if_pos (by rw [h.wait, h.room]; rfl), h.n, h.take]
  have hn : min N (bud b) ≤ 8 := by have := h.N8; omega
  have hpl : (a.plan sb (min N (bud b))).length ≤ min N (bud b) := planL_len _ _ _ _ _
  rw [run_chain cb _ (bud b) _ (a.plan sb (min N (bud b))) rfl (by omega) (by omega) rfl (h.chn _ (by omega))]
  rw [AS.tells_withL, AS.withL_withL, ← AS.tells_append]
end

theorem KW.EnterE (k : KW) (b : Int) (N r : Nat) (h : EIn k.x.sqb k.x.cqb b k.view N r) :
    Spec Tryz.prog 50 [k.p, I 2, I b] k.chs (fun v A => ∃ k' : KW, k'.x = k.x ∧ k'.view = ((k.view.base (min N (bud b))).tells k.x.cqb (k.view.bad k.x.sqb (min N (bud b)) ++ outs 0 0 (k.view.plan k.x.sqb (min N (bud b))))).withL [] ∧ v = I ((min N (bud b) : Nat) : Int) ∧ A = k'.chs) := by
  have hL : k.view.L = [] := h.L
  have htk : k.taken ≤ 800000 := h.tk
  refine (KW.Enter k b h.over (by rw [hL]; simp) (by rw [hL]; simp) (by omega) (by have := h.jn; omega) ?_ (fun _ _ => h.good)).mono ?_
  · intro i hi he
    rw [h.n] at hi
    exact (h.act i (by omega) he).2.1
  · rintro v A ⟨k', h1, h2, h3, h4⟩
    rw [h.enter] at h2 h3
    exact ⟨k', h1, h2, h3, h4⟩
end Go.Proofs
end
section
namespace Go.Proofs
open Go Go.Sep

theorem outs_len : ∀ (l : List Req) (s : Nat) (x : Int), (outs s x l).length = l.length
  | [], _, _ => rfl
  | r :: t, s, x => by simp only [outs, List.length_cons, outs_len t]

theorem bads_plan_len (first : Nat) (raws : List (List UInt8)) : ∀ k, (bads first raws k).length + (planL 4 first (raws.map isEntry) (raws.map entOf) k).length = k
  | 0 => rfl
  | k + 1 => by
    have ih := bads_plan_len first raws k
    have hb : bads first raws (k + 1) = bads first raws k ++ (match planAt 4 first (raws.map isEntry) (raws.map entOf) k with | some _ => [] | none => [badD first raws k]) := by
      unfold bads
      rw [List.range_succ, List.filterMap_append]
      congr 1
      cases h : planAt 4 first (raws.map isEntry) (raws.map entOf) k <;> simp [h]
    have hp : planL 4 first (raws.map isEntry) (raws.map entOf) (k + 1) = planL 4 first (raws.map isEntry) (raws.map entOf) k ++ (match planAt 4 first (raws.map isEntry) (raws.map entOf) k with | some r => [r] | none => []) := by
      unfold planL
      rw [List.range_succ, List.filterMap_append]
      congr 1
      cases h : planAt 4 first (raws.map isEntry) (raws.map entOf) k <;> simp [h]
    rw [hb, hp, List.length_append, List.length_append]
    cases planAt 4 first (raws.map isEntry) (raws.map entOf) k <;> simp <;> omega

theorem word_wr_ne (a : AS) (h : a.WF) (u off : Nat) (bs : List UInt8) (v o : Nat) (hu : 1 ≤ u) (hu2 : u ≤ 64) (hv : 1 ≤ v) (hd : v ≠ u ∨ o + 4 ≤ off ∨ off + bs.length ≤ o) : (a.wr u off bs).word v o = a.word v o := by
  unfold AS.word
  rw [AS.wr_at a h u off bs v hu hu2 hv]
  split
  · rename_i e
    subst e
    rcases hd with hd | hd
    · exact absurd rfl hd
    · exact u32At_laidIn_ne _ _ _ _ hd
  · rfl

/-- what entering leaves -/
structure EOut (sb cb : Nat) (a : AS) (n r : Nat) (ds : List Deed) (a' : AS) : Prop where
  wf : a'.WF
  L : a'.L = []
  J : a'.J = a.J ++ ds
  over : a'.over.length = ds.length - r
  room : a'.room cb = some (r - ds.length)
  tl : a'.tl = a.tl + UInt32.ofNat (min r ds.length)
  hd : a'.hd = a.hd + UInt32.ofNat n
  taken : a'.taken = a.taken + n
  at5 : a'.at_ 5 = laidIn (a.at_ 5) 0 (le4 (a.hd + UInt32.ofNat n))
  head : a'.word 6 0 = a.word 6 0

theorem EIn.out {sb cb : Nat} {b : Int} {a : AS} {N r : Nat} (h : EIn sb cb b a N r) (ds : List Deed)
    (hds : ds = a.bad sb (min N (bud b)) ++ outs 0 0 (a.plan sb (min N (bud b)))) :
    ds.length = min N (bud b) ∧ EOut sb cb a (min N (bud b)) r ds (((a.base (min N (bud b))).tells cb ds).withL []) := by
  generalize min N (bud b) = n at hds
  have hlen : ds.length = n := by
    rw [hds, List.length_append, outs_len]
    exact bads_plan_len _ _ _
  refine ⟨hlen, ?_⟩
  have hbw := base_wf h.wf n
  have h5 : (a.base n).at_ 5 = laidIn (a.at_ 5) 0 (le4 (a.hd + UInt32.ofNat n)) := by
    show (a.wr 5 0 (le4 (a.hd + UInt32.ofNat n))).at_ 5 = _
    rw [AS.wr_at a h.wf 5 0 _ 5 (by omega) (by omega) (by omega), if_pos rfl]
  have hhead : (a.base n).word 6 0 = a.word 6 0 := word_wr_ne a h.wf 5 0 (le4 (a.hd + UInt32.ofNat n)) 6 0 (by omega) (by omega) (by omega) (.inl (by omega))
  have hroom : (a.base n).room cb = some r := by
    apply AS.room_of
    have h1 := AS.room_some h.room
    have : (a.base n).used = a.used := by
      unfold AS.used
      rw [hhead]; rfl
    rw [this]; exact h1
  obtain ⟨k1, k2, k3, k4⟩ := AS.tells_room cb h.cb8 ds (a.base n) r hbw h.over hroom
  refine ⟨⟨k1.wf.len, k1.wf.all⟩, rfl, ?_, k2, k3, k4, k1.hd, k1.taken, k1.at5.trans h5, k1.head.trans hhead⟩
  show ((a.base n).tells cb ds).J = _
  rw [AS.tells_J]
  rfl

/-- the entries behind -/
theorem raw_after {sb : Nat} {a a' : AS} {n : Nat} (hsb : sb ≤ 3) (hwf : a.WF) (hhd : a'.hd = a.hd + UInt32.ofNat n) (h5 : a'.at_ 5 = laidIn (a.at_ 5) 0 (le4 (a.hd + UInt32.ofNat n))) (j : Nat) :
    a'.raw sb j = a.raw sb (n + j) := by
  unfold AS.raw
  rw [h5, hhd, slice_laidIn_ne _ _ _ _ _ (.inr (by rw [le4_len]; omega))]
  congr 5
  rw [UInt32.add_assoc]
  congr 1
  apply UInt32.toNat_inj.1
  simp

theorem wait_after {sb : Nat} {a a' : AS} {n N : Nat} (hsb : sb ≤ 3) (hhd : a'.hd = a.hd + UInt32.ofNat n) (h5 : a'.at_ 5 = laidIn (a.at_ 5) 0 (le4 (a.hd + UInt32.ofNat n))) (hw : a.waiting sb = some N) (hn : n ≤ N) :
    a'.waiting sb = some (N - n) := by
  have hp : 2 ^ sb ≤ 8 := by
    have := Nat.pow_le_pow_right (n := 2) (by omega) hsb
    simpa using this
  unfold AS.waiting at hw
  split at hw
  · rename_i hle
    simp only [Option.some.injEq] at hw
    have h54 : a'.word 5 4 = a.word 5 4 := by
      unfold AS.word
      rw [h5, u32At_laidIn_ne _ _ _ _ (.inr (by rw [le4_len]; omega))]
    have hd : a'.dist.toNat = N - n := by
      unfold AS.dist at hw hle ⊢
      rw [h54, hhd]
      have e : (a.word 5 4 - (a.hd + UInt32.ofNat n)).toNat = ((a.word 5 4 - a.hd).toNat + (2 ^ 32 - n)) % 2 ^ 32 := by
        simp only [UInt32.toNat_sub, UInt32.toNat_add, UInt32.toNat_ofNat']
        have := (a.word 5 4).toNat_lt
        have := a.hd.toNat_lt
        omega
      rw [e, hw]
      omega
    unfold AS.waiting
    rw [hd, if_pos (by omega)]
  · simp at hw

end Go.Proofs
end
