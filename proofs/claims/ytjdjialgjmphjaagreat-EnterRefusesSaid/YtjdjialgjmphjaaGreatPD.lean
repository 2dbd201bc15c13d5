/- Part of the proof: P10 P11. -/
import Derived.Test.YtjdjialgjmphjaaGreatPC
import Derived.Test.YtjdjialgjmphjaaGreatW31
set_option linter.all false
section
namespace Go.Proofs
open Go Go.Sep

/-- bytes laid one behind the other from a ring's first place on -/
structure LayB (a : AS) (bs : Nat → List UInt8) (n cb : Nat) : Prop where
  wf : a.WF
  hd : a.hd = 0
  tl : a.tl = 0
  over : a.over = []
  L : a.L = []
  J : a.J = []
  taken : a.taken = 0
  room : a.room cb = some (2 ^ cb)
  raw : ∀ i, i < n → a.raw 3 i = bs i

theorem LayB.zero {es : List Sqe} {a : AS} {cb : Nat} (h : Rdy a es cb) (bs : Nat → List UInt8) : LayB a bs 0 cb :=
  ⟨h.wf, h.hd0, h.tl0, h.over, h.L, h.J0, h.tk0, h.room, fun i hi => by omega⟩

theorem LayB.step {a : AS} {bs : Nat → List UInt8} {n cb : Nat} (ih : LayB a bs n cb) (hn : n < 8) (hb : (bs n).length = 32) : LayB (a.wr 5 (16 + 32 * n) (bs n)) bs (n + 1) cb := by
  have hwf := AS.wr_wf ih.wf 5 (16 + 32 * n) (bs n)
  refine ⟨hwf, ih.hd, ih.tl, ih.over, ih.L, ih.J, ih.taken, ?_, ?_⟩
  · apply AS.room_of
    have := AS.room_some ih.room
    unfold AS.used at this ⊢
    rw [word_wr_ne a ih.wf 5 _ _ 6 0 (by omega) (by omega) (by omega) (.inl (by omega))]
    exact this
  · intro i hi
    have h5 : (a.wr 5 (16 + 32 * n) (bs n)).at_ 5 = laidIn (a.at_ 5) (16 + 32 * n) (bs n) := by
      rw [AS.wr_at a ih.wf 5 _ _ 5 (by omega) (by omega) (by omega), if_pos rfl]
    have h512 := ih.wf.at_len 5 (by omega) (by omega)
    rw [raw_off (a.wr 5 (16 + 32 * n) (bs n)) i (show _ from ih.hd) (by omega), h5]
    by_cases hin : i = n
    · subst hin
      have := slice_laidIn (a.at_ 5) (bs i) (16 + 32 * i) (by rw [hb, h512]; omega)
      rw [hb] at this
      exact this
    · rw [slice_laidIn_ne _ _ _ _ _ (by rw [hb]; omega), ← raw_off a i ih.hd (by omega)]
      exact ih.raw i (by omega)

/-- a ring whose tail says that these are there -/
structure RdyB (a : AS) (bs : Nat → List UInt8) (n cb : Nat) : Prop where
  wf : a.WF
  over : a.over = []
  L : a.L = []
  hd0 : a.hd = 0
  J0 : a.J = []
  tk0 : a.taken = 0
  tl0 : a.tl = 0
  wait : a.waiting 3 = some n
  room : a.room cb = some (2 ^ cb)
  raw : ∀ i, i < n → a.raw 3 i = bs i

theorem LayB.tail {a : AS} {bs : Nat → List UInt8} {n cb : Nat} (h : LayB a bs n cb) (hn : n ≤ 8) : RdyB (a.wr 5 4 (le4 (UInt32.ofNat n))) bs n cb := by
  have hwf := AS.wr_wf h.wf 5 4 (le4 (UInt32.ofNat n))
  have h5 : (a.wr 5 4 (le4 (UInt32.ofNat n))).at_ 5 = laidIn (a.at_ 5) 4 (le4 (UInt32.ofNat n)) := by
    rw [AS.wr_at a h.wf 5 _ _ 5 (by omega) (by omega) (by omega), if_pos rfl]
  have h512 := h.wf.at_len 5 (by omega) (by omega)
  have h54 : (a.wr 5 4 (le4 (UInt32.ofNat n))).word 5 4 = UInt32.ofNat n := by
    unfold AS.word
    rw [h5]
    have := u32At_laidIn (a.at_ 5) (le4 (UInt32.ofNat n)) 4 0 (by rw [le4_len, h512]; omega) (by rw [le4_len]; omega)
    rw [u32At_le4] at this
    exact this
  have hhd : (a.wr 5 4 (le4 (UInt32.ofNat n))).hd = 0 := h.hd
  refine ⟨hwf, h.over, h.L, h.hd, h.J, h.taken, h.tl, ?_, ?_, ?_⟩
  · unfold AS.waiting AS.dist
    rw [h54, hhd]
    have : (UInt32.ofNat n - 0).toNat = n := by simp; omega
    rw [this, if_pos (by omega)]
  · apply AS.room_of
    have := AS.room_some h.room
    unfold AS.used at this ⊢
    rw [word_wr_ne a h.wf 5 4 _ 6 0 (by omega) (by omega) (by omega) (.inl (by omega))]
    exact this
  · intro i hi
    rw [raw_off _ i hhd (by omega), h5, slice_laidIn_ne _ _ _ _ _ (.inr (by rw [le4_len]; omega)), ← raw_off a i h.hd (by omega)]
    exact h.raw i hi

/-! ## what is told of nops -/

theorem outs_nops : ∀ (L : List Req) (s : Nat) (x : Int), 0 ≤ x → (∀ r ∈ L, r.e.op = 1) → ∀ d ∈ outs s x L, ∃ r ∈ L, d = dd r 0
  | [], _, _, _, _, d, hd => by simp [outs] at hd
  | r :: t, s, x, hx, h, d, hd => by
    have hr : actRes r = 0 := by simp [actRes, h r (by simp)]
    have hc : ¬ (r.prev = s ∧ r.soft = true ∧ x < 0) := fun e => by omega
    simp only [outs, if_neg hc, hr, List.mem_cons] at hd
    rcases hd with rfl | hd
    · exact ⟨r, by simp, rfl⟩
    · obtain ⟨q, hq, e⟩ := outs_nops t r.id.seq 0 (by omega) (fun q hq => h q (by simp [hq])) d hd
      exact ⟨q, by simp [hq], e⟩

theorem outs_ids : ∀ (L : List Req) (s : Nat) (x : Int) (r : Req), r ∈ L → ∃ d ∈ outs s x L, d.ring = r.id.ring ∧ d.seq = r.id.seq
  | [], _, _, r, h => by simp at h
  | q :: t, s, x, r, h => by
    rcases List.mem_cons.1 h with rfl | h
    · exact ⟨_, by simp only [outs]; exact List.mem_cons_self, rfl, rfl⟩
    · obtain ⟨d, hd, e⟩ := outs_ids t q.id.seq _ r h
      exact ⟨d, by simp only [outs]; exact List.mem_cons_of_mem _ hd, e⟩

theorem atD_of {J : List Deed} {id : ID} (hex : ∃ d ∈ J, d.ring = id.ring ∧ d.seq = id.seq) : ∃ k d, atD J id = some k ∧ J[k]? = some d ∧ d ∈ J ∧ d.ring = id.ring ∧ d.seq = id.seq := by
  obtain ⟨d, hd, h1, h2⟩ := hex
  cases h : atD J id with
  | none =>
    unfold atD at h
    rw [List.findIdx?_eq_none_iff] at h
    have := h d hd
    simp [isD, h1, h2] at this
  | some k =>
    unfold atD at h
    rw [List.findIdx?_eq_some_iff_getElem] at h
    obtain ⟨hk, hp, _⟩ := h
    have hp' : J[k].ring = id.ring ∧ J[k].seq = id.seq := by simpa [isD] using hp
    exact ⟨k, J[k], rfl, by simp, List.getElem_mem hk, hp'.1, hp'.2⟩
end Go.Proofs
end
section
namespace Go.Proofs
open Go Go.Sep

theorem and_eq (p q : Int) (m : Nat) (h : BitVec.ofInt 64 p &&& BitVec.ofInt 64 q = BitVec.ofNat 64 m) (hm : m < 1000) : bitsOf .and .i64 p q = m := by
  have : bitsOf .and .i64 p q = IntKind.i64.wrap (((BitVec.ofInt 64 p &&& BitVec.ofInt 64 q).toNat : Nat) : Int) := rfl
  rw [this, h]
  have e : (BitVec.ofNat 64 m).toNat = m := by simp; omega
  rw [e]
  exact fits_i64 (by omega) (by omega)

def mixE (i : Nat) : Sqe := ⟨1, 1, UInt32.ofNat (20 + i), 0, 0, 0, 0, 0⟩
theorem mix_ok (i : Nat) : (mixE i).ok = true := by
  unfold Sqe.ok
  rw [show (mixE i).flags = 1 from rfl, show (mixE i).op = 1 from rfl, and_eq 1 3 1 (by decide) (by omega)]
  rfl
theorem mix_drain (i : Nat) : noDrain (mixE i).flags = true := by
  unfold noDrain
  rw [show (mixE i).flags = 1 from rfl, and_eq 1 4 0 (by decide) (by omega)]
  rfl
theorem mix_dead (i : Nat) : (mixE i).noDead = true := by
  unfold Sqe.noDead
  rw [show (mixE i).flags = 1 from rfl, and_eq 1 8 0 (by decide) (by omega)]
  rfl

def mixB (bad : Nat → Bool) (i : Nat) : List UInt8 := if bad i then (mixE i).bytes.set 30 7 else (mixE i).bytes
theorem mixB_len (bad : Nat → Bool) (i : Nat) : (mixB bad i).length = 32 := by
  unfold mixB
  split
  · rw [List.length_set]; exact Sqe.bytes_len _
  · exact Sqe.bytes_len _

theorem set30_getD (l : List UInt8) (j : Nat) (h : j ≠ 30) : (l.set 30 7).getD j 0 = l.getD j 0 := by
  rw [List.getD_eq_getElem?_getD, List.getD_eq_getElem?_getD, List.getElem?_set_ne (by omega)]

theorem bytes30 (e : Sqe) : e.bytes.getD 30 0 = 0 := by
  have l := e.b0_len
  rw [Sqe.bytes_eq]
  rw [put32_getD_ne _ _ _ _ (by simp only [put32_len]; omega) (by omega), put32_getD_ne _ _ _ _ (by simp only [put32_len]; omega) (by omega), put32_getD_ne _ _ _ _ (by simp only [put32_len]; omega) (by omega),
    put32_getD_ne _ _ _ _ (by simp only [put32_len]; omega) (by omega), put32_getD_ne _ _ _ _ (by simp only [put32_len]; omega) (by omega), put32_getD_ne _ _ _ _ (by omega) (by omega), e.b0_getD 30 (by omega)]
  rfl

theorem bad_parse (e : Sqe) (l : List UInt8) (h : e.ok = true) (hl : l = e.bytes.set 30 7) : isEntry l = false ∧ u32At l 4 = e.tag := by
  obtain ⟨h1, h2, h3, h4, h5, h6⟩ := e.bytes_word
  have hlen := e.bytes_len
  have hp := Sqe.parse_bytes e h
  have h30 := bytes30 e
  generalize hb : e.bytes = bs at *
  have hg : ∀ j, j ≠ 30 → l.getD j 0 = bs.getD j 0 := fun j hj => by rw [hl]; exact set30_getD bs j hj
  have hw : ∀ a, a + 4 ≤ 28 → u32At l a = u32At bs a := fun a ha => u32At_congr fun i hi => hg (a + i) (by omega)
  have hpl : Sqe.parse l = Sqe.parse bs := by
    have e1 : Sqe.parse l = ⟨((l.getD 0 0).toNat : Int), ((l.getD 1 0).toNat : Int), u32At l 4, u32At l 8, u32At l 12, u32At l 16, u32At l 20, u32At l 24⟩ := rfl
    have e2 : Sqe.parse bs = ⟨((bs.getD 0 0).toNat : Int), ((bs.getD 1 0).toNat : Int), u32At bs 4, u32At bs 8, u32At bs 12, u32At bs 16, u32At bs 20, u32At bs 24⟩ := rfl
    rw [e1, e2, hg 0 (by omega), hg 1 (by omega), hw 4 (by omega), hw 8 (by omega), hw 12 (by omega), hw 16 (by omega), hw 20 (by omega), hw 24 (by omega)]
  refine ⟨?_, by rw [hw 4 (by omega), h1]⟩
  have hie : isEntry l = ((Sqe.parse l).ok && decide ((Sqe.parse l).bytes = l)) := rfl
  rw [hie, hpl, hp, hb]
  have : bs ≠ l := by
    intro e
    have h7 : l.getD 30 0 = 7 := by
      rw [hl, List.getD_eq_getElem?_getD, List.getElem?_set_self (by omega)]
      rfl
    rw [← e, h30] at h7
    exact absurd h7 (by decide)
  rw [decide_eq_false this, Bool.and_false]

/-- what the law looks at, of what is told -/
structure MixOut (bad : Nat → Bool) (n : Nat) (a' : AS) : Prop where
  L : a'.L = []
  jl : a'.J.length = n
  tl : a'.tl = UInt32.ofNat n
  at_ : ∀ i, i < n → ∃ k d, atD a'.J ⟨4, i + 1⟩ = some k ∧ a'.J[k]? = some d ∧ d.result = (if bad i then -1 else 0) ∧ d.tag = UInt32.ofNat (20 + i)

section
variable {bad : Nat → Bool} {n : Nat} {a a' : AS}

theorem mix_raw (h : RdyB a (mixB bad) n 4) (i : Nat) (hi : i < n) :
    isEntry (a.raw 3 i) = !bad i ∧ u32At (a.raw 3 i) 4 = UInt32.ofNat (20 + i) ∧ (bad i = false → entOf (a.raw 3 i) = mixE i ∧ Sqe.parse (a.raw 3 i) = mixE i) := by
  have hr := h.raw i hi
  unfold mixB at hr
  cases hb : bad i
  · rw [hb] at hr
    simp only [Bool.false_eq_true, if_false] at hr
    obtain ⟨h1, h2, h3⟩ := entOf_bytes (mixE i) _ (mix_ok i) hr
    refine ⟨h1, ?_, fun _ => ⟨h2, h3⟩⟩
    rw [hr]
    exact (Sqe.bytes_word (mixE i)).1
  · rw [hb] at hr
    simp only [if_true] at hr
    obtain ⟨h1, h2⟩ := bad_parse (mixE i) _ (mix_ok i) hr
    exact ⟨h1, h2, fun e => by simp at e⟩

theorem mix_in (h : RdyB a (mixB bad) n 4) (hn : n ≤ 8) (b : Int) : EIn 3 4 b a n 16 := by
  refine ⟨h.wf, h.over, h.L, h.wait, hn, h.room, by omega, by rw [h.tk0]; omega, by rw [h.J0]; simp, ?_⟩
  intro i hi he
  obtain ⟨h1, _, h3⟩ := mix_raw h i hi
  have hb : bad i = false := by rw [he] at h1; simpa using h1.symm
  obtain ⟨h4, h5⟩ := h3 hb
  rw [h4, h5]
  exact ⟨mix_drain _, mix_dead _, .inl rfl⟩

theorem mix_out (h : RdyB a (mixB bad) n 4) (hn : n ≤ 8) (o : EOut 3 4 a n 16 (a.bad 3 n ++ outs 0 0 (a.plan 3 n)) a') (hl : (a.bad 3 n ++ outs 0 0 (a.plan 3 n)).length = n) : MixOut bad n a' := by
  have hJ : a'.J = a.bad 3 n ++ outs 0 0 (a.plan 3 n) := by rw [o.J, h.J0]; rfl
  refine ⟨o.L, by rw [hJ]; exact hl, ?_, ?_⟩
  · rw [o.tl, hl, h.tl0, Nat.min_eq_right (by omega)]
    apply UInt32.toNat_inj.1
    simp
  · intro i hi
    have htk : a.taken = 0 := h.tk0
    have hri : (a.raws 3 n)[i]? = some (a.raw 3 i) := raws_get 3 a n i hi
    obtain ⟨hm1, hm2, hm3⟩ := mix_raw h i hi
    -- every deed of that number is as it should be
    have hall : ∀ d ∈ a'.J, d.ring = 4 → d.seq = i + 1 → d.result = (if bad i then -1 else 0) ∧ d.tag = UInt32.ofNat (20 + i) := by
      intro d hd _ hs
      rw [hJ, List.mem_append] at hd
      rcases hd with hd | hd
      · unfold AS.bad bads at hd
        obtain ⟨j, hj, e⟩ := List.mem_filterMap.1 hd
        have hjn : j < n := List.mem_range.1 hj
        split at e
        · simp at e
        · rename_i hnone
          simp only [Option.some.injEq] at e
          subst e
          have hji : j = i := by
            simp only [badD] at hs
            omega
          subst hji
          have hbj : bad j = true := by
            cases hb : bad j
            · exfalso
              rw [hb] at hm1
              obtain ⟨r, hr, _⟩ := planAt_some (ring := 4) (seq := a.taken + 1) (good := (a.raws 3 n).map isEntry) (es := (a.raws 3 n).map entOf) (k := j) (e := entOf (a.raw 3 j)) (by rw [List.getElem?_map, hri]; rfl) (by
                unfold rightAt
                rw [List.getElem?_map, Int.toNat_natCast, hri]
                simp [hm1])
              rw [hnone] at hr
              simp at hr
            · rfl
          rw [hbj]
          refine ⟨rfl, ?_⟩
          simp only [badD]
          rw [List.getD_eq_getElem?_getD, hri]
          exact hm2
      · obtain ⟨r, hr, e⟩ := outs_nops (a.plan 3 n) 0 0 (by omega) (by
          intro r hr
          obtain ⟨j, hj, h2, h3⟩ := plan_mem hr
          obtain ⟨g1, _, g3⟩ := mix_raw h j hj
          have hb : bad j = false := by rw [h3] at g1; simpa using g1.symm
          rw [h2, (g3 hb).1]; rfl) d hd
        obtain ⟨j, hj, h2⟩ := planL_mem hr
        have hid := (planAt_facts h2).1
        have hji : j = i := by
          have : d.seq = r.id.seq := by rw [e]; rfl
          rw [this, hid] at hs
          simp only at hs
          omega
        subst hji
        obtain ⟨p1, p2⟩ := plan_at hj h2
        have hb : bad j = false := by rw [p2] at hm1; simpa using hm1.symm
        rw [hb, e]
        refine ⟨rfl, ?_⟩
        show r.e.tag = _
        rw [p1, (hm3 hb).1]
        rfl
    -- and there is one
    have hex : ∃ d ∈ a'.J, d.ring = 4 ∧ d.seq = i + 1 := by
      cases hp : planAt 4 (a.taken + 1) ((a.raws 3 n).map isEntry) ((a.raws 3 n).map entOf) i with
      | none =>
        refine ⟨badD (a.taken + 1) (a.raws 3 n) i, ?_, rfl, ?_⟩
        · rw [hJ, List.mem_append]
          left
          unfold AS.bad bads
          refine List.mem_filterMap.2 ⟨i, List.mem_range.2 hi, ?_⟩
          rw [hp]
        · simp only [badD]; omega
      | some r =>
        have hr : r ∈ a.plan 3 n := by
          unfold AS.plan planL
          exact List.mem_filterMap.2 ⟨i, List.mem_range.2 hi, hp⟩
        obtain ⟨d, hd, e1, e2⟩ := outs_ids (a.plan 3 n) 0 0 r hr
        have hid := (planAt_facts hp).1
        refine ⟨d, by rw [hJ, List.mem_append]; exact .inr hd, by rw [e1, hid], ?_⟩
        rw [e2, hid]
        simp only
        omega
    obtain ⟨k, d, h1, h2, h3, h4, h5⟩ := atD_of (J := a'.J) (id := ⟨4, i + 1⟩) hex
    exact ⟨k, d, h1, h2, hall d h3 h4 h5⟩
end
end Go.Proofs
end
