/- Part of the proof: P0 P1 P2. -/
import Derived.Test.YtjdjialgjmphjaaGreatW2
import Derived.Test.YtjdjialgjmphjaaGreatW5
import Derived.Test.YtjdjialgjmphjaaGreatW19
set_option linter.all false
section
namespace Go.Proofs
open Go Go.Sep

/-! ## bytes and words, plainly -/

theorem byteOf_cat (n : UInt32) : leF (byteOf n) 4 = n := by
  apply UInt32.toNat_inj.1
  have hn := n.toNat_lt
  have e : ∀ i < 4, (byteOf n i).toNat = n.toNat / 2 ^ (8 * i) % 2 ^ 8 := by
    intro i hi
    have : i = 0 ∨ i = 1 ∨ i = 2 ∨ i = 3 := by omega
    rcases this with rfl | rfl | rfl | rfl <;> simp [byteOf, UInt32.toNat_shiftRight, Nat.shiftRight_eq_div_pow]
  have e0 := e 0 (by omega)
  have e1 := e 1 (by omega)
  have e2 := e 2 (by omega)
  have e3 := e 3 (by omega)
  simp only [leF]
  simp only [UInt32.toNat_or, UInt32.toNat_shiftLeft, UInt8.toNat_toUInt32, UInt32.toNat_ofNat']
  rw [e0, e1, e2, e3]
  apply Nat.eq_of_testBit_eq
  intro i
  simp only [Nat.testBit_or, Nat.testBit_mod_two_pow, Nat.testBit_shiftLeft, Nat.testBit_div_two_pow]
  have hz : Nat.testBit (UInt32.toNat 0) i = false := by simp
  rw [hz]
  by_cases h : i < 32
  · rcases (by omega : i < 8 ∨ (8 ≤ i ∧ i < 16) ∨ (16 ≤ i ∧ i < 24) ∨ (24 ≤ i ∧ i < 32)) with h | h | h | h
    · have a1 : ¬ (8 ≤ i) := by omega
      have a2 : ¬ (16 ≤ i) := by omega
      have a3 : ¬ (24 ≤ i) := by omega
      have a4 : i < 32 := by omega
      simp [a1, a2, a3, a4, h]
    · have a2 : ¬ (16 ≤ i) := by omega
      have a3 : ¬ (24 ≤ i) := by omega
      have a4 : ¬ i < 8 := by omega
      have a5 : i - 8 < 8 := by omega
      have a6 : i < 32 := by omega
      have a7 : 8 + (i - 8) = i := by omega
      simp [a2, a3, a4, a5, a6, a7, h.1]
    · have a3 : ¬ (24 ≤ i) := by omega
      have a4 : ¬ i < 8 := by omega
      have a5 : ¬ i - 8 < 8 := by omega
      have a6 : i - 16 < 8 := by omega
      have a7 : 16 + (i - 16) = i := by omega
      have a8 : i < 32 := by omega
      simp [a3, a4, a5, a6, a7, a8, h.1]
    · have a4 : ¬ i < 8 := by omega
      have a5 : ¬ i - 8 < 8 := by omega
      have a6 : ¬ i - 16 < 8 := by omega
      have a9 : i - 24 < 8 := by omega
      have a7 : 24 + (i - 24) = i := by omega
      simp [a4, a5, a6, a7, a9, h.1, h.2]
  · have : n.toNat.testBit i = false := Nat.testBit_lt_two_pow (Nat.lt_of_lt_of_le hn (Nat.pow_le_pow_right (by omega) (by omega)))
    rw [this]
    simp [h]
end Go.Proofs
end
section
namespace Go.Proofs
open Go Go.Sep

theorem putF_getD (n : UInt32) (a : Nat) : ∀ (k : Nat) (l : List UInt8) (j : Nat), j < l.length → (putF n a k l).getD j 0 = if a ≤ j ∧ j < a + k then byteOf n (j - a) else l.getD j 0
  | 0, l, j, _ => by simp [putF]; omega
  | k + 1, l, j, h => by
    have ih := putF_getD n a k l j h
    have hl := putF_len n a k l
    simp only [putF]
    simp only [List.getD_eq_getElem?_getD] at ih ⊢
    by_cases e : a + k = j
    · subst e
      rw [List.getElem?_set_self (by rw [hl]; exact h)]
      have : a ≤ a + k ∧ a + k < a + (k + 1) := by omega
      rw [if_pos this]
      simp
    · rw [List.getElem?_set_ne e, ih]
      by_cases h2 : a ≤ j ∧ j < a + k
      · rw [if_pos h2, if_pos (by omega)]
      · rw [if_neg h2, if_neg (by omega)]

theorem u32At_congr {l l' : List UInt8} {a a' : Nat} (h : ∀ i, i < 4 → l.getD (a + i) 0 = l'.getD (a' + i) 0) : u32At l a = u32At l' a' := by
  unfold u32At
  simp only [leF]
  rw [h 0 (by omega), h 1 (by omega), h 2 (by omega), h 3 (by omega)]

theorem u32At_put32 (l : List UInt8) (a : Nat) (n : UInt32) (h : a + 4 ≤ l.length) : u32At (put32 l a n) a = n := by
  have : u32At (put32 l a n) a = leF (byteOf n) 4 := by
    unfold u32At put32
    have e : ∀ i, i < 4 → (putF n a 4 l).getD (a + i) 0 = byteOf n i := by
      intro i hi
      rw [putF_getD n a 4 l (a + i) (by omega), if_pos (by omega), Nat.add_sub_cancel_left]
    simp only [leF]
    rw [e 0 (by omega), e 1 (by omega), e 2 (by omega), e 3 (by omega)]
  rw [this, byteOf_cat]

theorem u32At_put32_ne (l : List UInt8) (a b : Nat) (n : UInt32) (h : b + 4 ≤ l.length) (hd : a + 4 ≤ b ∨ b + 4 ≤ a) : u32At (put32 l a n) b = u32At l b := by
  refine u32At_congr fun i hi => ?_
  unfold put32
  rw [putF_getD n a 4 l (b + i) (by omega), if_neg (by omega)]

theorem put32_getD_ne (l : List UInt8) (a j : Nat) (n : UInt32) (h : j < l.length) (hd : j < a ∨ a + 4 ≤ j) : (put32 l a n).getD j 0 = l.getD j 0 := by
  unfold put32
  rw [putF_getD n a 4 l j h, if_neg (by omega)]

/-- bytes laid into others -/
theorem laid_getD (l b : List UInt8) (off j : Nat) (h : off + b.length ≤ l.length) : (laid l off b).getD j 0 = if off ≤ j ∧ j < off + b.length then b.getD (j - off) 0 else l.getD j 0 := by
  simp only [laid, List.getD_eq_getElem?_getD]
  by_cases h1 : j < off
  · rw [List.append_assoc, List.getElem?_append_left (by simp; omega), List.getElem?_take_of_lt h1, if_neg (by omega)]
  · by_cases h2 : j < off + b.length
    · rw [List.getElem?_append_left (by simp; omega), List.getElem?_append_right (by simp; omega), if_pos (by omega)]
      simp only [List.length_take]
      rw [Nat.min_eq_left (by omega)]
    · rw [List.getElem?_append_right (by simp; omega), if_neg (by omega), List.getElem?_drop]
      congr 2
      simp only [List.length_append, List.length_take]
      omega

theorem laidIn_getD (l b : List UInt8) (off j : Nat) (h : off + b.length ≤ l.length) : (laidIn l off b).getD j 0 = if off ≤ j ∧ j < off + b.length then b.getD (j - off) 0 else l.getD j 0 := by
  rw [laidIn, if_pos h, laid_getD l b off j h]

theorem u32At_laidIn_ne (l b : List UInt8) (off a : Nat) (hd : a + 4 ≤ off ∨ off + b.length ≤ a) : u32At (laidIn l off b) a = u32At l a := by
  unfold laidIn
  split
  · rename_i h
    refine u32At_congr fun i hi => ?_
    rw [laid_getD l b off (a + i) h, if_neg (by omega)]
  · rfl

theorem u32At_laidIn (l b : List UInt8) (off a : Nat) (h : off + b.length ≤ l.length) (h2 : a + 4 ≤ b.length) : u32At (laidIn l off b) (off + a) = u32At b a := by
  refine u32At_congr fun i hi => ?_
  rw [laidIn_getD l b off (off + a + i) h, if_pos (by omega)]
  congr 1
  omega

theorem u32At_le4 (n : UInt32) : u32At (le4 n) 0 = n := u32At_put32 [0, 0, 0, 0] 0 n (by simp)

theorem slice_laidIn_ne (l b : List UInt8) (off a n : Nat) (hd : a + n ≤ off ∨ off + b.length ≤ a) : ((laidIn l off b).drop a).take n = (l.drop a).take n := by
  unfold laidIn
  split
  · rename_i h
    apply List.ext_getElem?
    intro j
    by_cases hj : j < n
    · rw [List.getElem?_take_of_lt hj, List.getElem?_take_of_lt hj, List.getElem?_drop, List.getElem?_drop]
      simp only [laid]
      rcases hd with hd | hd
      · rw [List.append_assoc, List.getElem?_append_left (by simp; omega), List.getElem?_take_of_lt (by omega)]
      · rw [List.getElem?_append_right (by simp; omega), List.getElem?_drop]
        congr 1
        simp only [List.length_append, List.length_take]
        omega
    · rw [List.getElem?_eq_none (by simp; omega), List.getElem?_eq_none (by simp; omega)]
  · rfl

theorem slice_laidIn (l b : List UInt8) (off : Nat) (h : off + b.length ≤ l.length) : ((laidIn l off b).drop off).take b.length = b := by
  rw [laidIn, if_pos h, laid]
  rw [List.append_assoc, List.drop_append_of_le_length (by simp; omega)]
  rw [List.drop_of_length_le (by simp; omega)]
  simp

end Go.Proofs
end
section
namespace Go.Proofs
open Go Go.Sep

/-! ## an entry's bytes read back -/

theorem Sqe.b0_getD (e : Sqe) (j : Nat) (h : j < 32) : e.b0.getD j 0 = if j = 1 then UInt8.ofNat (e.flags % 256).toNat else if j = 0 then UInt8.ofNat (e.op % 256).toNat else 0 := by
  unfold Sqe.b0
  simp only [List.getD_eq_getElem?_getD]
  by_cases h1 : j = 1
  · subst h1; rw [List.getElem?_set_self (by simp)]; simp
  · rw [List.getElem?_set_ne (by omega), if_neg h1]
    by_cases h0 : j = 0
    · subst h0; rw [List.getElem?_set_self (by simp)]; simp
    · rw [List.getElem?_set_ne (by omega), if_neg h0, List.getElem?_replicate, if_pos h]
      rfl

theorem Sqe.bytes_eq (e : Sqe) : e.bytes = put32 (put32 (put32 (put32 (put32 (put32 e.b0 4 e.tag) 8 e.cap) 12 e.a) 16 e.b) 20 e.c) 24 e.time := by
  unfold Sqe.bytes Sqe.bt
  simp only [Sqe.ws, List.take_succ_cons, List.take_zero, List.foldl_cons, List.foldl_nil]

theorem Sqe.b0_len (e : Sqe) : e.b0.length = 32 := by simp [Sqe.b0]

theorem Sqe.bytes_getD (e : Sqe) (j : Nat) (h : j < 4) : e.bytes.getD j 0 = e.b0.getD j 0 := by
  have l := e.b0_len
  rw [Sqe.bytes_eq]
  rw [put32_getD_ne _ _ _ _ (by simp only [put32_len]; omega) (by omega), put32_getD_ne _ _ _ _ (by simp only [put32_len]; omega) (by omega), put32_getD_ne _ _ _ _ (by simp only [put32_len]; omega) (by omega),
    put32_getD_ne _ _ _ _ (by simp only [put32_len]; omega) (by omega), put32_getD_ne _ _ _ _ (by simp only [put32_len]; omega) (by omega), put32_getD_ne _ _ _ _ (by omega) (by omega)]

theorem Sqe.bytes_word (e : Sqe) : u32At e.bytes 4 = e.tag ∧ u32At e.bytes 8 = e.cap ∧ u32At e.bytes 12 = e.a ∧ u32At e.bytes 16 = e.b ∧ u32At e.bytes 20 = e.c ∧ u32At e.bytes 24 = e.time := by
  have l := e.b0_len
  rw [Sqe.bytes_eq]
  have ne : ∀ (l : List UInt8) (a b : Nat) (n : UInt32), l.length = 32 → b + 4 ≤ 32 → (a + 4 ≤ b ∨ b + 4 ≤ a) → u32At (put32 l a n) b = u32At l b := fun l a b n h h1 h2 => u32At_put32_ne l a b n (by omega) h2
  have eq : ∀ (l : List UInt8) (a : Nat) (n : UInt32), l.length = 32 → a + 4 ≤ 32 → u32At (put32 l a n) a = n := fun l a n h h1 => u32At_put32 l a n (by omega)
  refine ⟨?_, ?_, ?_, ?_, ?_, ?_⟩
  · rw [ne _ _ _ _ (by simp only [put32_len, l]) (by omega) (by omega), ne _ _ _ _ (by simp only [put32_len, l]) (by omega) (by omega), ne _ _ _ _ (by simp only [put32_len, l]) (by omega) (by omega),
      ne _ _ _ _ (by simp only [put32_len, l]) (by omega) (by omega), ne _ _ _ _ (by simp only [put32_len, l]) (by omega) (by omega), eq _ _ _ l (by omega)]
  · rw [ne _ _ _ _ (by simp only [put32_len, l]) (by omega) (by omega), ne _ _ _ _ (by simp only [put32_len, l]) (by omega) (by omega), ne _ _ _ _ (by simp only [put32_len, l]) (by omega) (by omega),
      ne _ _ _ _ (by simp only [put32_len, l]) (by omega) (by omega), eq _ _ _ (by simp only [put32_len, l]) (by omega)]
  · rw [ne _ _ _ _ (by simp only [put32_len, l]) (by omega) (by omega), ne _ _ _ _ (by simp only [put32_len, l]) (by omega) (by omega), ne _ _ _ _ (by simp only [put32_len, l]) (by omega) (by omega),
      eq _ _ _ (by simp only [put32_len, l]) (by omega)]
  · rw [ne _ _ _ _ (by simp only [put32_len, l]) (by omega) (by omega), ne _ _ _ _ (by simp only [put32_len, l]) (by omega) (by omega), eq _ _ _ (by simp only [put32_len, l]) (by omega)]
  · rw [ne _ _ _ _ (by simp only [put32_len, l]) (by omega) (by omega), eq _ _ _ (by simp only [put32_len, l]) (by omega)]
  · rw [eq _ _ _ (by simp only [put32_len, l]) (by omega)]

theorem Sqe.ok_range {e : Sqe} (h : e.ok = true) : 1 ≤ e.op ∧ e.op ≤ 20 ∧ 0 ≤ e.flags ∧ e.flags ≤ 15 := by
  unfold Sqe.ok at h
  rw [Bool.and_eq_true, Bool.and_eq_true, Bool.and_eq_true, Bool.and_eq_true] at h
  exact ⟨of_decide_eq_true h.1.1.1.1, of_decide_eq_true h.1.1.1.2, of_decide_eq_true h.1.1.2, of_decide_eq_true h.1.2⟩

theorem u8_back (z : Int) (h0 : 0 ≤ z) (h1 : z < 256) : ((UInt8.ofNat (z % 256).toNat).toNat : Int) = z := by
  rw [UInt8.toNat_ofNat']
  omega

theorem Sqe.parse_bytes (e : Sqe) (h : e.ok = true) : Sqe.parse e.bytes = e := by
  obtain ⟨h1, h2, h3, h4, h5, h6⟩ := e.bytes_word
  obtain ⟨o1, o2, f1, f2⟩ := Sqe.ok_range h
  have e0 : ((e.bytes.getD 0 0).toNat : Int) = e.op := by
    rw [e.bytes_getD 0 (by omega), e.b0_getD 0 (by omega), if_neg (by omega), if_pos rfl, u8_back _ (by omega) (by omega)]
  have e1 : ((e.bytes.getD 1 0).toNat : Int) = e.flags := by
    rw [e.bytes_getD 1 (by omega), e.b0_getD 1 (by omega), if_pos rfl, u8_back _ (by omega) (by omega)]
  generalize e.bytes = l at *
  have : Sqe.parse l = ⟨((l.getD 0 0).toNat : Int), ((l.getD 1 0).toNat : Int), u32At l 4, u32At l 8, u32At l 12, u32At l 16, u32At l 20, u32At l 24⟩ := rfl
  rw [this, e0, e1, h1, h2, h3, h4, h5, h6]

theorem isEntry_of {l : List UInt8} {e : Sqe} (h1 : Sqe.parse l = e) (h2 : e.ok = true) (h3 : e.bytes = l) : isEntry l = true := by
  have : isEntry l = ((Sqe.parse l).ok && decide ((Sqe.parse l).bytes = l)) := rfl
  rw [this, h1, h2, h3, decide_eq_true rfl]
  rfl

theorem isEntry_bytes (e : Sqe) (h : e.ok = true) : isEntry e.bytes = true := by
  have h1 := e.parse_bytes h
  generalize hl : e.bytes = l at h1 ⊢
  exact isEntry_of h1 h hl

theorem entry_of_bytes (e : Sqe) (l : List UInt8) (h : e.ok = true) (hl : l = e.bytes) : isEntry l = true ∧ Sqe.parse l = e := by
  have h1 := Sqe.parse_bytes e h
  rw [← hl] at h1
  exact And.intro (isEntry_of h1 h hl.symm) h1
end Go.Proofs
end
