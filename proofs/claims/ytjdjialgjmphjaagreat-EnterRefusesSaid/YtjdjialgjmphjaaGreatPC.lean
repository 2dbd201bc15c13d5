/- Part of the proof: P7 P8 P9. -/
import Derived.Test.YtjdjialgjmphjaaGreatPB
import Derived.Test.YtjdjialgjmphjaaGreatW30
set_option linter.all false
section
namespace Go.Proofs
open Go Go.Sep

/-! ## a fresh one -/

theorem fresh_wf : AS.fresh.WF := ⟨by simp [AS.fresh], fun l hl => by
  have := List.eq_of_mem_replicate hl
  rw [this, zeros, List.length_replicate]⟩

theorem fresh_at (u : Nat) (h1 : 1 ≤ u) (h2 : u ≤ 64) : AS.fresh.at_ u = zeros := by
  unfold AS.at_ AS.fresh
  rw [List.getElem?_replicate, if_pos (by omega)]
  rfl

theorem zeros_getD (i : Nat) : zeros.getD i 0 = 0 := by
  unfold zeros
  rw [List.getD_eq_getElem?_getD, List.getElem?_replicate]
  split <;> rfl

theorem u32_zero {l : List UInt8} {a : Nat} (h : ∀ i, i < 4 → l.getD (a + i) 0 = 0) : u32At l a = 0 := by
  unfold u32At
  simp only [leF]
  rw [h 0 (by omega), h 1 (by omega), h 2 (by omega), h 3 (by omega)]
  rfl

theorem zeros_word (a : Nat) : u32At zeros a = 0 := u32_zero (fun _ _ => zeros_getD _)

theorem fresh_word (u a : Nat) (h1 : 1 ≤ u) (h2 : u ≤ 64) : AS.fresh.word u a = 0 := by
  unfold AS.word
  rw [fresh_at u h1 h2, zeros_word]

theorem fresh_room (cb : Nat) : AS.fresh.room cb = some (2 ^ cb) := by
  apply AS.room_of
  unfold AS.used
  rw [fresh_word 6 0 (by omega) (by omega)]
  simp [AS.fresh]

/-- zeros are no entry -/
theorem not_entry {l : List UInt8} (h : l.getD 0 0 = 0) : isEntry l = false := by
  have h1 : (Sqe.parse l).ok = false := by
    cases hh : (Sqe.parse l).ok with
    | false => rfl
    | true =>
      have := Sqe.ok_range hh
      have e : (Sqe.parse l).op = ((l.getD 0 0).toNat : Int) := rfl
      rw [e, h] at this
      simp at this
  have : isEntry l = ((Sqe.parse l).ok && decide ((Sqe.parse l).bytes = l)) := rfl
  rw [this, h1]
  rfl

/-- the example's state: a tail of one, nothing laid -/
def AS.one : AS := AS.fresh.wr 5 4 [1]

theorem one_in : EIn 2 2 3 AS.one 1 4 := by
  have hw : AS.one.WF := AS.wr_wf fresh_wf 5 4 [1]
  have h5 : AS.one.at_ 5 = laidIn zeros 4 [1] := by
    unfold AS.one
    rw [AS.wr_at _ fresh_wf 5 4 [1] 5 (by omega) (by omega) (by omega), if_pos rfl, fresh_at 5 (by omega) (by omega)]
  have hl : (4 : Nat) + [(1 : UInt8)].length ≤ zeros.length := by rw [zeros, List.length_replicate]; decide
  have h54 : AS.one.word 5 4 = 1 := by
    unfold AS.word
    rw [h5]
    have e : ∀ i, i < 4 → (laidIn zeros 4 [1]).getD (4 + i) 0 = if i = 0 then 1 else 0 := by
      intro i hi
      rw [laidIn_getD zeros [1] 4 (4 + i) hl]
      by_cases h : i = 0
      · subst h; simp
      · rw [if_neg (by simp; omega), if_neg h, zeros_getD]
    unfold u32At
    simp only [leF]
    rw [e 0 (by omega), e 1 (by omega), e 2 (by omega), e 3 (by omega)]
    rfl
  refine ⟨hw, rfl, rfl, ?_, by omega, ?_, by omega, by show 0 ≤ 800000; omega, by show ([] : List Deed).length ≤ 700; simp, ?_⟩
  · unfold AS.waiting AS.dist
    rw [h54]
    rfl
  · apply AS.room_of
    unfold AS.used
    have : AS.one.word 6 0 = 0 := by
      unfold AS.one
      rw [word_wr_ne _ fresh_wf 5 4 [1] 6 0 (by omega) (by omega) (by omega) (.inl (by omega)), fresh_word 6 0 (by omega) (by omega)]
    rw [this]
    rfl
  · intro i hi he
    exfalso
    have hi0 : i = 0 := by omega
    subst hi0
    have : isEntry (AS.one.raw 2 0) = false := by
      apply not_entry
      unfold AS.raw
      rw [h5, slice_laidIn_ne _ _ _ _ _ (.inr (by simp; omega))]
      have hhd : AS.one.hd = 0 := rfl
      rw [hhd]
      rw [List.getD_eq_getElem?_getD, List.getElem?_take_of_lt (by omega), List.getElem?_drop, ← List.getD_eq_getElem?_getD, zeros_getD]
    rw [this] at he
    exact absurd he (by simp)
end Go.Proofs
end
section
namespace Go.Proofs
open Go Go.Sep

def AS.lay1 (a : AS) (es : List Sqe) (i : Nat) : AS := a.wr 5 (16 + 32 * i) ((es[i]?).getD Sqe.zero).bytes
def AS.lay (a : AS) (es : List Sqe) (n : Nat) : AS := (List.range n).foldl (fun a i => a.lay1 es i) a
def AS.laid (es : List Sqe) : AS := (AS.fresh.lay es es.length).wr 5 4 (le4 (UInt32.ofNat es.length))

theorem lay_succ (a : AS) (es : List Sqe) (n : Nat) : a.lay es (n + 1) = (a.lay es n).lay1 es n := by
  simp [AS.lay, List.range_succ, List.foldl_append]

/-- what laying leaves: the entries, nothing else -/
structure Lay (a : AS) (es : List Sqe) (n : Nat) : Prop where
  wf : a.WF
  hd : a.hd = 0
  tl : a.tl = 0
  over : a.over = []
  L : a.L = []
  J : a.J = []
  taken : a.taken = 0
  head : a.word 6 0 = 0
  raw : ∀ i, i < n → ∀ e, es[i]? = some e → a.raw 3 i = e.bytes

theorem raw_off (a : AS) (i : Nat) (hhd : a.hd = 0) (hi : i < 8) : a.raw 3 i = ((a.at_ 5).drop (16 + 32 * i)).take 32 := by
  unfold AS.raw
  rw [hhd]
  have : ((0 : UInt32) + UInt32.ofNat i).toNat % 2 ^ 3 = i := by
    have : ((0 : UInt32) + UInt32.ofNat i).toNat = i := by
      simp
      omega
    rw [this]
    omega
  rw [this, Nat.mul_comm i 32]

theorem lay_ok (es : List Sqe) : ∀ n, n ≤ 8 → Lay (AS.fresh.lay es n) es n
  | 0, _ => ⟨fresh_wf, rfl, rfl, rfl, rfl, rfl, rfl, fresh_word 6 0 (by omega) (by omega), fun i hi => by omega⟩
  | n + 1, hn => by
    have ih := lay_ok es n (by omega)
    rw [lay_succ]
    generalize AS.fresh.lay es n = a at ih
    have hbl : (((es[n]?).getD Sqe.zero).bytes).length = 32 := Sqe.bytes_len _
    have hwf := AS.wr_wf ih.wf 5 (16 + 32 * n) ((es[n]?).getD Sqe.zero).bytes
    refine ⟨hwf, ih.hd, ih.tl, ih.over, ih.L, ih.J, ih.taken, ?_, ?_⟩
    · rw [← ih.head]
      exact word_wr_ne a ih.wf 5 _ _ 6 0 (by omega) (by omega) (by omega) (.inl (by omega))
    · intro i hi e he
      have h5 : (a.lay1 es n).at_ 5 = laidIn (a.at_ 5) (16 + 32 * n) ((es[n]?).getD Sqe.zero).bytes := by
        unfold AS.lay1
        rw [AS.wr_at a ih.wf 5 _ _ 5 (by omega) (by omega) (by omega), if_pos rfl]
      have h512 := ih.wf.at_len 5 (by omega) (by omega)
      rw [raw_off (a.lay1 es n) i (show _ from ih.hd) (by omega), h5]
      by_cases hin : i = n
      · subst hin
        rw [he, Option.getD_some]
        have := slice_laidIn (a.at_ 5) e.bytes (16 + 32 * i) (by rw [Sqe.bytes_len, h512]; omega)
        rw [Sqe.bytes_len] at this
        exact this
      · rw [slice_laidIn_ne _ _ _ _ _ (by rw [hbl]; omega), ← raw_off a i ih.hd (by omega)]
        exact ih.raw i (by omega) e he

/-- a ring that has these -/
structure Rdy (a : AS) (es : List Sqe) (cb : Nat) : Prop where
  wf : a.WF
  over : a.over = []
  L : a.L = []
  hd0 : a.hd = 0
  J0 : a.J = []
  tk0 : a.taken = 0
  tl0 : a.tl = 0
  wait : a.waiting 3 = some es.length
  room : a.room cb = some (2 ^ cb)
  raw : ∀ i, i < es.length → ∀ e, es[i]? = some e → a.raw 3 i = e.bytes

theorem laid_rdy (es : List Sqe) (cb : Nat) (hn : es.length ≤ 8) : Rdy (AS.laid es) es cb := by
  have h := lay_ok es es.length hn
  unfold AS.laid
  generalize AS.fresh.lay es es.length = a at h
  have hwf := AS.wr_wf h.wf 5 4 (le4 (UInt32.ofNat es.length))
  have h5 : (a.wr 5 4 (le4 (UInt32.ofNat es.length))).at_ 5 = laidIn (a.at_ 5) 4 (le4 (UInt32.ofNat es.length)) := by
    rw [AS.wr_at a h.wf 5 _ _ 5 (by omega) (by omega) (by omega), if_pos rfl]
  have h512 := h.wf.at_len 5 (by omega) (by omega)
  have h54 : (a.wr 5 4 (le4 (UInt32.ofNat es.length))).word 5 4 = UInt32.ofNat es.length := by
    unfold AS.word
    rw [h5]
    have := u32At_laidIn (a.at_ 5) (le4 (UInt32.ofNat es.length)) 4 0 (by rw [le4_len, h512]; omega) (by rw [le4_len]; omega)
    rw [u32At_le4] at this
    exact this
  refine ⟨hwf, h.over, h.L, h.hd, h.J, h.taken, h.tl, ?_, ?_, ?_⟩
  · unfold AS.waiting AS.dist
    rw [h54]
    have hhd : (a.wr 5 4 (le4 (UInt32.ofNat es.length))).hd = 0 := h.hd
    rw [hhd]
    have : (UInt32.ofNat es.length - 0).toNat = es.length := by simp; omega
    rw [this, if_pos (by omega)]
  · apply AS.room_of
    unfold AS.used
    rw [word_wr_ne a h.wf 5 4 _ 6 0 (by omega) (by omega) (by omega) (.inl (by omega)), h.head]
    have htl : (a.wr 5 4 (le4 (UInt32.ofNat es.length))).tl = 0 := h.tl
    rw [htl]
    simp
  · intro i hi e he
    have hhd : (a.wr 5 4 (le4 (UInt32.ofNat es.length))).hd = 0 := h.hd
    rw [raw_off _ i hhd (by omega), h5, slice_laidIn_ne _ _ _ _ _ (.inr (by rw [le4_len]; omega)), ← raw_off a i h.hd (by omega)]
    exact h.raw i hi e he
end Go.Proofs
end
section
namespace Go.Proofs
open Go Go.Sep

theorem entOf_bytes (e : Sqe) (l : List UInt8) (h : e.ok = true) (hl : l = e.bytes) : isEntry l = true ∧ entOf l = e ∧ Sqe.parse l = e := by
  obtain ⟨h1, h2⟩ := entry_of_bytes e l h hl
  refine ⟨h1, ?_, h2⟩
  unfold entOf
  rw [if_pos h1, h2]

/-- one that does nothing -/
def nopE (i : Nat) : Sqe := ⟨1, 0, UInt32.ofNat i, 0, 0, 0, 0, 0⟩
theorem and0 (q : Int) (h : BitVec.ofInt 64 0 &&& BitVec.ofInt 64 q = BitVec.ofNat 64 0) : bitsOf .and .i64 0 q = 0 := by
  have : bitsOf .and .i64 0 q = IntKind.i64.wrap (((BitVec.ofInt 64 0 &&& BitVec.ofInt 64 q).toNat : Nat) : Int) := rfl
  rw [this, h]
  rfl
theorem nop_ok (i : Nat) : (nopE i).ok = true := by
  unfold Sqe.ok
  rw [show (nopE i).flags = 0 from rfl, show (nopE i).op = 1 from rfl, and0 3 (by decide)]
  rfl
theorem nop_drain (i : Nat) : noDrain (nopE i).flags = true := by
  unfold noDrain
  rw [show (nopE i).flags = 0 from rfl, and0 4 (by decide)]
  rfl
theorem nop_dead (i : Nat) : (nopE i).noDead = true := by
  unfold Sqe.noDead
  rw [show (nopE i).flags = 0 from rfl, and0 8 (by decide)]
  rfl

/-- so many of n were taken, all ended -/
structure Bud (a : AS) (n t : Nat) : Prop where
  wf : a.WF
  over : a.over = []
  L : a.L = []
  hd : a.hd = UInt32.ofNat t
  taken : a.taken = t
  jl : a.J.length = t
  wait : a.waiting 3 = some (n - t)
  room : a.room 4 = some (16 - t)
  raw : ∀ i, i < n - t → a.raw 3 i = (nopE (t + i)).bytes
  tn : t ≤ n
  n8 : n ≤ 8

theorem bud_start (n : Nat) (hn : n ≤ 8) : Bud (AS.laid ((List.range n).map nopE)) n 0 := by
  have h := laid_rdy ((List.range n).map nopE) 4 (by simpa using hn)
  refine ⟨h.wf, h.over, h.L, h.hd0, h.tk0, by rw [h.J0]; rfl, by rw [h.wait]; simp, h.room, ?_, by omega, hn⟩
  intro i hi
  refine h.raw i (by simpa using hi) _ ?_
  rw [List.getElem?_map, List.getElem?_range (by omega)]
  simp

theorem Bud.in' {a : AS} {n t : Nat} (h : Bud a n t) (b : Int) : EIn 3 4 b a (n - t) (16 - t) := by
  have := h.tn
  have := h.n8
  refine ⟨h.wf, h.over, h.L, h.wait, by omega, h.room, by omega, by rw [h.taken]; omega, by rw [h.jl]; omega, ?_⟩
  intro i hi _
  obtain ⟨h1, h2, h3⟩ := entOf_bytes (nopE (t + i)) _ (nop_ok _) (h.raw i hi)
  rw [h2, h3]
  exact ⟨nop_drain _, nop_dead _, .inl rfl⟩

theorem Bud.next {a a' : AS} {n t m : Nat} {ds : List Deed} (h : Bud a n t) (hm : m ≤ n - t) (hl : ds.length = m) (o : EOut 3 4 a m (16 - t) ds a') : Bud a' n (t + m) := by
  have := h.tn
  have := h.n8
  refine ⟨o.wf, ?_, o.L, ?_, by rw [o.taken, h.taken], by rw [o.J, List.length_append, h.jl, hl], ?_, ?_, ?_, by omega, h.n8⟩
  · have := o.over
    rw [hl] at this
    exact List.length_eq_zero_iff.1 (by omega)
  · rw [o.hd, h.hd]
    apply UInt32.toNat_inj.1
    simp
  · rw [wait_after (by omega) o.hd o.at5 h.wait hm]
    congr 1
    omega
  · rw [o.room, hl]
    congr 1
    omega
  · intro i hi
    rw [raw_after (by omega) h.wf o.hd o.at5, h.raw (m + i) (by omega)]
    congr 2
    omega
end Go.Proofs
end
