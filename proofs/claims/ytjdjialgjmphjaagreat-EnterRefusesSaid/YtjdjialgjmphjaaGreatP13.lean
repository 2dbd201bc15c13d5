/- Part of the proof: P13. -/
import Derived.Test.YtjdjialgjmphjaaGreatP12
set_option linter.all false
namespace Go.Proofs
open Go Go.Sep

/-! ## EnterRefuses, plainly -/

/-- a ring of four places; its words are whatever they are -/
structure Rf (a : AS) (n : Nat) (tail head : UInt32) : Prop where
  wf : a.WF
  over : a.over = []
  L : a.L = []
  J : a.J = []
  hd : a.hd = 0
  tl : a.tl = 0
  taken : a.taken = 0
  w5 : a.word 5 4 = tail
  w6 : a.word 6 0 = head
  raw : ∀ i, i < n → ((a.at_ 5).drop (16 + 32 * i)).take 32 = (nopE 3).bytes

theorem Rf.zero : Rf AS.fresh 0 0 0 :=
  ⟨fresh_wf, rfl, rfl, rfl, rfl, rfl, rfl, fresh_word 5 4 (by omega) (by omega), fresh_word 6 0 (by omega) (by omega), fun i h => by omega⟩

section
variable {a : AS} {n : Nat} {t h : UInt32}

theorem Rf.step (r : Rf a n t h) (hn : n < 4) : Rf (a.wr 5 (16 + 32 * n) (nopE 3).bytes) (n + 1) t h := by
  have hb : (nopE 3).bytes.length = 32 := Sqe.bytes_len _
  have h512 := r.wf.at_len 5 (by omega) (by omega)
  refine ⟨AS.wr_wf r.wf _ _ _, r.over, r.L, r.J, r.hd, r.tl, r.taken, ?_, ?_, ?_⟩
  · rw [word_wr_ne a r.wf 5 _ _ 5 4 (by omega) (by omega) (by omega) (.inr (.inl (by omega)))]; exact r.w5
  · rw [word_wr_ne a r.wf 5 _ _ 6 0 (by omega) (by omega) (by omega) (.inl (by omega))]; exact r.w6
  · intro i hi
    rw [AS.wr_at a r.wf 5 _ _ 5 (by omega) (by omega) (by omega), if_pos rfl]
    by_cases e : i = n
    · subst e
      have := slice_laidIn (a.at_ 5) (nopE 3).bytes (16 + 32 * i) (by rw [hb, h512]; omega)
      rw [hb] at this
      exact this
    · rw [slice_laidIn_ne _ _ _ _ _ (by rw [hb]; omega)]
      exact r.raw i (by omega)

theorem Rf.tail (r : Rf a n t h) (t' : UInt32) : Rf (a.wr 5 4 (le4 t')) n t' h := by
  have h512 := r.wf.at_len 5 (by omega) (by omega)
  refine ⟨AS.wr_wf r.wf _ _ _, r.over, r.L, r.J, r.hd, r.tl, r.taken, ?_, ?_, ?_⟩
  · unfold AS.word
    rw [AS.wr_at a r.wf 5 _ _ 5 (by omega) (by omega) (by omega), if_pos rfl]
    have := u32At_laidIn (a.at_ 5) (le4 t') 4 0 (by rw [le4_len, h512]; omega) (by rw [le4_len]; omega)
    rw [u32At_le4] at this
    exact this
  · rw [word_wr_ne a r.wf 5 _ _ 6 0 (by omega) (by omega) (by omega) (.inl (by omega))]; exact r.w6
  · intro i hi
    rw [AS.wr_at a r.wf 5 _ _ 5 (by omega) (by omega) (by omega), if_pos rfl, slice_laidIn_ne _ _ _ _ _ (.inr (by rw [le4_len]; omega))]
    exact r.raw i hi

theorem Rf.head (r : Rf a n t h) (h' : UInt32) : Rf (a.wr 6 0 (le4 h')) n t h' := by
  have h512 := r.wf.at_len 6 (by omega) (by omega)
  refine ⟨AS.wr_wf r.wf _ _ _, r.over, r.L, r.J, r.hd, r.tl, r.taken, ?_, ?_, ?_⟩
  · rw [word_wr_ne a r.wf 6 _ _ 5 4 (by omega) (by omega) (by omega) (.inl (by omega))]; exact r.w5
  · unfold AS.word
    rw [AS.wr_at a r.wf 6 _ _ 6 (by omega) (by omega) (by omega), if_pos rfl]
    have := u32At_laidIn (a.at_ 6) (le4 h') 0 0 (by rw [le4_len, h512]; omega) (by rw [le4_len]; omega)
    rw [u32At_le4] at this
    exact this
  · intro i hi
    rw [AS.wr_at a r.wf 6 _ _ 5 (by omega) (by omega) (by omega), if_neg (by omega)]
    exact r.raw i hi

theorem Rf.waiting (r : Rf a n t h) : a.waiting 2 = if t.toNat ≤ 4 then some t.toNat else none := by
  unfold AS.waiting AS.dist
  rw [r.w5, r.hd]
  simp

theorem Rf.room (r : Rf a n t h) : a.room 3 = if (0 - h).toNat ≤ 8 then some (8 - (0 - h).toNat) else none := by
  unfold AS.room AS.used
  rw [r.w6, r.tl]

theorem Rf.raw2 (r : Rf a 4 t h) (i : Nat) (hi : i < 4) : a.raw 2 i = (nopE 3).bytes := by
  unfold AS.raw
  rw [r.hd]
  have : ((0 : UInt32) + UInt32.ofNat i).toNat % 2 ^ 2 * 32 = 32 * i := by
    simp; omega
  rw [this]
  exact r.raw i hi

theorem Rf.in' (r : Rf a 4 t h) (ht : t.toNat ≤ 4) (hh : (0 - h).toNat ≤ 8) (b : Int) : EIn 2 3 b a t.toNat (8 - (0 - h).toNat) := by
  refine ⟨r.wf, r.over, r.L, by rw [r.waiting, if_pos ht], by omega, by rw [r.room, if_pos hh], by omega, by rw [r.taken]; omega, by rw [r.J]; simp, ?_⟩
  intro i hi _
  obtain ⟨h1, h2, h3⟩ := entOf_bytes (nopE 3) _ (nop_ok _) (r.raw2 i (by omega))
  rw [h2, h3]
  exact ⟨nop_drain _, nop_dead _, .inl rfl⟩

/-- what the law looks at, of what is told -/
structure RfOut (m r : Nat) (a' : AS) : Prop where
  taken : a'.taken = m
  jl : a'.J.length = m
  tl : a'.tl = UInt32.ofNat (min r m)
  over : a'.over.length = m - r

theorem Rf.out {a' : AS} {m q : Nat} {ds : List Deed} (r : Rf a 4 t h) (hl : ds.length = m) (o : EOut 2 3 a m q ds a') : RfOut m q a' :=
  ⟨by rw [o.taken, r.taken]; omega, by rw [o.J, r.J, List.nil_append, hl], by rw [o.tl, r.tl, hl]; simp, by rw [o.over, hl]⟩

theorem Rf.enterNo (r : Rf a n t h) (hno : ¬ (t.toNat ≤ 4 ∧ (0 - h).toNat ≤ 8)) (b : Int) : a.enter 2 3 b = (a, -14) := by
  unfold AS.enter
  rw [r.waiting, r.room]
  by_cases h1 : t.toNat ≤ 4
  · rw [if_pos h1, if_neg (fun e => hno ⟨h1, e⟩)]; rfl
  · rw [if_neg h1]; rfl
end
end Go.Proofs
