/- Part of the proof: W2. -/
import Derived.Test.YtjdjialgjmphjaaGreatW1
set_option linter.all false
set_option maxRecDepth 100000
set_option maxHeartbeats 8000000
namespace Go.Proofs
open Go Go.Sep
attribute [local irreducible] WS WL WH WHT OpV OpR

abbrev sl (b o n c : Nat) : Value := .slice (some ⟨b, o, none⟩) n c
def at0 {α : Type} {enc : α → List Value} {sz : Nat} (r : Nat) : SL enc sz := ⟨[], some r, 0, [], fun h => by simp at h, fun _ => by simp⟩

/-- cells that hold elements from a place on -/
theorem getN_of_drop {o n : Nat} {l vs : List Value} (h : o + n ≤ l.length) (hv : (l.drop o).take n = vs) : getN o n l = some vs := by
  induction o generalizing l with
  | zero =>
    simp at hv h
    have := getN_append_left (l.take n) (l.drop n) n (by simp; omega)
    rw [List.take_append_drop] at this
    rw [this, hv]
  | succ o ih =>
    cases l with
    | nil => simp at h
    | cons u l =>
      simp only [getN]
      exact ih (by simp at h; omega) (by simpa using hv)

theorem bytes_of_drop {cells : List Value} {o : Nat} {l : List UInt8} (h : o + l.length ≤ cells.length) (hv : (cells.drop o).take l.length = flat encY l) : Bytes cells o l := by
  intro i hi
  have h1 : ((cells.drop o).take l.length)[i]? = (flat encY l)[i]? := by rw [hv]
  rw [List.getElem?_take_of_lt hi, List.getElem?_drop] at h1
  rw [h1, flat_encY]
  simp [hi]

theorem Bytes.row (l : List UInt8) (junk : List Value) : Bytes (flat encY l ++ junk) 0 l := by
  refine bytes_of_drop (by simp [flat_length]) ?_
  simp only [List.drop_zero]
  rw [List.take_append_of_le_length (by simp [flat_length])]
  rw [List.take_of_length_le (by simp [flat_length])]

theorem Bytes.getN {cells : List Value} {o : Nat} {l : List UInt8} (h : Bytes cells o l) (hl : o + l.length ≤ cells.length) : Sep.getN o l.length cells = some (flat encY l) := by
  refine getN_of_drop hl ?_
  apply List.ext_getElem?
  intro i
  by_cases hi : i < l.length
  · rw [List.getElem?_take_of_lt hi, List.getElem?_drop, h i hi, flat_encY]
    simp [hi]
  · rw [List.getElem?_eq_none (by simp; omega), List.getElem?_eq_none (by rw [flat_length]; omega)]

theorem clone_bytes (b o c E0 : Nat) (cells : List Value) (l : List UInt8) (hs : Bytes cells o l) (hl : o + l.length ≤ cells.length) (hb : l.length ≤ 1000000) :
    Spec Tryz.prog 197 [sl b o l.length c] [blk b E0 cells] (fun v A => ∃ s : SL encY 1, s.xs = l ∧ v = s.val ∧ A = [s.ch 5, blk b E0 cells]) := by
  refine Spec.of Tryz.func197 rfl Tryz.call197 rfl (fun R => ?_)
  refine WS.seq ?_
  refine WS.region ?_
  refine WL.v (V.assign rfl) rfl ?_
  refine WL.done ?_
  refine WS.seq ?_
  refine WS.seq ?_
  refine WS.region ?_
  refine WL.v (V.move rfl) rfl ?_
  refine WL.v (V.eqNilS rfl rfl) rfl ?_
  refine WL.done ?_
  refine WS.condF rfl ?_
  refine WS.skip ?_
  refine WS.seq ?_
  refine WS.region ?_
  refine WL.slice0 rfl ?_
  intro r
  refine WL.v (V.move rfl) rfl ?_
  refine WL.append (enc := encY) l 0 (at0 r) rfl rfl rfl rfl (.inr ⟨b, o, c, 1, E0, cells, rfl, rfl, by simpa using hs.getN hl⟩) (by simp only [at0, List.length_nil]; omega) rfl ?_
  intro s' hs'
  refine WL.v (V.assign rfl) rfl ?_
  refine WL.done ?_
  refine WS.ret rfl ?_
  exact ⟨s', by simpa [at0] using hs', rfl, rfl⟩

theorem clone_bytes_nil :
    Spec Tryz.prog 197 [.slice none 0 0] [] (fun v A => v = .slice none 0 0 ∧ A = []) := by
  refine Spec.of Tryz.func197 rfl Tryz.call197 rfl (fun R => ?_)
  refine WS.seq ?_
  refine WS.region ?_
  refine WL.v (V.assign rfl) rfl ?_
  refine WL.done ?_
  refine WS.seq ?_
  refine WS.seq ?_
  refine WS.region ?_
  refine WL.v (V.move rfl) rfl ?_
  refine WL.v (V.eqNilS rfl rfl) rfl ?_
  refine WL.done ?_
  refine WS.condT rfl ?_
  refine WS.seq ?_
  refine WS.region ?_
  refine WL.v (V.assign rfl) rfl ?_
  refine WL.done ?_
  refine WS.ret rfl ?_
  exact ⟨rfl, rfl⟩

/-- a number's bytes, the least first -/
def byteOf (n : UInt32) (i : Nat) : UInt8 := (n >>> (UInt32.ofNat (8 * i))).toUInt8
def putF (n : UInt32) (at_ : Nat) : Nat → List UInt8 → List UInt8
  | 0, l => l
  | i + 1, l => (putF n at_ i l).set (at_ + i) (byteOf n i)
def put32 (l : List UInt8) (at_ : Nat) (n : UInt32) : List UInt8 := putF n at_ 4 l

theorem putF_len (n : UInt32) (at_ : Nat) : ∀ (i : Nat) (l : List UInt8), (putF n at_ i l).length = l.length
  | 0, _ => rfl
  | i + 1, l => by simp [putF, putF_len n at_ i l]

theorem shr_U (x : UInt32) (i : Nat) (h : i < 4) : IntKind.u8.wrap ((x.toNat : Int).fdiv (2 ^ (min ((8 : Int) * (i : Int)).toNat IntKind.u32.bits))) = ((byteOf x i).toNat : Int) := by
  have hx := x.toNat_lt
  simp only [wrap_u8, IntKind.bits, byteOf]
  have : i = 0 ∨ i = 1 ∨ i = 2 ∨ i = 3 := by omega
  rcases this with rfl | rfl | rfl | rfl <;> simp [UInt32.toNat_shiftRight, Nat.shiftRight_eq_div_pow, Int.fdiv_eq_ediv_of_nonneg] <;> omega

theorem setN_one : ∀ (l : List Value) (i : Nat) (v : Value), i < l.length → setN i [v] l = some (l.set i v)
  | [], _, _, h => by simp at h
  | u :: l, 0, v, h => by simp [setN]
  | u :: l, i + 1, v, h => by simp only [setN, setN_one l i v (by simpa using h)]; simp

theorem word_put (b o c E0 : Nat) (cells : List Value) (l : List UInt8) (at_ : Nat) (n : UInt32) (hat : at_ + 4 ≤ l.length) (hs : Bytes cells o l) (hl : o + l.length ≤ cells.length) (hb : l.length ≤ 1000000) :
    Spec Tryz.prog 474 [sl b o l.length c, I at_, I 4, U n] [blk b E0 cells] (fun v A => ∃ s : SL encY 1, s.xs = put32 l at_ n ∧ v = s.val ∧ A = [s.ch 5, blk b E0 cells]) := by
  refine Spec.of Tryz.func474 rfl Tryz.call474 rfl (fun R => ?_)
  refine WS.seq ?_
  refine WS.region ?_
  refine WL.v (V.assign rfl) rfl ?_
  refine WL.done ?_
  refine WS.seq ?_
  refine WS.region ?_
  refine WL.v (V.move rfl) rfl ?_
  refine WL.call (clone_bytes b o c E0 cells l hs hl hb) [0] rfl rfl rfl ?_
  rintro _ _ ⟨s, hsx, rfl, rfl⟩
  obtain ⟨xs, sb, cap, junk, hnil, hfit⟩ := s
  simp only at hsx
  subst hsx
  cases sb with
  | none => have := hnil rfl; subst this; simp at hat
  | some sb =>
    refine WL.v (V.assign rfl) rfl ?_
    refine WL.done ?_
    refine WS.seq ?_
    refine WS.seq ?_
    refine WS.region ?_
    refine WL.v (V.move rfl) rfl ?_
    refine WL.v (V.move rfl) rfl ?_
    refine WL.done ?_
    refine WS.block ?_
    refine WS.keep [14, 13, 0, 1, 3, 9] rfl ?_
    refine WS.loop (ι := {i : Nat // i ≤ 4}) (fun i => [(14, I i.1), (13, I 4), (0, sl b o xs.length c), (1, I at_), (3, U n), (9, sl sb 0 xs.length cap)])
      (fun i => [blk sb 5 (flat encY (putF n at_ i.1 xs) ++ junk), blk b E0 cells]) (fun i => 4 - i.1) ⟨0, by omega⟩ ?_
    rintro ⟨i, hi⟩ X ih
    simp only at ih ⊢
    refine WS.seq ?_
    refine WS.region ?_
    refine WL.v (V.lt rfl rfl) rfl ?_
    refine WL.done ?_
    refine WS.seq ?_
    (refine WS.condD rfl ?_ ?_) <;> intro h_ <;> try (exfalso; omega)
    refine WS.skip ?_
    refine WS.seq ?_
    refine WS.block ?_
    refine WS.seq ?_
    refine WS.region ?_
    refine WL.v (V.move rfl) rfl ?_
    refine WL.v (V.assign rfl) rfl ?_
    refine WL.done ?_
    refine WS.seq ?_
    refine WS.region ?_
    refine WL.v (V.move rfl) rfl ?_
    refine WL.v (V.move rfl) rfl ?_
    refine WL.v (V.neg rfl (fits_i64 (by omega) (by omega))) rfl ?_
    refine WL.v (V.ge rfl rfl) rfl ?_
    refine WL.v (V.move rfl) rfl ?_
    (refine WL.gcaseD rfl rfl ?_ ?_) <;> intro h_ <;> try (exfalso; omega)
    refine WL.gy rfl rfl ?_
    refine WL.v (V.move rfl) rfl ?_
    refine WL.gy rfl rfl ?_
    refine WL.v (V.move rfl) rfl ?_
    refine WL.gy rfl rfl ?_
    refine WL.v (V.lenS rfl) rfl ?_
    refine WL.gy rfl rfl ?_
    refine WL.v (V.move rfl) rfl ?_
    refine WL.gy rfl rfl ?_
    refine WL.v (V.sub rfl rfl (fits_i64 (by omega) (by omega))) rfl ?_
    refine WL.gy rfl rfl ?_
    refine WL.v (V.lt rfl rfl) rfl ?_
    refine WL.v (V.pickT rfl rfl) rfl ?_
    refine WL.done ?_
    (refine WS.condD rfl ?_ ?_) <;> intro h_ <;> try (exfalso; omega)
    refine WS.region ?_
    refine WL.v (V.move rfl) rfl ?_
    refine WL.v (V.move rfl) rfl ?_
    refine WL.v (V.move rfl) rfl ?_
    refine WL.v (V.add rfl rfl (fits_i64 (by omega) (by omega))) rfl ?_
    refine WL.v (V.move rfl) rfl ?_
    refine WL.v (V.move rfl) rfl ?_
    refine WL.v (V.mul rfl rfl (fits_i64 (by omega) (by omega))) rfl ?_
    refine WL.v (V.shr rfl rfl (by omega)) rfl ?_
    refine WL.v (V.conv rfl) rfl ?_
    refine WL.v (V.indexAddr rfl rfl (by constructor <;> omega)) rfl ?_
    rotate_left
    refine WS.exit rfl ?_
    refine WS.seq ?_
    refine WS.region ?_
    refine WL.v (V.move rfl) rfl ?_
    refine WL.v (V.assign rfl) rfl ?_
    refine WL.done ?_
    rotate_left
    · have hi4 : i < 4 := by omega
      have hset : setN (0 + ((at_ : Int) + (i : Int)).toNat * 1) [Y (byteOf n i)] (flat encY (putF n at_ i xs) ++ junk) = some (flat encY (putF n at_ (i + 1) xs) ++ junk) := by
        rw [show 0 + ((at_ : Int) + (i : Int)).toNat * 1 = at_ + i from by omega]
        rw [setN_one _ _ _ (by simp [flat_length, putF_len]; omega)]
        rw [List.set_append_left _ _ (by simp [flat_length, putF_len]; omega)]
        simp only [putF, flat_encY, List.map_set]
      rw [shr_U _ _ hi4]
      refine WL.store 0 rfl rfl rfl rfl rfl hset ?_
      refine WL.done ?_
      refine WS.blk ?_
      refine WS.region ?_
      refine WL.v (V.add rfl rfl (fits_i64 (by omega) (by omega))) rfl ?_
      refine WL.v (V.move rfl) rfl ?_
      refine WL.done ?_
      refine WS.keep [14, 13, 0, 1, 3, 9] rfl ?_
      exact ih ⟨i + 1, by omega⟩ (by simp only; omega)
    · have : i = 4 := by omega
      subst this
      refine WS.ret rfl ?_
      exact ⟨⟨putF n at_ 4 xs, some sb, cap, junk, by simp, fun _ => by rw [putF_len]; exact hfit (by simp)⟩, rfl, by simp [SL.val, putF_len, retV], rfl⟩

theorem word_Put32 (b o c E0 : Nat) (cells : List Value) (l : List UInt8) (at_ : Nat) (n : UInt32) (hat : at_ + 4 ≤ l.length) (hs : Bytes cells o l) (hl : o + l.length ≤ cells.length) (hb : l.length ≤ 1000000) :
    Spec Tryz.prog 374 [sl b o l.length c, I at_, U n] [blk b E0 cells] (fun v A => ∃ s : SL encY 1, s.xs = put32 l at_ n ∧ v = s.val ∧ A = [s.ch 5, blk b E0 cells]) := by
  refine Spec.of Tryz.func374 rfl Tryz.call374 rfl (fun R => ?_)
  refine WS.seq ?_
  refine WS.region ?_
  refine WL.v (V.assign rfl) rfl ?_
  refine WL.done ?_
  refine WS.seq ?_
  refine WS.region ?_
  refine WL.v (V.move rfl) rfl ?_
  refine WL.v (V.move rfl) rfl ?_
  refine WL.v (V.move rfl) rfl ?_
  refine WL.call (word_put b o c E0 cells l at_ n hat hs hl hb) [0] rfl rfl rfl ?_
  rintro _ _ ⟨s, hsx, rfl, rfl⟩
  refine WL.v (V.assign rfl) rfl ?_
  refine WL.done ?_
  refine WS.ret rfl ?_
  exact ⟨s, hsx, rfl, rfl⟩

/-! fields of words -/

theorem word_Dist (a b : UInt32) : Spec Tryz.prog 194 [U a, U b] [] (fun v A => v = U (a - b) ∧ A = []) := by
  refine Spec.of Tryz.func194 rfl Tryz.call194 rfl (fun R => ?_)
  refine WS.seq ?_
  refine WS.region ?_
  refine WL.v (V.assign rfl) rfl ?_
  refine WL.done ?_
  refine WS.seq ?_
  refine WS.region ?_
  refine WL.v (V.move rfl) rfl ?_
  refine WL.v (V.move rfl) rfl ?_
  refine WL.v (V.subw rfl rfl) rfl ?_
  refine WL.v (V.assign rfl) rfl ?_
  refine WL.done ?_
  refine WS.ret rfl ?_
  refine ⟨?_, rfl⟩
  have ha := a.toNat_lt
  have hb := b.toNat_lt
  simp only [retV, wrap_u32, U, UInt32.toNat_sub]
  congr 1
  omega

theorem mask_U (k : Nat) (h : k ≤ 8) : IntKind.u32.wrap (IntKind.u32.wrap (1 * 2 ^ (min (k : Int).toNat IntKind.u32.bits)) - 1) = (2 ^ k - 1 : Nat) := by
  simp only [wrap_u32, IntKind.bits]
  have : k = 0 ∨ k = 1 ∨ k = 2 ∨ k = 3 ∨ k = 4 ∨ k = 5 ∨ k = 6 ∨ k = 7 ∨ k = 8 := by omega
  rcases this with rfl | rfl | rfl | rfl | rfl | rfl | rfl | rfl | rfl <;> decide

theorem word_mask (k : Nat) (h : 1 ≤ k) (h8 : k ≤ 8) : Spec Tryz.prog 475 [I 0, I k] [] (fun v A => v = .int .u32 ((2 ^ k - 1 : Nat) : Int) ∧ A = []) := by
  refine Spec.of Tryz.func475 rfl Tryz.call475 rfl (fun R => ?_)
  refine WS.seq ?_
  refine WS.region ?_
  refine WL.v (V.assign rfl) rfl ?_
  refine WL.done ?_
  refine WS.seq ?_
  refine WS.seq ?_
  refine WS.region ?_
  refine WL.v (V.move rfl) rfl ?_
  refine WL.v (V.lt rfl rfl) rfl ?_
  refine WL.v (V.move rfl) rfl ?_
  refine WL.gy rfl rfl ?_
  refine WL.v (V.move rfl) rfl ?_
  refine WL.gy rfl rfl ?_
  refine WL.v (V.ge rfl rfl) rfl ?_
  refine WL.v (V.pickF rfl rfl) rfl ?_
  refine WL.v (V.move rfl) rfl ?_
  refine WL.gy rfl rfl ?_
  refine WL.v (V.move rfl) rfl ?_
  refine WL.gy rfl rfl ?_
  refine WL.v (V.lt rfl rfl) rfl ?_
  refine WL.v (V.pickF rfl rfl) rfl ?_
  refine WL.done ?_
  (refine WS.condD rfl ?_ ?_) <;> intro h_ <;> try (exfalso; omega)
  refine WS.skip ?_
  refine WS.seq ?_
  refine WS.region ?_
  refine WL.v (V.move rfl) rfl ?_
  refine WL.v (V.move rfl) rfl ?_
  refine WL.v (V.sub rfl rfl (fits_i64 (by omega) (by omega))) rfl ?_
  refine WL.v (V.min2 rfl rfl) rfl ?_
  refine WL.v (V.shl rfl rfl (by omega)) rfl ?_
  refine WL.v (V.subw rfl rfl) rfl ?_
  refine WL.v (V.assign rfl) rfl ?_
  refine WL.done ?_
  refine WS.ret rfl ?_
  refine ⟨?_, rfl⟩
  have e : min (min (k : Int) (32 - 0)).toNat IntKind.u32.bits = min (k : Int).toNat IntKind.u32.bits := by simp [IntKind.bits]; omega
  simp only [retV, e]
  rw [mask_U k h8]

theorem word_mask0 : Spec Tryz.prog 475 [I 0, I 0] [] (fun v A => v = .int .u32 0 ∧ A = []) := by
  refine Spec.of Tryz.func475 rfl Tryz.call475 rfl (fun R => ?_)
  refine WS.seq ?_
  refine WS.region ?_
  refine WL.v (V.assign rfl) rfl ?_
  refine WL.done ?_
  refine WS.seq ?_
  refine WS.seq ?_
  refine WS.region ?_
  refine WL.v (V.move rfl) rfl ?_
  refine WL.v (V.lt rfl rfl) rfl ?_
  refine WL.v (V.move rfl) rfl ?_
  refine WL.gy rfl rfl ?_
  refine WL.v (V.move rfl) rfl ?_
  refine WL.gy rfl rfl ?_
  refine WL.v (V.ge rfl rfl) rfl ?_
  refine WL.v (V.pickF rfl rfl) rfl ?_
  refine WL.v (V.move rfl) rfl ?_
  refine WL.gy rfl rfl ?_
  refine WL.v (V.move rfl) rfl ?_
  refine WL.gy rfl rfl ?_
  refine WL.v (V.lt rfl rfl) rfl ?_
  refine WL.v (V.pickF rfl rfl) rfl ?_
  refine WL.done ?_
  refine WS.condT rfl ?_
  refine WS.seq ?_
  refine WS.region ?_
  refine WL.v (V.assign rfl) rfl ?_
  refine WL.done ?_
  refine WS.ret rfl ?_
  exact ⟨rfl, rfl⟩

theorem and_pow (x : UInt32) (k : Nat) (h : k ≤ 8) : bitsOf .and .u32 (x.toNat : Int) ((2 ^ k - 1 : Nat) : Int) = ((x.toNat % 2 ^ k : Nat) : Int) := by
  have e : (UInt32.ofNat (2 ^ k - 1)).toNat = 2 ^ k - 1 := by
    have : k = 0 ∨ k = 1 ∨ k = 2 ∨ k = 3 ∨ k = 4 ∨ k = 5 ∨ k = 6 ∨ k = 7 ∨ k = 8 := by omega
    rcases this with rfl | rfl | rfl | rfl | rfl | rfl | rfl | rfl | rfl <;> decide
  have := and_U x (UInt32.ofNat (2 ^ k - 1))
  rw [e] at this
  rw [this]
  simp only [UInt32.toNat_and, e]
  rw [Nat.and_two_pow_sub_one_eq_mod]

/-- the number of the lowest bits of a word -/
theorem word_Field (x : UInt32) (k : Nat) (h8 : k ≤ 8) : Spec Tryz.prog 375 [U x, I 0, I k] [] (fun v A => v = .int .u32 ((x.toNat % 2 ^ k : Nat) : Int) ∧ A = []) := by
  refine Spec.of Tryz.func375 rfl Tryz.call375 rfl (fun R => ?_)
  by_cases hk : k = 0
  · subst hk
    refine WS.seq ?_
    refine WS.region ?_
    refine WL.v (V.assign rfl) rfl ?_
    refine WL.done ?_
    refine WS.seq ?_
    refine WS.region ?_
    refine WL.v (V.move rfl) rfl ?_
    refine WL.v (V.move rfl) rfl ?_
    refine WL.call word_mask0 [] rfl rfl rfl ?_
    rintro _ _ ⟨rfl, rfl⟩
    refine WL.v (V.assign rfl) rfl ?_
    refine WL.done ?_
    refine WS.seq ?_
    refine WS.seq ?_
    refine WS.region ?_
    refine WL.v (V.move rfl) rfl ?_
    refine WL.v (V.eqi rfl rfl) rfl ?_
    refine WL.done ?_
    refine WS.condT rfl ?_
    refine WS.seq ?_
    refine WS.region ?_
    refine WL.v (V.assign rfl) rfl ?_
    refine WL.done ?_
    refine WS.ret rfl ?_
    exact ⟨by simp [retV, Nat.mod_one], rfl⟩
  · have hk1 : 1 ≤ k := by omega
    have hp : 2 ≤ 2 ^ k := by
      have := Nat.pow_le_pow_right (n := 2) (by omega) hk1
      simpa using this
    refine WS.seq ?_
    refine WS.region ?_
    refine WL.v (V.assign rfl) rfl ?_
    refine WL.done ?_
    refine WS.seq ?_
    refine WS.region ?_
    refine WL.v (V.move rfl) rfl ?_
    refine WL.v (V.move rfl) rfl ?_
    refine WL.call (word_mask k hk1 h8) [] rfl rfl rfl ?_
    rintro _ _ ⟨rfl, rfl⟩
    have hne : ¬ (((2 ^ k - 1 : Nat) : Int) = 0) := by omega
    refine WL.v (V.assign rfl) rfl ?_
    refine WL.done ?_
    refine WS.seq ?_
    refine WS.seq ?_
    refine WS.region ?_
    refine WL.v (V.move rfl) rfl ?_
    refine WL.v (V.eqi rfl rfl) rfl ?_
    refine WL.done ?_
    (refine WS.condD rfl ?_ ?_) <;> intro h_ <;> try (exfalso; omega)
    refine WS.skip ?_
    refine WS.seq ?_
    refine WS.region ?_
    refine WL.v (V.move rfl) rfl ?_
    refine WL.v (V.move rfl) rfl ?_
    refine WL.v (V.shr rfl rfl (by omega)) rfl ?_
    refine WL.v (V.move rfl) rfl ?_
    refine WL.v (V.bits rfl rfl rfl) rfl ?_
    refine WL.v (V.assign rfl) rfl ?_
    refine WL.done ?_
    refine WS.ret rfl ?_
    refine ⟨?_, rfl⟩
    simp only [retV]
    have e : (x.toNat : Int).fdiv (2 ^ (min (0 : Int).toNat IntKind.u32.bits)) = x.toNat := by simp
    rw [e, and_pow x k h8]

/-- where number n of a ring is -/
theorem ring_place (x : UInt32) (k s : Nat) (h8 : k ≤ 8) (hs : s ≤ 100) : Spec Tryz.prog 352 [U x, I k, I s] [] (fun v A => v = I ((16 + x.toNat % 2 ^ k * s : Nat) : Int) ∧ A = []) := by
  have hp : 2 ^ k ≤ 256 := by
    have := Nat.pow_le_pow_right (n := 2) (by omega) h8
    simpa using this
  have hm : x.toNat % 2 ^ k < 256 := by
    have := Nat.mod_lt x.toNat (Nat.two_pow_pos k)
    omega
  have hm2 : x.toNat % 2 ^ k * s ≤ 25600 := Nat.le_trans (Nat.mul_le_mul (Nat.le_of_lt hm) hs) (by omega)
  generalize hg : x.toNat % 2 ^ k = m at *
  refine Spec.of Tryz.func352 rfl Tryz.call352 rfl (fun R => ?_)
  refine WS.seq ?_
  refine WS.region ?_
  refine WL.v (V.assign rfl) rfl ?_
  refine WL.done ?_
  refine WS.seq ?_
  refine WS.region ?_
  refine WL.v (V.move rfl) rfl ?_
  refine WL.v (V.move rfl) rfl ?_
  refine WL.call (word_Field x k h8) [] rfl rfl rfl ?_
  rintro _ _ ⟨rfl, rfl⟩
  rw [hg]
  refine WL.v (V.conv rfl) rfl ?_
  have e : IntKind.i64.wrap (m : Int) = m := fits_i64 (by omega) (by omega)
  rw [e]
  have hms : ((m : Int) * (s : Int)) = ((m * s : Nat) : Int) := by simp
  refine WL.v (V.move rfl) rfl ?_
  refine WL.v (V.mul rfl rfl (fits_i64 (by omega) (by omega))) rfl ?_
  refine WL.v (V.add rfl rfl (fits_i64 (by omega) (by omega))) rfl ?_
  refine WL.v (V.assign rfl) rfl ?_
  refine WL.done ?_
  refine WS.ret rfl ?_
  exact ⟨by simp [retV], rfl⟩
end Go.Proofs
