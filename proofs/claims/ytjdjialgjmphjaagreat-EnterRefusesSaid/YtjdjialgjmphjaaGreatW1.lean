/- Part of the proof: W1. -/
import Derived.Test.YtjdjialgjmphjaaGreatTab
import Derived.Test.YtjdjialgjmphjaaGreatS5
import Derived.Test.YtjdjialgjmphjaaGreatS6
import Derived.Test.YtjdjialgjmphjaaGreatS4
set_option linter.all false
set_option maxRecDepth 100000
set_option maxHeartbeats 8000000
namespace Go.Proofs
open Go Go.Sep
attribute [local irreducible] WS WL WH WHT OpV OpR

abbrev ptr (b o : Nat) : Value := .pointer (some ⟨b, o, none⟩)
abbrev I (z : Int) : Value := .int .i64 z
abbrev B (b : Bool) : Value := .bool b
abbrev U (x : UInt32) : Value := .int .u32 (x.toNat : Int)
abbrev Y (x : UInt8) : Value := .int .u8 (x.toNat : Int)
def encY (x : UInt8) : List Value := [Y x]
instance : Enc encY 1 := ⟨fun _ => rfl, fun _ => rfl, by omega⟩

theorem flat_encY (l : List UInt8) : flat encY l = l.map Y := by
  induction l with
  | nil => rfl
  | cons x l ih => simp [flat, encY, ih]

theorem getN_one : ∀ (l : List Value) (i : Nat) (v : Value), l[i]? = some v → getN i 1 l = some [v]
  | [], _, _, h => by simp at h
  | u :: l, 0, v, h => by simp at h; subst h; simp [getN]
  | u :: l, i + 1, v, h => by simp only [getN]; exact getN_one l i v (by simpa using h)

/-- cells that hold these bytes from a place on -/
def Bytes (cells : List Value) (o : Nat) (l : List UInt8) : Prop := ∀ i, i < l.length → cells[o + i]? = some (Y (l.getD i 0))

/-- bytes as a number, the least first -/
def leF (f : Nat → UInt8) : Nat → UInt32
  | 0 => 0
  | i + 1 => leF f i ||| ((f i).toUInt32 <<< (UInt32.ofNat (8 * i)))
def u32At (l : List UInt8) (i : Nat) : UInt32 := leF (fun k => l.getD (i + k) 0) 4

theorem or_U (x y : UInt32) : bitsOf .or .u32 (x.toNat : Int) (y.toNat : Int) = ((x ||| y).toNat : Int) := by
  unfold bitsOf
  simp only [wrap_u32]
  have hx : BitVec.ofInt IntKind.u32.bits (x.toNat : Int) = x.toBitVec := by
    apply BitVec.eq_of_toNat_eq
    have := x.toNat_lt
    simp [IntKind.bits]
  have hy : BitVec.ofInt IntKind.u32.bits (y.toNat : Int) = y.toBitVec := by
    apply BitVec.eq_of_toNat_eq
    have := y.toNat_lt
    simp [IntKind.bits]
  rw [hx, hy]
  have h1 : (x ||| y).toNat < 4294967296 := (x ||| y).toNat_lt
  show (((x ||| y).toNat : Nat) : Int) % 4294967296 = _
  omega

theorem and_U (x y : UInt32) : bitsOf .and .u32 (x.toNat : Int) (y.toNat : Int) = ((x &&& y).toNat : Int) := by
  unfold bitsOf
  simp only [wrap_u32]
  have hx : BitVec.ofInt IntKind.u32.bits (x.toNat : Int) = x.toBitVec := by
    apply BitVec.eq_of_toNat_eq
    have := x.toNat_lt
    simp [IntKind.bits]
  have hy : BitVec.ofInt IntKind.u32.bits (y.toNat : Int) = y.toBitVec := by
    apply BitVec.eq_of_toNat_eq
    have := y.toNat_lt
    simp [IntKind.bits]
  rw [hx, hy]
  have h1 : (x &&& y).toNat < 4294967296 := (x &&& y).toNat_lt
  show (((x &&& y).toNat : Nat) : Int) % 4294967296 = _
  omega

theorem shl_Y (x : UInt8) (i : Nat) (h : i < 4) : IntKind.u32.wrap (IntKind.u32.wrap (x.toNat : Int) * 2 ^ (min ((8 : Int) * (i : Int)).toNat IntKind.u32.bits)) = ((x.toUInt32 <<< (UInt32.ofNat (8 * i))).toNat : Int) := by
  have hx := x.toNat_lt
  simp only [wrap_u32, IntKind.bits]
  have h1 : ((x.toNat : Int) % 4294967296) = x.toNat := by omega
  rw [h1]
  have : i = 0 ∨ i = 1 ∨ i = 2 ∨ i = 3 := by omega
  rcases this with rfl | rfl | rfl | rfl <;> simp [UInt32.toNat_shiftLeft, Nat.shiftLeft_eq] <;> omega

theorem word_get (b o c E0 : Nat) (cells : List Value) (l : List UInt8) (at_ : Nat) (h : at_ + 4 ≤ l.length) (hl : l.length ≤ 1000000) (hs : Bytes cells o l) :
    Spec Tryz.prog 360 [.slice (some ⟨b, o, none⟩) l.length c, I at_, I 4] [blk b E0 cells] (fun v A => v = U (u32At l at_) ∧ A = [blk b E0 cells]) := by
  refine Spec.of Tryz.func360 rfl Tryz.call360 rfl (fun R => ?_)
  refine WS.seq ?_
  refine WS.region ?_
  refine WL.v (V.assign rfl) rfl ?_
  refine WL.done ?_
  refine WS.seq ?_
  refine WS.region ?_
  refine WL.v (V.assign rfl) rfl ?_
  refine WL.done ?_
  refine WS.seq ?_
  refine WS.seq ?_
  refine WS.region ?_
  refine WL.v (V.move rfl) rfl ?_
  refine WL.v (V.move rfl) rfl ?_
  refine WL.done ?_
  refine WS.block ?_
  refine WS.keep [10, 9, 7, 0, 1] rfl ?_
  refine WS.loop (ι := {i : Nat // i ≤ 4}) (fun i => [(10, I i.1), (9, I 4), (7, U (leF (fun k => l.getD (at_ + k) 0) i.1)), (0, .slice (some ⟨b, o, none⟩) l.length c), (1, I at_)]) (fun _ => [blk b E0 cells]) (fun i => 4 - i.1) ⟨0, by omega⟩ ?_
  rintro ⟨i, hi⟩ X ih
  simp only at ih ⊢
  refine WS.seq ?_
  refine WS.region ?_
  refine WL.v (V.lt rfl rfl) rfl ?_
  refine WL.done ?_
  refine WS.seq ?_
  (refine WS.condD rfl ?_ ?_) <;> intro h_ <;> try (exfalso; omega)
  refine WS.skip ?_
  refine WS.seq ?_
  refine WS.block ?_
  refine WS.seq ?_
  refine WS.region ?_
  refine WL.v (V.move rfl) rfl ?_
  refine WL.v (V.assign rfl) rfl ?_
  refine WL.done ?_
  refine WS.seq ?_
  refine WS.region ?_
  refine WL.v (V.move rfl) rfl ?_
  refine WL.v (V.move rfl) rfl ?_
  refine WL.v (V.neg rfl (fits_i64 (by omega) (by omega))) rfl ?_
  refine WL.v (V.ge rfl rfl) rfl ?_
  refine WL.v (V.move rfl) rfl ?_
  (refine WL.gcaseD rfl rfl ?_ ?_) <;> intro h_ <;> try (exfalso; omega)
  refine WL.gy rfl rfl ?_
  refine WL.v (V.move rfl) rfl ?_
  refine WL.gy rfl rfl ?_
  refine WL.v (V.move rfl) rfl ?_
  refine WL.gy rfl rfl ?_
  refine WL.v (V.lenS rfl) rfl ?_
  refine WL.gy rfl rfl ?_
  refine WL.v (V.move rfl) rfl ?_
  refine WL.gy rfl rfl ?_
  refine WL.v (V.sub rfl rfl (fits_i64 (by omega) (by omega))) rfl ?_
  refine WL.gy rfl rfl ?_
  refine WL.v (V.lt rfl rfl) rfl ?_
  refine WL.v (V.pickT rfl rfl) rfl ?_
  refine WL.done ?_
  (refine WS.condD rfl ?_ ?_) <;> intro h_ <;> try (exfalso; omega)
  refine WS.region ?_
  refine WL.v (V.move rfl) rfl ?_
  refine WL.v (V.move rfl) rfl ?_
  refine WL.v (V.move rfl) rfl ?_
  refine WL.v (V.move rfl) rfl ?_
  refine WL.v (V.add rfl rfl (fits_i64 (by omega) (by omega))) rfl ?_
  refine WL.v (V.indexAddr rfl rfl (by constructor <;> omega)) rfl ?_
  rotate_left
  refine WS.exit rfl ?_
  refine WS.seq ?_
  refine WS.region ?_
  refine WL.v (V.move rfl) rfl ?_
  refine WL.v (V.assign rfl) rfl ?_
  refine WL.done ?_
  rotate_left
  · have hi4 : i < 4 := by omega
    have hv : getN (o + ((at_ : Int) + (i : Int)).toNat * 1) 1 cells = some [Y (l.getD (at_ + i) 0)] := by
      rw [show o + ((at_ : Int) + (i : Int)).toNat * 1 = o + (at_ + i) from by omega]
      exact getN_one _ _ _ (hs (at_ + i) (by omega))
    refine WL.r (V.load1 0 rfl rfl hv) rfl ?_
    refine WL.v (V.conv rfl) rfl ?_
    refine WL.v (V.move rfl) rfl ?_
    refine WL.v (V.mul rfl rfl (fits_i64 (by omega) (by omega))) rfl ?_
    refine WL.v (V.shl rfl rfl (by omega)) rfl ?_
    refine WL.v (V.bits rfl rfl rfl) rfl ?_
    refine WL.v (V.assign rfl) rfl ?_
    refine WL.done ?_
    refine WS.blk ?_
    refine WS.region ?_
    refine WL.v (V.add rfl rfl (fits_i64 (by omega) (by omega))) rfl ?_
    refine WL.v (V.move rfl) rfl ?_
    refine WL.done ?_
    rw [shl_Y _ _ hi4, or_U]
    refine WS.keep [10, 9, 7, 0, 1] rfl ?_
    exact ih ⟨i + 1, by omega⟩ (by simp only; omega)
  · have : i = 4 := by omega
    subst this
    refine WS.ret rfl ?_
    exact ⟨rfl, rfl⟩

theorem word_U32 (b o c E0 : Nat) (cells : List Value) (l : List UInt8) (at_ : Nat) (h : at_ + 4 ≤ l.length) (hl : l.length ≤ 1000000) (hs : Bytes cells o l) :
    Spec Tryz.prog 215 [.slice (some ⟨b, o, none⟩) l.length c, I at_] [blk b E0 cells] (fun v A => v = U (u32At l at_) ∧ A = [blk b E0 cells]) := by
  refine Spec.of Tryz.func215 rfl Tryz.call215 rfl (fun R => ?_)
  refine WS.seq ?_
  refine WS.region ?_
  refine WL.v (V.assign rfl) rfl ?_
  refine WL.done ?_
  refine WS.seq ?_
  refine WS.region ?_
  refine WL.v (V.move rfl) rfl ?_
  refine WL.v (V.move rfl) rfl ?_
  refine WL.call (word_get b o c E0 cells l at_ h hl hs) [0] rfl rfl rfl ?_
  rintro _ _ ⟨rfl, rfl⟩
  refine WL.v (V.assign rfl) rfl ?_
  refine WL.done ?_
  refine WS.ret rfl ?_
  exact ⟨rfl, rfl⟩
end Go.Proofs
