/- Part of the proof: W5. -/
import Derived.Test.YtjdjialgjmphjaaGreatW4
set_option linter.all false
set_option maxRecDepth 100000
set_option maxHeartbeats 8000000
namespace Go.Proofs
open Go Go.Sep
attribute [local irreducible] WS WL WH WHT OpV OpR

/-! ## completions -/

structure Deed where
  ring : Nat
  seq : Nat
  tag : UInt32
  op : Int
  result : Int
  value : UInt32
  gone : Bool
deriving DecidableEq

def encD (d : Deed) : List Value := [I d.ring, I d.seq, U d.tag, I d.op, I d.result, U d.value, B d.gone]
instance : Enc encD 7 := ⟨fun _ => rfl, fun _ => rfl, by omega⟩

def Cqe.of (d : Deed) : Cqe := ⟨d.tag, IntKind.i32.wrap d.result, d.value, UInt32.ofNat d.seq⟩
def Cqe.resU (c : Cqe) : UInt32 := UInt32.ofNat (c.res % 4294967296).toNat
def Cqe.bytes (c : Cqe) : List UInt8 := put32 (put32 (put32 (put32 (List.replicate 16 0) 0 c.tag) 4 c.resU) 8 c.val) 12 c.seq
theorem put32_len (l : List UInt8) (a : Nat) (n : UInt32) : (put32 l a n).length = l.length := putF_len n a 4 l
theorem Cqe.bytes_len (c : Cqe) : c.bytes.length = 16 := by simp [Cqe.bytes, put32_len]

theorem comp_Of (d : Deed) : Spec Tryz.prog 357 [.agg (encD d).toArray] [] (fun v A => v = .agg (encC (Cqe.of d)).toArray ∧ A = []) := by
  refine Spec.of Tryz.func357 rfl Tryz.call357 rfl (fun R => ?_)
  refine WS.seq ?_
  refine WS.region ?_
  refine WL.box rfl rfl ?_; intro r_
  refine WL.alloc rfl ?_; intro r_
  refine WL.done ?_
  refine WS.seq ?_
  refine WS.region ?_
  refine WL.v (V.fieldAddr rfl) rfl ?_
  refine WL.r (V.load1 1 rfl rfl rfl) rfl ?_
  refine WL.v (V.fieldAddr rfl) rfl ?_
  refine WL.r (V.load1 1 rfl rfl rfl) rfl ?_
  refine WL.v (V.conv rfl) rfl ?_
  refine WL.v (V.fieldAddr rfl) rfl ?_
  refine WL.r (V.load1 1 rfl rfl rfl) rfl ?_
  refine WL.v (V.fieldAddr rfl) rfl ?_
  refine WL.v (V.fieldAddr rfl) rfl ?_
  refine WL.r (V.load1 1 rfl rfl rfl) rfl ?_
  refine WL.v (V.conv rfl) rfl ?_
  refine WL.v (V.build rfl rfl rfl) rfl ?_
  refine WL.store 0 rfl rfl rfl rfl rfl rfl ?_
  refine WL.done ?_
  refine WS.retM [] (.cell rfl (.agg 0 rfl rfl) .nil) rfl ?_
  refine ⟨?_, rfl⟩
  simp only [retV, encC, Cqe.of, U, wrap_u32, UInt32.toNat_ofNat']
  rfl

theorem resU_eq (c : Cqe) : Value.int .u32 (IntKind.u32.wrap c.res) = U c.resU := by
  simp only [U, Cqe.resU, wrap_u32, UInt32.toNat_ofNat']
  congr 1
  omega

theorem put32_SL (s : SL encY 1) (at_ : Nat) (n : UInt32) (h : at_ + 4 ≤ s.xs.length) (hb : s.xs.length ≤ 1000000) :
    Spec Tryz.prog 374 [s.val, I at_, U n] [s.ch 5] (fun v A => ∃ s' : SL encY 1, s'.xs = put32 s.xs at_ n ∧ v = s'.val ∧ A = [s'.ch 5, s.ch 5]) := by
  obtain ⟨xs, sb, cap, junk, hnil, hfit⟩ := s
  cases sb with
  | none => have := hnil rfl; subst this; simp at h
  | some sb => exact word_Put32 sb 0 cap 5 (flat encY xs ++ junk) xs at_ n h (Bytes.row xs junk) (by simp [flat_length]) hb

theorem comp_Bytes (c : Cqe) : Spec Tryz.prog 453 [.agg (encC c).toArray] [] (fun v A => ∃ s : SL encY 1, s.xs = c.bytes ∧ v = s.val ∧ A = [s.ch 5]) := by
  refine Spec.of Tryz.func453 rfl Tryz.call453 rfl (fun R => ?_)
  refine WS.seq ?_
  refine WS.region ?_
  refine WL.box rfl rfl ?_; intro r_
  refine WL.v (V.assign rfl) rfl ?_
  refine WL.done ?_
  refine WS.seq ?_
  refine WS.regionD [blk r_ 84 (cellsV (.agg (encC c).toArray))] Tryz.mixed rfl ?_
  refine WH.pick rfl ?_
  refine WHT.v (V.fieldAddr rfl) rfl rfl rfl rfl ?_
  refine WH.pick rfl ?_
  refine WHT.rh (V.load1 0 rfl rfl rfl) rfl (by simp) rfl rfl rfl rfl ?_
  refine WH.big rfl rfl rfl ?_; intro _ _
  refine WL.makeSlice1 (m := 16) rfl rfl rfl (by omega) (by omega) rfl ?_
  intro zb
  refine WL.nextH (ok := by assumption) (hns := by assumption) (by simp) ?_
  refine WH.big rfl rfl rfl ?_; intro _ _
  refine WL.call (word_Put32 zb 0 16 5 (List.replicate 16 (.int .u8 0)) (List.replicate 16 0) 0 c.tag (by simp) (Bytes.row (List.replicate 16 0) []) (by simp) (by simp)) [0] rfl rfl rfl ?_
  rintro _ _ ⟨s0, hs0, rfl, rfl⟩
  have hl0 : s0.xs.length = 16 := by rw [hs0]; simp [put32_len]
  refine WL.nextH (ok := by assumption) (hns := by assumption) (by simp) ?_
  refine WH.pick rfl ?_
  refine WHT.v (V.assign rfl) rfl rfl rfl rfl ?_
  refine WH.done ?_
  refine WS.seq ?_
  refine WS.region ?_
  refine WL.v (V.move rfl) rfl ?_
  refine WL.v (V.fieldAddr rfl) rfl ?_
  refine WL.r (V.load1 2 rfl rfl rfl) rfl ?_
  refine WL.v (V.conv rfl) rfl ?_
  rw [resU_eq]
  refine WL.call (put32_SL s0 4 c.resU (by omega) (by omega)) [0] rfl rfl rfl ?_
  rintro _ _ ⟨s1, hs1, rfl, rfl⟩
  have hl1 : s1.xs.length = 16 := by rw [hs1]; simp [put32_len, hl0]
  refine WL.v (V.assign rfl) rfl ?_
  refine WL.done ?_
  refine WS.seq ?_
  refine WS.region ?_
  refine WL.v (V.move rfl) rfl ?_
  refine WL.v (V.fieldAddr rfl) rfl ?_
  refine WL.r (V.load1 3 rfl rfl rfl) rfl ?_
  refine WL.call (put32_SL s1 8 c.val (by omega) (by omega)) [0] rfl rfl rfl ?_
  rintro _ _ ⟨s2, hs2, rfl, rfl⟩
  have hl2 : s2.xs.length = 16 := by rw [hs2]; simp [put32_len, hl1]
  refine WL.v (V.assign rfl) rfl ?_
  refine WL.done ?_
  refine WS.seq ?_
  refine WS.region ?_
  refine WL.v (V.move rfl) rfl ?_
  refine WL.v (V.fieldAddr rfl) rfl ?_
  refine WL.r (V.load1 4 rfl rfl rfl) rfl ?_
  refine WL.call (put32_SL s2 12 c.seq (by omega) (by omega)) [0] rfl rfl rfl ?_
  rintro _ _ ⟨s3, hs3, rfl, rfl⟩
  refine WL.v (V.assign rfl) rfl ?_
  refine WL.done ?_
  refine WS.pick [0] rfl ?_
  refine WS.ret rfl ?_
  exact ⟨s3, by rw [hs3, hs2, hs1, hs0]; rfl, rfl, rfl⟩

/-! ## a ring's completions -/

/-- a completion can be written -/
def Rg.fits (r : Rg) (m : Mm) : Bool := decide (1 ≤ (r.room m).getD 0)
def Rg.outM (r : Rg) (m : Mm) (c : Cqe) : Mm := (m.wr r.cq (16 + r.tl.toNat % 2 ^ r.cb * 16) c.bytes).wr r.cq 4 (le4 (r.tl + 1))
def Rg.out (r : Rg) : Rg := { r with tl := r.tl + 1 }

theorem mem_WriteS (m : Mm) (u off : Nat) (s : SL encY 1) (hu : 1 ≤ u) (hu2 : u ≤ 64) (ho : off < 512) (h0 : 0 < s.xs.length) (hn : off + s.xs.length ≤ 512) :
    Spec Tryz.prog 48 [ptr m.mb 0, I u, I off, s.val] (m.chs ++ [s.ch 5])
      (fun v A => v = B true ∧ A = (m.wr u off s.xs).chs ++ [s.ch 5]) := by
  obtain ⟨xs, sb, cap, junk, hnil, hfit⟩ := s
  cases sb with
  | none => have := hnil rfl; subst this; simp at h0
  | some sb => exact mem_Write m u off sb 0 cap 5 (flat encY xs ++ junk) xs hu hu2 ho hn (Bytes.row xs junk) (by simp [flat_length])

theorem ring_writes_no (m : Mm) (r : Rg) (c : Cqe) (h : r.fits m = false) :
    Spec Tryz.prog 341 [ptr r.rb 0, .agg (encC c).toArray] (r.blk m.mb :: m.chs) (fun v A => v = B false ∧ A = r.blk m.mb :: m.chs) := by
  have hcb := r.cb4
  have hp : 2 ^ r.cb ≤ 16 := by
    have := Nat.pow_le_pow_right (n := 2) (by omega) hcb
    simpa using this
  refine Spec.of Tryz.func341 rfl Tryz.call341 rfl (fun R => ?_)
  refine WS.seq ?_
  refine WS.region ?_
  refine WL.box rfl rfl ?_; intro r_
  refine WL.v (V.assign rfl) rfl ?_
  refine WL.done ?_
  refine WS.seq ?_
  refine WS.seq ?_
  refine WS.region ?_
  refine WL.v (V.move rfl) rfl ?_
  refine WL.call (ring_Room m r) [1, 1, 1, 1] rfl rfl rfl ?_
  rintro _ _ ⟨rfl, rfl⟩
  unfold Rg.fits at h
  cases hR : r.room m with
  | none =>
    refine WL.v (V.move rfl) rfl ?_
    refine WL.v (V.extractL rfl rfl) rfl ?_
    refine WL.v (V.extractL rfl rfl) rfl ?_
    refine WL.v (V.assign rfl) rfl ?_
    refine WL.v (V.assign rfl) rfl ?_
    refine WL.done ?_
    refine WS.seq ?_
    refine WS.region ?_
    refine WL.v (V.move rfl) rfl ?_
    refine WL.v (V.not rfl) rfl ?_
    refine WL.v (V.move rfl) rfl ?_
    refine WL.gn2 rfl rfl rfl rfl ?_
    refine WL.gn2 rfl rfl rfl rfl ?_
    refine WL.v (V.pickT rfl rfl) rfl ?_
    refine WL.done ?_
    refine WS.condT rfl ?_
    refine WS.seq ?_
    refine WS.region ?_
    refine WL.v (V.assign rfl) rfl ?_
    refine WL.done ?_
    refine WS.pick [0, 0, 0, 0] rfl ?_
    refine WS.ret rfl ?_
    exact ⟨rfl, rfl⟩
  | some k =>
    rw [hR] at h
    simp at h
    subst h
    refine WL.v (V.move rfl) rfl ?_
    refine WL.v (V.extractL rfl rfl) rfl ?_
    refine WL.v (V.extractL rfl rfl) rfl ?_
    refine WL.v (V.assign rfl) rfl ?_
    refine WL.v (V.assign rfl) rfl ?_
    refine WL.done ?_
    refine WS.seq ?_
    refine WS.region ?_
    refine WL.v (V.move rfl) rfl ?_
    refine WL.v (V.not rfl) rfl ?_
    refine WL.v (V.move rfl) rfl ?_
    refine WL.gy rfl rfl ?_
    refine WL.v (V.move rfl) rfl ?_
    refine WL.gy rfl rfl ?_
    refine WL.v (V.lt rfl rfl) rfl ?_
    refine WL.v (V.pickF rfl rfl) rfl ?_
    refine WL.done ?_
    refine WS.condT rfl ?_
    refine WS.seq ?_
    refine WS.region ?_
    refine WL.v (V.assign rfl) rfl ?_
    refine WL.done ?_
    refine WS.pick [0, 0, 0, 0] rfl ?_
    refine WS.ret rfl ?_
    exact ⟨rfl, rfl⟩

theorem ring_writes (m : Mm) (r : Rg) (c : Cqe) (h : r.fits m = true) :
    Spec Tryz.prog 341 [ptr r.rb 0, .agg (encC c).toArray] (r.blk m.mb :: m.chs) (fun v A => v = B true ∧ A = r.out.blk m.mb :: (r.outM m c).chs) := by
  have hcb := r.cb4
  have hp : 2 ^ r.cb ≤ 16 := by
    have := Nat.pow_le_pow_right (n := 2) (by omega) hcb
    simpa using this
  have hm : r.tl.toNat % 2 ^ r.cb < 16 := by
    have := Nat.mod_lt r.tl.toNat (Nat.two_pow_pos r.cb)
    omega
  refine Spec.of Tryz.func341 rfl Tryz.call341 rfl (fun R => ?_)
  refine WS.seq ?_
  refine WS.region ?_
  refine WL.box rfl rfl ?_; intro r_
  refine WL.v (V.assign rfl) rfl ?_
  refine WL.done ?_
  refine WS.seq ?_
  refine WS.seq ?_
  refine WS.region ?_
  refine WL.v (V.move rfl) rfl ?_
  refine WL.call (ring_Room m r) [1, 1, 1, 1] rfl rfl rfl ?_
  rintro _ _ ⟨rfl, rfl⟩
  unfold Rg.fits at h
  cases hR : r.room m with
  | none => rw [hR] at h; simp at h
  | some k =>
    rw [hR] at h
    simp at h
    have hk : ¬ (((some k).getD 0 : Nat) : Int) < 1 := by simp; omega
    refine WL.v (V.move rfl) rfl ?_
    refine WL.v (V.extractL rfl rfl) rfl ?_
    refine WL.v (V.extractL rfl rfl) rfl ?_
    refine WL.v (V.assign rfl) rfl ?_
    refine WL.v (V.assign rfl) rfl ?_
    refine WL.done ?_
    refine WS.seq ?_
    refine WS.region ?_
    refine WL.v (V.move rfl) rfl ?_
    refine WL.v (V.not rfl) rfl ?_
    refine WL.v (V.move rfl) rfl ?_
    refine WL.gy rfl rfl ?_
    refine WL.v (V.move rfl) rfl ?_
    refine WL.gy rfl rfl ?_
    refine WL.v (V.lt rfl rfl) rfl ?_
    refine WL.v (V.pickF rfl rfl) rfl ?_
    refine WL.done ?_
    (refine WS.condD rfl ?_ ?_) <;> intro h_ <;> try (exfalso; omega)
    refine WS.skip ?_
    refine WS.seq ?_
    refine WS.regionD [r.blk m.mb, blk r_ 84 (cellsV (.agg (encC c).toArray))] Tryz.mixed rfl ?_
    refine WH.pick rfl ?_
    refine WHT.v (V.move rfl) rfl rfl rfl rfl ?_
    refine WH.pick rfl ?_
    refine WHT.v (V.nilCheck rfl) rfl rfl rfl rfl ?_
    refine WH.pick rfl ?_
    refine WHT.v (V.fieldAddr rfl) rfl rfl rfl rfl ?_
    refine WH.pick rfl ?_
    refine WHT.rh (V.load1 0 rfl rfl rfl) rfl (by simp) rfl rfl rfl rfl ?_
    refine WH.pick rfl ?_
    refine WHT.v (V.move rfl) rfl rfl rfl rfl ?_
    refine WH.pick rfl ?_
    refine WHT.v (V.nilCheck rfl) rfl rfl rfl rfl ?_
    refine WH.pick rfl ?_
    refine WHT.v (V.fieldAddr rfl) rfl rfl rfl rfl ?_
    refine WH.pick rfl ?_
    refine WHT.rh (V.load1 0 rfl rfl rfl) rfl (by simp) rfl rfl rfl rfl ?_
    refine WH.pick rfl ?_
    refine WHT.v (V.move rfl) rfl rfl rfl rfl ?_
    refine WH.pick rfl ?_
    refine WHT.v (V.nilCheck rfl) rfl rfl rfl rfl ?_
    refine WH.pick rfl ?_
    refine WHT.v (V.fieldAddr rfl) rfl rfl rfl rfl ?_
    refine WH.pick rfl ?_
    refine WHT.r (V.load1 0 rfl rfl rfl) rfl rfl rfl rfl rfl ?_
    refine WH.pick rfl ?_
    refine WHT.v (V.move rfl) rfl rfl rfl rfl ?_
    refine WH.pick rfl ?_
    refine WHT.v (V.nilCheck rfl) rfl rfl rfl rfl ?_
    refine WH.pick rfl ?_
    refine WHT.v (V.fieldAddr rfl) rfl rfl rfl rfl ?_
    refine WH.pick rfl ?_
    refine WHT.r (V.load1 0 rfl rfl rfl) rfl rfl rfl rfl rfl ?_
    refine WH.pick rfl ?_
    refine WHT.rh (V.loadN 1 rfl rfl rfl) rfl (by simp) rfl rfl rfl rfl ?_
    refine WH.big rfl rfl rfl ?_; intro _ _
    refine WL.call (ring_place r.tl r.cb 16 (by omega) (by omega)) [] rfl rfl rfl ?_
    rintro _ _ ⟨rfl, rfl⟩
    refine WL.nextH (ok := by assumption) (hns := by assumption) (by simp) ?_
    refine WH.big rfl rfl rfl ?_; intro _ _
    refine WL.call (comp_Bytes c) [] rfl rfl rfl ?_
    rintro _ _ ⟨s, hs, rfl, rfl⟩
    have hsl : s.xs.length = 16 := by rw [hs]; exact c.bytes_len
    refine WL.nextH (ok := by assumption) (hns := by assumption) (by simp) ?_
    refine WH.big rfl rfl rfl ?_; intro _ _
    refine WL.call (mem_WriteS m r.cq (16 + r.tl.toNat % 2 ^ r.cb * 16) s r.cq1 r.cq2 (by omega) (by omega) (by omega)) [2, 2, 2, 0] rfl rfl rfl ?_
    rintro _ _ ⟨rfl, rfl⟩
    rw [hs]
    have e : IntKind.u32.wrap ((r.tl.toNat : Int) + 1) = ((r.tl + 1).toNat : Int) := by
      simp only [wrap_u32, UInt32.toNat_add, UInt32.toNat_one]
      omega
    refine WL.nextH (ok := by assumption) (hns := by assumption) (by simp) ?_
    refine WH.done ?_
    refine WS.seq ?_
    refine WS.region ?_
    refine WL.v (V.move rfl) rfl ?_
    refine WL.v (V.nilCheck rfl) rfl ?_
    refine WL.v (V.fieldAddr rfl) rfl ?_
    refine WL.r (V.load1 4 rfl rfl rfl) rfl ?_
    refine WL.v (V.addw rfl rfl) rfl ?_
    rw [e]
    refine WL.v (V.nilCheck rfl) rfl ?_
    refine WL.v (V.fieldAddr rfl) rfl ?_
    refine WL.store 4 rfl rfl rfl rfl rfl rfl ?_
    refine WL.done ?_
    refine WS.seq ?_
    refine WS.regionD [] Tryz.mixed rfl ?_
    refine WH.pick rfl ?_
    refine WHT.v (V.move rfl) rfl rfl rfl rfl ?_
    refine WH.pick rfl ?_
    refine WHT.v (V.move rfl) rfl rfl rfl rfl ?_
    refine WH.pick rfl ?_
    refine WHT.v (V.nilCheck rfl) rfl rfl rfl rfl ?_
    refine WH.pick rfl ?_
    refine WHT.v (V.fieldAddr rfl) rfl rfl rfl rfl ?_
    refine WH.pick rfl ?_
    refine WHT.r (V.load1 0 rfl rfl rfl) rfl rfl rfl rfl rfl ?_
    refine WH.pick rfl ?_
    refine WHT.v (V.move rfl) rfl rfl rfl rfl ?_
    refine WH.pick rfl ?_
    refine WHT.v (V.nilCheck rfl) rfl rfl rfl rfl ?_
    refine WH.pick rfl ?_
    refine WHT.v (V.fieldAddr rfl) rfl rfl rfl rfl ?_
    refine WH.pick rfl ?_
    refine WHT.r (V.load1 0 rfl rfl rfl) rfl rfl rfl rfl rfl ?_
    refine WH.big rfl rfl rfl ?_; intro _ _
    refine WL.call (ring_puts (m.wr r.cq (16 + r.tl.toNat % 2 ^ r.cb * 16) c.bytes) r.out r.cq 4 (r.tl + 1) r.cq1 r.cq2 (by omega)) [0, 0, 0, 0] rfl rfl rfl ?_
    rintro _ _ rfl
    refine WL.nextH (ok := by assumption) (hns := by assumption) (by simp) ?_
    refine WH.done ?_
    refine WS.seq ?_
    refine WS.region ?_
    refine WL.v (V.assign rfl) rfl ?_
    refine WL.done ?_
    refine WS.pick [0, 0, 0, 0] rfl ?_
    refine WS.ret rfl ?_
    exact ⟨rfl, rfl⟩

/-- what is told of waits behind the others, or is written -/
theorem ring_Post_in (m : Mm) (r : Rg) (c : Cqe) (h : (r.over.xs.length == 0 && r.fits m) = true) :
    Spec Tryz.prog 356 [ptr r.rb 0, .agg (encC c).toArray] (r.blk m.mb :: m.chs) (fun v A => v = B true ∧ A = r.out.blk m.mb :: (r.outM m c).chs) := by
  simp at h
  have hl : r.over.xs.length = 0 := by simp [h.1]
  refine Spec.of Tryz.func356 rfl Tryz.call356 rfl (fun R => ?_)
  refine WS.seq ?_
  refine WS.region ?_
  refine WL.box rfl rfl ?_; intro r_
  refine WL.v (V.assign rfl) rfl ?_
  refine WL.done ?_
  refine WS.seq ?_
  refine WS.seq ?_
  refine WS.region ?_
  refine WL.v (V.move rfl) rfl ?_
  refine WL.v (V.nilCheck rfl) rfl ?_
  refine WL.v (V.fieldAddr rfl) rfl ?_
  refine WL.r (V.load1 1 rfl rfl rfl) rfl ?_
  refine WL.v (V.lenSL rfl) rfl ?_
  refine WL.v (V.eqi rfl rfl) rfl ?_
  refine WL.v (V.move rfl) rfl ?_
  (refine WL.gcaseD rfl rfl ?_ ?_) <;> intro h_ <;> try (exfalso; omega)
  refine WL.gy rfl rfl ?_
  refine WL.v (V.move rfl) rfl ?_
  refine WL.gy rfl rfl ?_
  refine WL.r (V.loadN 0 rfl rfl rfl) rfl ?_
  refine WL.gy rfl rfl ?_
  refine WL.call (ring_writes m r c h.2) [1, 1, 1, 1] rfl rfl rfl ?_
  rintro _ _ ⟨rfl, rfl⟩
  refine WL.v (V.pickT rfl rfl) rfl ?_
  refine WL.done ?_
  refine WS.condT rfl ?_
  refine WS.seq ?_
  refine WS.region ?_
  refine WL.v (V.assign rfl) rfl ?_
  refine WL.done ?_
  refine WS.pick [0, 0, 0, 0] rfl ?_
  refine WS.ret rfl ?_
  exact ⟨rfl, rfl⟩

theorem ring_Post_over (m : Mm) (r : Rg) (c : Cqe) (h : (r.over.xs.length == 0 && r.fits m) = false) (hb : r.over.xs.length ≤ 100000) :
    Spec Tryz.prog 356 [ptr r.rb 0, .agg (encC c).toArray] (r.blk m.mb :: r.over.ch 84 :: m.chs)
      (fun v A => ∃ s : SL encC 4, s.xs = r.over.xs ++ [c] ∧ v = B false ∧ A = ({ r with over := s } : Rg).blk m.mb :: s.ch 84 :: m.chs) := by
  refine Spec.of Tryz.func356 rfl Tryz.call356 rfl (fun R => ?_)
  refine WS.seq ?_
  refine WS.region ?_
  refine WL.box rfl rfl ?_; intro r_
  refine WL.v (V.assign rfl) rfl ?_
  refine WL.done ?_
  refine WS.seq ?_
  refine WS.seq ?_
  refine WS.region ?_
  refine WL.v (V.move rfl) rfl ?_
  refine WL.v (V.nilCheck rfl) rfl ?_
  refine WL.v (V.fieldAddr rfl) rfl ?_
  refine WL.r (V.load1 1 rfl rfl rfl) rfl ?_
  refine WL.v (V.lenSL rfl) rfl ?_
  refine WL.v (V.eqi rfl rfl) rfl ?_
  refine WL.v (V.move rfl) rfl ?_
  (refine WL.gcaseD rfl rfl ?_ ?_) <;> intro h_ <;> try (exfalso; omega)
  refine WL.gy rfl rfl ?_
  refine WL.v (V.move rfl) rfl ?_
  refine WL.gy rfl rfl ?_
  refine WL.r (V.loadN 0 rfl rfl rfl) rfl ?_
  refine WL.gy rfl rfl ?_
  rotate_left
  refine WL.gn2 rfl rfl rfl rfl ?_
  refine WL.gn2 rfl rfl rfl rfl ?_
  refine WL.gn2 rfl rfl rfl rfl ?_
  refine WL.v (V.pickF rfl rfl) rfl ?_
  refine WL.done ?_
  refine WS.condF rfl ?_
  refine WS.skip ?_
  refine WS.seq ?_
  refine WS.regionD [r.blk m.mb, blk r_ 84 (cellsV (.agg (encC c).toArray))] Tryz.mixed rfl ?_
  refine WH.pick rfl ?_
  refine WHT.v (V.move rfl) rfl rfl rfl rfl ?_
  refine WH.pick rfl ?_
  refine WHT.v (V.move rfl) rfl rfl rfl rfl ?_
  refine WH.pick rfl ?_
  refine WHT.v (V.nilCheck rfl) rfl rfl rfl rfl ?_
  refine WH.pick rfl ?_
  refine WHT.v (V.fieldAddr rfl) rfl rfl rfl rfl ?_
  refine WH.pick rfl ?_
  refine WHT.rh (V.load1 0 rfl rfl rfl) rfl (by simp) rfl rfl rfl rfl ?_
  refine WH.pick rfl ?_
  refine WHT.r (V.loadN 0 rfl rfl rfl) rfl rfl rfl rfl rfl ?_
  refine WH.big rfl rfl rfl ?_; intro _ _
  rotate_left
  · have h0 : r.over.xs.length = 0 := by omega
    have hf : r.fits m = false := by simpa [h0] using h
    refine WL.call (ring_writes_no m r c hf) [1, 2, 2, 2] rfl rfl rfl ?_
    rintro _ _ ⟨rfl, rfl⟩
    refine WL.v (V.pickT rfl rfl) rfl ?_
    refine WL.done ?_
    refine WS.condF rfl ?_
    refine WS.skip ?_
    refine WS.seq ?_
    refine WS.regionD [r.blk m.mb, blk r_ 84 (cellsV (.agg (encC c).toArray))] Tryz.mixed rfl ?_
    refine WH.pick rfl ?_
    refine WHT.v (V.move rfl) rfl rfl rfl rfl ?_
    refine WH.pick rfl ?_
    refine WHT.v (V.move rfl) rfl rfl rfl rfl ?_
    refine WH.pick rfl ?_
    refine WHT.v (V.nilCheck rfl) rfl rfl rfl rfl ?_
    refine WH.pick rfl ?_
    refine WHT.v (V.fieldAddr rfl) rfl rfl rfl rfl ?_
    refine WH.pick rfl ?_
    refine WHT.rh (V.load1 0 rfl rfl rfl) rfl (by simp) rfl rfl rfl rfl ?_
    refine WH.pick rfl ?_
    refine WHT.r (V.loadN 4 rfl rfl rfl) rfl rfl rfl rfl rfl ?_
    refine WH.big rfl rfl rfl ?_; intro _ _
    refine WL.slice1 (m := 4) rfl rfl rfl (by omega) (by omega) rfl ?_
    intro nb
    refine WL.nextH (ok := by assumption) (hns := by assumption) (by simp) ?_
    refine WH.big rfl rfl rfl ?_; intro _ _
    refine WL.append (enc := encC) [c] 6 r.over rfl rfl rfl rfl (.inr ⟨nb, 0, 1, 0, 84, _, rfl, rfl, rfl⟩) (by simp only [List.length_cons, List.length_nil]; omega) rfl ?_
    intro s hs
    refine WL.nextH (ok := by assumption) (hns := by assumption) (by simp) ?_
    refine WH.pick rfl ?_
    refine WHT.v (V.nilCheck rfl) rfl rfl rfl rfl ?_
    refine WH.pick rfl ?_
    refine WHT.v (V.fieldAddr rfl) rfl rfl rfl rfl ?_
    refine WH.bigSt rfl rfl rfl ?_; intro _ _
    refine WL.storeSL 2 rfl rfl rfl rfl ?_
    refine WL.nextH (ok := by assumption) (hns := by assumption) (by simp) ?_
    refine WH.done ?_
    refine WS.seq ?_
    refine WS.region ?_
    refine WL.v (V.assign rfl) rfl ?_
    refine WL.done ?_
    refine WS.pick [0, 0, 1, 1, 1] rfl ?_
    refine WS.ret rfl ?_
    exact ⟨s, hs, rfl, rfl⟩
  · refine WL.slice1 (m := 4) rfl rfl rfl (by omega) (by omega) rfl ?_
    intro nb
    refine WL.nextH (ok := by assumption) (hns := by assumption) (by simp) ?_
    refine WH.big rfl rfl rfl ?_; intro _ _
    refine WL.append (enc := encC) [c] 3 r.over rfl rfl rfl rfl (.inr ⟨nb, 0, 1, 0, 84, _, rfl, rfl, rfl⟩) (by simp only [List.length_cons, List.length_nil]; omega) rfl ?_
    intro s hs
    refine WL.nextH (ok := by assumption) (hns := by assumption) (by simp) ?_
    refine WH.pick rfl ?_
    refine WHT.v (V.nilCheck rfl) rfl rfl rfl rfl ?_
    refine WH.pick rfl ?_
    refine WHT.v (V.fieldAddr rfl) rfl rfl rfl rfl ?_
    refine WH.bigSt rfl rfl rfl ?_; intro _ _
    refine WL.storeSL 3 rfl rfl rfl rfl ?_
    refine WL.nextH (ok := by assumption) (hns := by assumption) (by simp) ?_
    refine WH.done ?_
    refine WS.seq ?_
    refine WS.region ?_
    refine WL.v (V.assign rfl) rfl ?_
    refine WL.done ?_
    refine WS.pick [0, 0, 2, 2, 2] rfl ?_
    refine WS.ret rfl ?_
    exact ⟨s, hs, rfl, rfl⟩

/-- none waits -/
theorem ring_Flush_nil (m : Mm) (r : Rg) (h : r.over.xs = []) :
    Spec Tryz.prog 189 [ptr r.rb 0] (r.blk m.mb :: m.chs) (fun v A => v = I 0 ∧ A = r.blk m.mb :: m.chs) := by
  have hl : r.over.xs.length = 0 := by simp [h]
  refine Spec.of Tryz.func189 rfl Tryz.call189 rfl (fun R => ?_)
  refine WS.seq ?_
  refine WS.region ?_
  refine WL.v (V.assign rfl) rfl ?_
  refine WL.done ?_
  refine WS.seq ?_
  refine WS.region ?_
  refine WL.v (V.assign rfl) rfl ?_
  refine WL.done ?_
  refine WS.seq ?_
  refine WS.block ?_
  refine WS.loop_rounds 1 ?_
  refine WS.round ?_
  refine WS.seq ?_
  refine WS.seq ?_
  refine WS.region ?_
  refine WL.v (V.move rfl) rfl ?_
  refine WL.v (V.nilCheck rfl) rfl ?_
  refine WL.v (V.fieldAddr rfl) rfl ?_
  refine WL.r (V.load1 0 rfl rfl rfl) rfl ?_
  refine WL.v (V.lenSL rfl) rfl ?_
  refine WL.v (V.gt rfl rfl) rfl ?_
  refine WL.v (V.move rfl) rfl ?_
  (refine WL.gcaseD rfl rfl ?_ ?_) <;> intro h_ <;> try (exfalso; omega)
  refine WL.gn2 rfl rfl rfl rfl ?_
  refine WL.gn2 rfl rfl rfl rfl ?_
  refine WL.gn2 rfl rfl rfl rfl ?_
  refine WL.gn2 rfl rfl rfl rfl ?_
  refine WL.gn2 rfl rfl rfl rfl ?_
  refine WL.gn2 rfl rfl rfl rfl ?_
  refine WL.gn2 rfl rfl rfl rfl ?_
  refine WL.gn2 rfl rfl rfl rfl ?_
  refine WL.v (V.pickF rfl rfl) rfl ?_
  refine WL.done ?_
  refine WS.condF rfl ?_
  refine WS.exit rfl ?_
  refine WS.seq ?_
  refine WS.region ?_
  refine WL.v (V.move rfl) rfl ?_
  refine WL.v (V.assign rfl) rfl ?_
  refine WL.done ?_
  refine WS.ret rfl ?_
  exact ⟨rfl, rfl⟩

end Go.Proofs
