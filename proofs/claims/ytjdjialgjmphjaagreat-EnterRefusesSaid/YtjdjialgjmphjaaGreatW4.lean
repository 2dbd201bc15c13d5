/- Part of the proof: W4. -/
import Derived.Test.YtjdjialgjmphjaaGreatW3
import Derived.Test.YtjdjialgjmphjaaGreatS4
set_option linter.all false
set_option maxRecDepth 100000
set_option maxHeartbeats 8000000
namespace Go.Proofs
open Go Go.Sep
attribute [local irreducible] WS WL WH WHT OpV OpR

/-! ## memory by units -/

def Mm.at_ (m : Mm) (u : Nat) : List UInt8 := ((m.us[u - 1]?).map (·.2)).getD []

theorem Mm.get (m : Mm) (u : Nat) (h1 : 1 ≤ u) (h2 : u ≤ 64) : ∃ bk, m.us[u - 1]? = some (bk, m.at_ u) := by
  have hlt : u - 1 < m.us.length := by rw [m.len]; omega
  exact ⟨(m.us[u - 1]).1, by simp [Mm.at_, hlt]⟩

theorem Mm.at_len (m : Mm) (u : Nat) (h1 : 1 ≤ u) (h2 : u ≤ 64) : (m.at_ u).length = 512 := by
  obtain ⟨bk, h⟩ := m.get u h1 h2
  exact m.all _ (List.mem_of_getElem? h)

def laidIn (l : List UInt8) (off : Nat) (b : List UInt8) : List UInt8 := if off + b.length ≤ l.length then laid l off b else l

theorem laidIn_len (l : List UInt8) (off : Nat) (b : List UInt8) : (laidIn l off b).length = l.length := by
  unfold laidIn; split
  · exact laid_len l off b (by assumption)
  · rfl

/-- bytes written into a unit -/
def Mm.wr (m : Mm) (u off : Nat) (b : List UInt8) : Mm :=
  { m with us := m.us.modify (u - 1) (fun p => (p.1, laidIn p.2 off b)), len := by simp [m.len], all := (fun q hq => by
      obtain ⟨i, hi⟩ := List.mem_iff_getElem?.1 hq
      rw [List.getElem?_modify] at hi
      cases hp : m.us[i]? with
      | none => rw [hp] at hi; simp at hi
      | some p =>
        rw [hp] at hi
        have hl := m.all p (List.mem_of_getElem? hp)
        simp at hi
        split at hi
        · rw [← hi]; simp [laidIn_len, hl]
        · rw [← hi]; exact hl) }

theorem Mm.wr_put (m : Mm) (u off : Nat) (b : List UInt8) (p : Nat × List UInt8) (hp : m.us[u - 1]? = some p) (hn : off + b.length ≤ 512) (h : (laid p.2 off b).length = 512) :
    m.wr u off b = m.put (u - 1) (p.1, laid p.2 off b) h := by
  have hl := m.all p (List.mem_of_getElem? hp)
  obtain ⟨hlt, he⟩ := List.getElem?_eq_some_iff.1 hp
  unfold Mm.wr Mm.put
  congr 1
  apply List.ext_getElem?
  intro j
  rw [List.getElem?_modify, List.getElem?_set]
  by_cases e : u - 1 = j
  · subst e
    simp [hlt, he, laidIn, hl, hn]
  · simp [e]

theorem Mm.wr_at (m : Mm) (u off : Nat) (b : List UInt8) (v : Nat) (hu1 : 1 ≤ u) (hv1 : 1 ≤ v) : (m.wr u off b).at_ v = if v = u then laidIn (m.at_ u) off b else m.at_ v := by
  unfold Mm.at_ Mm.wr
  simp only [List.getElem?_modify]
  by_cases e : v = u
  · subst e
    simp
    cases m.us[v - 1]? with
    | none => simp [laidIn]; try (intro h; simp [laid]; try omega)
    | some p => simp
  · have : ¬ (u - 1 = v - 1) := by omega
    simp [e, this]

theorem mem_Read (m : Mm) (u off n : Nat) (hu : 1 ≤ u) (hu2 : u ≤ 64) (ho : off < 512) (hn : off + n ≤ 512) :
    Spec Tryz.prog 61 [ptr m.mb 0, I u, I off, I n] m.chs
      (fun v A => ∃ s : SL encY 1, s.xs = ((m.at_ u).drop off).take n ∧ v = .tuple #[s.val, B true] ∧ A = s.ch 5 :: m.chs) := by
  obtain ⟨bk, hp⟩ := m.get u hu hu2
  exact phys_Read m u off n _ hu hp ho hn

theorem mem_Write (m : Mm) (u off : Nat) (bb bo bc E0 : Nat) (cells : List Value) (b : List UInt8) (hu : 1 ≤ u) (hu2 : u ≤ 64) (ho : off < 512) (hn : off + b.length ≤ 512)
    (hs : Bytes cells bo b) (hl : bo + b.length ≤ cells.length) :
    Spec Tryz.prog 48 [ptr m.mb 0, I u, I off, sl bb bo b.length bc] (m.chs ++ [blk bb E0 cells])
      (fun v A => v = B true ∧ A = (m.wr u off b).chs ++ [blk bb E0 cells]) := by
  obtain ⟨bk, hp⟩ := m.get u hu hu2
  have hlen : (laid (m.at_ u) off b).length = 512 := by rw [laid_len _ _ _ (by rw [m.at_len u hu hu2]; exact hn), m.at_len u hu hu2]
  rw [m.wr_put u off b _ hp hn hlen]
  exact phys_Write m u off _ bb bo bc E0 cells b hu hp ho hn hs hl hlen

theorem mem_Bytes (m : Mm) (u : Nat) (hu : 1 ≤ u) (hu2 : u ≤ 64) :
    Spec Tryz.prog 64 [ptr m.mb 0, I u] m.chs (fun v A => ∃ s : SL encY 1, s.xs = m.at_ u ∧ v = s.val ∧ A = s.ch 5 :: m.chs) := by
  have hr := mem_Read m u 0 512 hu hu2 (by omega) (by omega)
  refine Spec.of Tryz.func64 rfl Tryz.call64 rfl (fun R => ?_)
  refine WS.seq ?_
  refine WS.region ?_
  refine WL.v (V.assign rfl) rfl ?_
  refine WL.done ?_
  refine WS.seq ?_
  refine WS.region ?_
  refine WL.v (V.move rfl) rfl ?_
  refine WL.v (V.move rfl) rfl ?_
  refine WL.call hr [0, 0, 0] rfl rfl rfl ?_
  rintro _ _ ⟨s, hs, rfl, rfl⟩
  refine WL.v (V.move rfl) rfl ?_
  refine WL.v (V.extractL rfl rfl) rfl ?_
  refine WL.v (V.extractL rfl rfl) rfl ?_
  refine WL.v (V.assign rfl) rfl ?_
  refine WL.v (V.assign rfl) rfl ?_
  refine WL.done ?_
  refine WS.seq ?_
  refine WS.region ?_
  refine WL.v (V.move rfl) rfl ?_
  refine WL.v (V.assign rfl) rfl ?_
  refine WL.done ?_
  refine WS.ret rfl ?_
  refine ⟨s, ?_, rfl, rfl⟩
  rw [hs, List.drop_zero, List.take_of_length_le (by rw [m.at_len u hu hu2]; omega)]

/-! ## rings -/

structure Cqe where
  tag : UInt32
  res : Int
  val : UInt32
  seq : UInt32
deriving DecidableEq

abbrev I32 (z : Int) : Value := .int .i32 z
def encC (c : Cqe) : List Value := [U c.tag, I32 c.res, U c.val, U c.seq]
instance : Enc encC 4 := ⟨fun _ => rfl, fun _ => rfl, by omega⟩

structure Rg where
  rb : Nat
  sq : Nat
  cq : Nat
  sb : Nat
  cb : Nat
  hd : UInt32
  tl : UInt32
  over : SL encC 4
  sq1 : 1 ≤ sq
  sq2 : sq ≤ 64
  cq1 : 1 ≤ cq
  cq2 : cq ≤ 64
  sb3 : sb ≤ 3
  cb4 : cb ≤ 4

def Rg.cells (r : Rg) (mb : Nat) : List Value := [ptr mb 0, I r.sq, I r.cq, I r.sb, I r.cb, U r.hd, U r.tl, r.over.val]
abbrev Rg.blk (r : Rg) (mb : Nat) : Chunk := Sep.blk r.rb 341 (r.cells mb)

def Mm.word (m : Mm) (u a : Nat) : UInt32 := u32At (m.at_ u) a

theorem u32At_drop (l : List UInt8) (a : Nat) (h : a + 4 ≤ l.length) : u32At ((l.drop a).take 4) 0 = u32At l a := by
  unfold u32At
  simp only [leF]
  have e : ∀ k, k < 4 → ((l.drop a).take 4).getD (0 + k) 0 = l.getD (a + k) 0 := by
    intro k hk
    simp only [List.getD_eq_getElem?_getD, Nat.zero_add]
    rw [List.getElem?_take_of_lt hk, List.getElem?_drop]
  rw [e 0 (by omega), e 1 (by omega), e 2 (by omega), e 3 (by omega)]

theorem ring_word (m : Mm) (r : Rg) (u a : Nat) (hu : 1 ≤ u) (hu2 : u ≤ 64) (ha : a + 4 ≤ 512) :
    Spec Tryz.prog 195 [ptr r.rb 0, I u, I a] (r.blk m.mb :: m.chs) (fun v A => v = U (m.word u a) ∧ A = r.blk m.mb :: m.chs) := by
  refine Spec.of Tryz.func195 rfl Tryz.call195 rfl (fun R => ?_)
  refine WS.seq ?_
  refine WS.region ?_
  refine WL.v (V.assign rfl) rfl ?_
  refine WL.done ?_
  refine WS.seq ?_
  refine WS.region ?_
  refine WL.v (V.move rfl) rfl ?_
  refine WL.v (V.nilCheck rfl) rfl ?_
  refine WL.v (V.fieldAddr rfl) rfl ?_
  refine WL.r (V.load1 0 rfl rfl rfl) rfl ?_
  refine WL.v (V.move rfl) rfl ?_
  refine WL.v (V.move rfl) rfl ?_
  refine WL.call (mem_Read m u a 4 hu hu2 (by omega) (by omega)) [1, 1, 1] rfl rfl rfl ?_
  rintro _ _ ⟨⟨xs, sb, cap, junk, hnil, hfit⟩, hs, rfl, rfl⟩
  simp only at hs
  have hl := m.at_len u hu hu2
  have hxl : xs.length = 4 := by rw [hs]; simp [hl]; omega
  cases sb with
  | none => have := hnil rfl; subst this; simp at hxl
  | some sb =>
    refine WL.v (V.move rfl) rfl ?_
    refine WL.v (V.extractL rfl rfl) rfl ?_
    refine WL.v (V.extractL rfl rfl) rfl ?_
    refine WL.v (V.assign rfl) rfl ?_
    refine WL.v (V.assign rfl) rfl ?_
    refine WL.done ?_
    refine WS.seq ?_
    refine WS.region ?_
    refine WL.v (V.move rfl) rfl ?_
    have hU := word_U32 sb 0 cap 5 (flat encY xs ++ junk) xs 0 (by omega) (by omega) (Bytes.row xs junk)
    refine WL.call hU [0] rfl rfl rfl ?_
    rintro _ _ ⟨rfl, rfl⟩
    refine WL.v (V.assign rfl) rfl ?_
    refine WL.done ?_
    refine WS.pick [4, 1, 1, 1] rfl ?_
    refine WS.ret rfl ?_
    refine ⟨?_, rfl⟩
    rw [hs, u32At_drop _ _ (by omega)]
    rfl
theorem shl_one (k : Nat) (h : k ≤ 8) : IntKind.u32.wrap (1 * 2 ^ (min (k : Int).toNat IntKind.u32.bits)) = ((2 ^ k : Nat) : Int) := by
  simp only [wrap_u32, IntKind.bits]
  have : k = 0 ∨ k = 1 ∨ k = 2 ∨ k = 3 ∨ k = 4 ∨ k = 5 ∨ k = 6 ∨ k = 7 ∨ k = 8 := by omega
  rcases this with rfl | rfl | rfl | rfl | rfl | rfl | rfl | rfl | rfl <;> decide

def Rg.dist (r : Rg) (m : Mm) : UInt32 := m.word r.sq 4 - r.hd
def Rg.used (r : Rg) (m : Mm) : UInt32 := r.tl - m.word r.cq 0
/-- how many entries there are -/
def Rg.waiting (r : Rg) (m : Mm) : Option Nat := if (r.dist m).toNat ≤ 2 ^ r.sb then some (r.dist m).toNat else none
/-- how much room for completions there is -/
def Rg.room (r : Rg) (m : Mm) : Option Nat := if (r.used m).toNat ≤ 2 ^ r.cb then some (2 ^ r.cb - (r.used m).toNat) else none
def retN (o : Option Nat) : Value := .tuple #[I ((o.getD 0 : Nat) : Int), B o.isSome]

theorem ring_Waiting (m : Mm) (r : Rg) :
    Spec Tryz.prog 57 [ptr r.rb 0] (r.blk m.mb :: m.chs) (fun v A => v = retN (r.waiting m) ∧ A = r.blk m.mb :: m.chs) := by
  have hsb := r.sb3
  have hD := (r.dist m).toNat_lt
  have hw := ring_word m r r.sq 4 r.sq1 r.sq2 (by omega)
  have hdist := word_Dist (m.word r.sq 4) r.hd
  refine Spec.of Tryz.func57 rfl Tryz.call57 rfl (fun R => ?_)
  refine WS.seq ?_
  refine WS.region ?_
  refine WL.v (V.assign rfl) rfl ?_
  refine WL.v (V.assign rfl) rfl ?_
  refine WL.done ?_
  refine WS.seq ?_
  refine WS.regionD [r.blk m.mb] Tryz.mixed rfl ?_
  refine WH.pick rfl ?_
  refine WHT.v (V.move rfl) rfl rfl rfl rfl ?_
  refine WH.pick rfl ?_
  refine WHT.v (V.move rfl) rfl rfl rfl rfl ?_
  refine WH.pick rfl ?_
  refine WHT.v (V.nilCheck rfl) rfl rfl rfl rfl ?_
  refine WH.pick rfl ?_
  refine WHT.v (V.fieldAddr rfl) rfl rfl rfl rfl ?_
  refine WH.pick rfl ?_
  refine WHT.r (V.load1 0 rfl rfl rfl) rfl rfl rfl rfl rfl ?_
  refine WH.pick rfl ?_
  refine WHT.v (V.move rfl) rfl rfl rfl rfl ?_
  refine WH.pick rfl ?_
  refine WHT.v (V.nilCheck rfl) rfl rfl rfl rfl ?_
  refine WH.pick rfl ?_
  refine WHT.v (V.fieldAddr rfl) rfl rfl rfl rfl ?_
  refine WH.pick rfl ?_
  refine WHT.rh (V.load1 0 rfl rfl rfl) rfl (by simp) rfl rfl rfl rfl ?_
  refine WH.pick rfl ?_
  refine WHT.v (V.move rfl) rfl rfl rfl rfl ?_
  refine WH.pick rfl ?_
  refine WHT.v (V.nilCheck rfl) rfl rfl rfl rfl ?_
  refine WH.pick rfl ?_
  refine WHT.v (V.fieldAddr rfl) rfl rfl rfl rfl ?_
  refine WH.pick rfl ?_
  refine WHT.rh (V.load1 0 rfl rfl rfl) rfl (by simp) rfl rfl rfl rfl ?_
  refine WH.pick rfl ?_
  refine WHT.v (V.shl rfl rfl (by omega)) rfl rfl rfl rfl ?_
  refine WH.big rfl rfl rfl ?_; intro _ _
  refine WL.call hw [0, 0, 0, 0] rfl rfl rfl ?_
  rintro _ _ ⟨rfl, rfl⟩
  refine WL.nextH (ok := by assumption) (hns := by assumption) (by simp) ?_
  refine WH.big rfl rfl rfl ?_; intro _ _
  refine WL.call hdist [] rfl rfl rfl ?_
  rintro _ _ ⟨rfl, rfl⟩
  change WL _ _ _ _ _ _ ((_, U (r.dist m)) :: _) _
  refine WL.nextH (ok := by assumption) (hns := by assumption) (by simp) ?_
  refine WH.pick rfl ?_
  refine WHT.v (V.assign rfl) rfl rfl rfl rfl ?_
  refine WH.pick rfl ?_
  refine WHT.v (V.assign rfl) rfl rfl rfl rfl ?_
  refine WH.done ?_
  refine WS.seq ?_
  refine WS.seq ?_
  refine WS.region ?_
  refine WL.v (V.move rfl) rfl ?_
  refine WL.v (V.move rfl) rfl ?_
  refine WL.v (V.gt rfl rfl) rfl ?_
  refine WL.done ?_
  (refine WS.condD rfl ?_ ?_) <;> intro h_ <;> try (exfalso; omega)
  refine WS.seq ?_
  refine WS.region ?_
  refine WL.v (V.assign rfl) rfl ?_
  refine WL.v (V.assign rfl) rfl ?_
  refine WL.done ?_
  rotate_left
  refine WS.skip ?_
  refine WS.seq ?_
  refine WS.region ?_
  refine WL.v (V.move rfl) rfl ?_
  refine WL.v (V.conv rfl) rfl ?_
  refine WL.v (V.assign rfl) rfl ?_
  refine WL.v (V.assign rfl) rfl ?_
  refine WL.done ?_
  rotate_left
  all_goals rw [shl_one _ (by omega)] at h_
  · refine WS.ret rfl ?_
    refine ⟨?_, rfl⟩
    have : ¬ (r.dist m).toNat ≤ 2 ^ r.sb := by omega
    simp only [Rg.waiting, if_neg this]
    rfl
  · refine WS.ret rfl ?_
    refine ⟨?_, rfl⟩
    have : (r.dist m).toNat ≤ 2 ^ r.sb := by omega
    have e : IntKind.i64.wrap ((r.dist m).toNat : Int) = (r.dist m).toNat := fits_i64 (by omega) (by omega)
    simp only [Rg.waiting, if_pos this, retV, e]
    rfl

theorem ring_Room (m : Mm) (r : Rg) :
    Spec Tryz.prog 60 [ptr r.rb 0] (r.blk m.mb :: m.chs) (fun v A => v = retN (r.room m) ∧ A = r.blk m.mb :: m.chs) := by
  have hcb := r.cb4
  have hp : 2 ^ r.cb ≤ 16 := by
    have := Nat.pow_le_pow_right (n := 2) (by omega) hcb
    simpa using this
  have hD := (r.used m).toNat_lt
  have hw := ring_word m r r.cq 0 r.cq1 r.cq2 (by omega)
  have hdist := word_Dist r.tl (m.word r.cq 0)
  refine Spec.of Tryz.func60 rfl Tryz.call60 rfl (fun R => ?_)
  refine WS.seq ?_
  refine WS.region ?_
  refine WL.v (V.assign rfl) rfl ?_
  refine WL.v (V.assign rfl) rfl ?_
  refine WL.done ?_
  refine WS.seq ?_
  refine WS.regionD [r.blk m.mb] Tryz.mixed rfl ?_
  refine WH.pick rfl ?_
  refine WHT.v (V.move rfl) rfl rfl rfl rfl ?_
  refine WH.pick rfl ?_
  refine WHT.v (V.nilCheck rfl) rfl rfl rfl rfl ?_
  refine WH.pick rfl ?_
  refine WHT.v (V.fieldAddr rfl) rfl rfl rfl rfl ?_
  refine WH.pick rfl ?_
  refine WHT.rh (V.load1 0 rfl rfl rfl) rfl (by simp) rfl rfl rfl rfl ?_
  refine WH.pick rfl ?_
  refine WHT.v (V.move rfl) rfl rfl rfl rfl ?_
  refine WH.pick rfl ?_
  refine WHT.v (V.move rfl) rfl rfl rfl rfl ?_
  refine WH.pick rfl ?_
  refine WHT.v (V.nilCheck rfl) rfl rfl rfl rfl ?_
  refine WH.pick rfl ?_
  refine WHT.v (V.fieldAddr rfl) rfl rfl rfl rfl ?_
  refine WH.pick rfl ?_
  refine WHT.r (V.load1 0 rfl rfl rfl) rfl rfl rfl rfl rfl ?_
  refine WH.pick rfl ?_
  refine WHT.v (V.move rfl) rfl rfl rfl rfl ?_
  refine WH.pick rfl ?_
  refine WHT.v (V.nilCheck rfl) rfl rfl rfl rfl ?_
  refine WH.pick rfl ?_
  refine WHT.v (V.fieldAddr rfl) rfl rfl rfl rfl ?_
  refine WH.pick rfl ?_
  refine WHT.rh (V.load1 0 rfl rfl rfl) rfl (by simp) rfl rfl rfl rfl ?_
  refine WH.pick rfl ?_
  refine WHT.v (V.shl rfl rfl (by omega)) rfl rfl rfl rfl ?_
  refine WH.big rfl rfl rfl ?_; intro _ _
  refine WL.call hw [0, 0, 0, 0] rfl rfl rfl ?_
  rintro _ _ ⟨rfl, rfl⟩
  refine WL.nextH (ok := by assumption) (hns := by assumption) (by simp) ?_
  refine WH.big rfl rfl rfl ?_; intro _ _
  refine WL.call hdist [] rfl rfl rfl ?_
  rintro _ _ ⟨rfl, rfl⟩
  change WL _ _ _ _ _ _ ((_, U (r.used m)) :: _) _
  refine WL.nextH (ok := by assumption) (hns := by assumption) (by simp) ?_
  refine WH.pick rfl ?_
  refine WHT.v (V.assign rfl) rfl rfl rfl rfl ?_
  refine WH.pick rfl ?_
  refine WHT.v (V.assign rfl) rfl rfl rfl rfl ?_
  refine WH.done ?_
  refine WS.seq ?_
  refine WS.seq ?_
  refine WS.region ?_
  refine WL.v (V.move rfl) rfl ?_
  refine WL.v (V.move rfl) rfl ?_
  refine WL.v (V.gt rfl rfl) rfl ?_
  refine WL.done ?_
  (refine WS.condD rfl ?_ ?_) <;> intro h_ <;> try (exfalso; omega)
  refine WS.seq ?_
  refine WS.region ?_
  refine WL.v (V.assign rfl) rfl ?_
  refine WL.v (V.assign rfl) rfl ?_
  refine WL.done ?_
  rotate_left
  refine WS.skip ?_
  refine WS.seq ?_
  refine WS.region ?_
  refine WL.v (V.move rfl) rfl ?_
  refine WL.v (V.move rfl) rfl ?_
  rotate_left
  all_goals try rw [shl_one _ (by omega)] at h_
  · refine WS.ret rfl ?_
    refine ⟨?_, rfl⟩
    have : ¬ (r.used m).toNat ≤ 2 ^ r.cb := by omega
    simp only [Rg.room, if_neg this]
    rfl
  · rw [shl_one _ (by omega)]
    refine WL.v (V.subw rfl rfl) rfl ?_
    refine WL.v (V.conv rfl) rfl ?_
    refine WL.v (V.assign rfl) rfl ?_
    refine WL.v (V.assign rfl) rfl ?_
    refine WL.done ?_
    refine WS.ret rfl ?_
    refine ⟨?_, rfl⟩
    have : (r.used m).toNat ≤ 2 ^ r.cb := by omega
    have e : IntKind.i64.wrap (IntKind.u32.wrap (((2 ^ r.cb : Nat) : Int) - ((r.used m).toNat : Int))) = ((2 ^ r.cb - (r.used m).toNat : Nat) : Int) := by
      have e1 : IntKind.u32.wrap (((2 ^ r.cb : Nat) : Int) - ((r.used m).toNat : Int)) = ((2 ^ r.cb - (r.used m).toNat : Nat) : Int) := by simp only [wrap_u32]; omega
      rw [e1]
      exact fits_i64 (by omega) (by omega)
    simp only [Rg.room, if_pos this, retV, e]
    rfl

theorem ring_Valid (m : Mm) (r : Rg) :
    Spec Tryz.prog 188 [ptr r.rb 0] (r.blk m.mb :: m.chs) (fun v A => v = B ((r.waiting m).isSome && (r.room m).isSome) ∧ A = r.blk m.mb :: m.chs) := by
  refine Spec.of Tryz.func188 rfl Tryz.call188 rfl (fun R => ?_)
  refine WS.seq ?_
  refine WS.region ?_
  refine WL.v (V.assign rfl) rfl ?_
  refine WL.done ?_
  refine WS.seq ?_
  refine WS.region ?_
  refine WL.v (V.move rfl) rfl ?_
  refine WL.call (ring_Waiting m r) [0, 0, 0, 0] rfl rfl rfl ?_
  rintro _ _ ⟨rfl, rfl⟩
  refine WL.v (V.move rfl) rfl ?_
  refine WL.v (V.extractL rfl rfl) rfl ?_
  refine WL.v (V.extractL rfl rfl) rfl ?_
  refine WL.v (V.assign rfl) rfl ?_
  refine WL.v (V.assign rfl) rfl ?_
  refine WL.done ?_
  refine WS.seq ?_
  refine WS.region ?_
  refine WL.v (V.move rfl) rfl ?_
  refine WL.call (ring_Room m r) [0, 0, 0, 0] rfl rfl rfl ?_
  rintro _ _ ⟨rfl, rfl⟩
  cases hW : (r.waiting m).isSome
  · refine WL.v (V.move rfl) rfl ?_
    refine WL.v (V.extractL rfl rfl) rfl ?_
    refine WL.v (V.extractL rfl rfl) rfl ?_
    refine WL.v (V.assign rfl) rfl ?_
    refine WL.v (V.assign rfl) rfl ?_
    refine WL.done ?_
    refine WS.seq ?_
    refine WS.region ?_
    refine WL.v (V.move rfl) rfl ?_
    refine WL.v (V.move rfl) rfl ?_
    refine WL.gn2 rfl rfl rfl rfl ?_
    refine WL.v (V.pickF rfl rfl) rfl ?_
    refine WL.v (V.assign rfl) rfl ?_
    refine WL.done ?_
    refine WS.ret rfl ?_
    exact ⟨rfl, rfl⟩
  · refine WL.v (V.move rfl) rfl ?_
    refine WL.v (V.extractL rfl rfl) rfl ?_
    refine WL.v (V.extractL rfl rfl) rfl ?_
    refine WL.v (V.assign rfl) rfl ?_
    refine WL.v (V.assign rfl) rfl ?_
    refine WL.done ?_
    refine WS.seq ?_
    refine WS.region ?_
    refine WL.v (V.move rfl) rfl ?_
    refine WL.v (V.move rfl) rfl ?_
    refine WL.gy rfl rfl ?_
    refine WL.v (V.move rfl) rfl ?_
    refine WL.v (V.pickT rfl rfl) rfl ?_
    refine WL.v (V.assign rfl) rfl ?_
    refine WL.done ?_
    refine WS.ret rfl ?_
    exact ⟨rfl, rfl⟩

/-- a word's bytes -/
def le4 (n : UInt32) : List UInt8 := put32 [0, 0, 0, 0] 0 n
theorem le4_len (n : UInt32) : (le4 n).length = 4 := by simp [le4, put32, putF_len]

theorem ring_puts (m : Mm) (r : Rg) (u a : Nat) (n : UInt32) (hu : 1 ≤ u) (hu2 : u ≤ 64) (ha : a + 4 ≤ 512) :
    Spec Tryz.prog 353 [ptr r.rb 0, I u, I a, U n] (r.blk m.mb :: m.chs) (fun v A => A = r.blk m.mb :: (m.wr u a (le4 n)).chs) := by
  refine Spec.of Tryz.func353 rfl Tryz.call353 rfl (fun R => ?_)
  refine WS.regionD [r.blk m.mb] Tryz.mixed rfl ?_
  refine WH.pick rfl ?_
  refine WHT.v (V.move rfl) rfl rfl rfl rfl ?_
  refine WH.pick rfl ?_
  refine WHT.v (V.nilCheck rfl) rfl rfl rfl rfl ?_
  refine WH.pick rfl ?_
  refine WHT.v (V.fieldAddr rfl) rfl rfl rfl rfl ?_
  refine WH.pick rfl ?_
  refine WHT.rh (V.load1 0 rfl rfl rfl) rfl (by simp) rfl rfl rfl rfl ?_
  refine WH.pick rfl ?_
  refine WHT.v (V.move rfl) rfl rfl rfl rfl ?_
  refine WH.pick rfl ?_
  refine WHT.v (V.move rfl) rfl rfl rfl rfl ?_
  refine WH.pick rfl ?_
  refine WHT.v (V.move rfl) rfl rfl rfl rfl ?_
  refine WH.big rfl rfl rfl ?_; intro _ _
  refine WL.makeSlice1 (m := 4) rfl rfl rfl (by omega) (by omega) rfl ?_
  intro zb
  refine WL.nextH (ok := by assumption) (hns := by assumption) (by simp) ?_
  refine WH.big rfl rfl rfl ?_; intro _ _
  refine WL.call (word_Put32 zb 0 4 5 (List.replicate 4 (.int .u8 0)) [0, 0, 0, 0] 0 n (by simp) (Bytes.row [0, 0, 0, 0] []) (by simp) (by simp)) [0] rfl rfl rfl ?_
  rintro _ _ ⟨⟨xs, sb, cap, junk, hnil, hfit⟩, hs, rfl, rfl⟩
  simp only at hs
  have hxl : xs.length = 4 := by rw [hs]; exact le4_len n
  cases sb with
  | none => have := hnil rfl; subst this; simp at hxl
  | some sb =>
    refine WL.nextH (ok := by assumption) (hns := by assumption) (by simp) ?_
    refine WH.big rfl rfl rfl ?_; intro _ _
    have hwr := mem_Write m u a sb 0 cap 5 (flat encY xs ++ junk) xs hu hu2 (by omega) (by omega) (Bytes.row xs junk) (by simp [flat_length])
    refine WL.call hwr [3, 3, 3, 0] rfl rfl rfl ?_
    rintro _ _ ⟨rfl, rfl⟩
    refine WL.nextH (ok := by assumption) (hns := by assumption) (by simp) ?_
    refine WH.done ?_
    refine WS.pick [5, 0, 0, 0] rfl ?_
    refine WS.fin rfl ?_
    rw [hs]
    rfl

theorem ring_Advance (m : Mm) (r : Rg) (n : Nat) (hn : n ≤ 100000) :
    Spec Tryz.prog 211 [ptr r.rb 0, I n] (r.blk m.mb :: m.chs)
      (fun v A => A = ({ r with hd := r.hd + UInt32.ofNat n } : Rg).blk m.mb :: (m.wr r.sq 0 (le4 (r.hd + UInt32.ofNat n))).chs) := by
  have e : IntKind.u32.wrap ((r.hd.toNat : Int) + IntKind.u32.wrap n) = ((r.hd + UInt32.ofNat n).toNat : Int) := by
    simp only [wrap_u32, UInt32.toNat_add, UInt32.toNat_ofNat']
    omega
  have hp := ring_puts m { r with hd := r.hd + UInt32.ofNat n } r.sq 0 (r.hd + UInt32.ofNat n) r.sq1 r.sq2 (by omega)
  refine Spec.of Tryz.func211 rfl Tryz.call211 rfl (fun R => ?_)
  refine WS.seq ?_
  refine WS.region ?_
  refine WL.v (V.move rfl) rfl ?_
  refine WL.v (V.nilCheck rfl) rfl ?_
  refine WL.v (V.fieldAddr rfl) rfl ?_
  refine WL.r (V.load1 0 rfl rfl rfl) rfl ?_
  refine WL.v (V.move rfl) rfl ?_
  refine WL.v (V.conv rfl) rfl ?_
  refine WL.v (V.addw rfl rfl) rfl ?_
  rw [e]
  refine WL.v (V.nilCheck rfl) rfl ?_
  refine WL.v (V.fieldAddr rfl) rfl ?_
  refine WL.store 0 rfl rfl rfl rfl rfl rfl ?_
  refine WL.done ?_
  refine WS.regionD [({ r with hd := r.hd + UInt32.ofNat n } : Rg).blk m.mb] Tryz.mixed rfl ?_
  refine WH.pick rfl ?_
  refine WHT.v (V.move rfl) rfl rfl rfl rfl ?_
  refine WH.pick rfl ?_
  refine WHT.v (V.move rfl) rfl rfl rfl rfl ?_
  refine WH.pick rfl ?_
  refine WHT.v (V.nilCheck rfl) rfl rfl rfl rfl ?_
  refine WH.pick rfl ?_
  refine WHT.v (V.fieldAddr rfl) rfl rfl rfl rfl ?_
  refine WH.pick rfl ?_
  refine WHT.r (V.load1 0 rfl rfl rfl) rfl rfl rfl rfl rfl ?_
  refine WH.pick rfl ?_
  refine WHT.v (V.move rfl) rfl rfl rfl rfl ?_
  refine WH.pick rfl ?_
  refine WHT.v (V.nilCheck rfl) rfl rfl rfl rfl ?_
  refine WH.pick rfl ?_
  refine WHT.v (V.fieldAddr rfl) rfl rfl rfl rfl ?_
  refine WH.pick rfl ?_
  refine WHT.r (V.load1 0 rfl rfl rfl) rfl rfl rfl rfl rfl ?_
  refine WH.big rfl rfl rfl ?_; intro _ _
  refine WL.call hp [0, 0, 0, 0] rfl rfl rfl ?_
  rintro _ _ rfl
  refine WL.nextH (ok := by assumption) (hns := by assumption) (by simp) ?_
  refine WH.done ?_
  refine WS.fin rfl ?_
  rfl

theorem ring_Fetch (m : Mm) (r : Rg) (i : Nat) (hi : i ≤ 100000) :
    Spec Tryz.prog 210 [ptr r.rb 0, I i] (r.blk m.mb :: m.chs)
      (fun v A => ∃ s : SL encY 1, s.xs = ((m.at_ r.sq).drop (16 + (r.hd + UInt32.ofNat i).toNat % 2 ^ r.sb * 32)).take 32 ∧ v = s.val ∧ A = s.ch 5 :: r.blk m.mb :: m.chs) := by
  have e : IntKind.u32.wrap ((r.hd.toNat : Int) + IntKind.u32.wrap i) = ((r.hd + UInt32.ofNat i).toNat : Int) := by
    simp only [wrap_u32, UInt32.toNat_add, UInt32.toNat_ofNat']
    omega
  have hsb := r.sb3
  have hp : 2 ^ r.sb ≤ 8 := by
    have := Nat.pow_le_pow_right (n := 2) (by omega) hsb
    simpa using this
  have hm : (r.hd + UInt32.ofNat i).toNat % 2 ^ r.sb < 8 := by
    have := Nat.mod_lt (r.hd + UInt32.ofNat i).toNat (Nat.two_pow_pos r.sb)
    omega
  refine Spec.of Tryz.func210 rfl Tryz.call210 rfl (fun R => ?_)
  refine WS.seq ?_
  refine WS.region ?_
  refine WL.v (V.assign rfl) rfl ?_
  refine WL.done ?_
  refine WS.seq ?_
  refine WS.regionD [r.blk m.mb] Tryz.mixed rfl ?_
  refine WH.pick rfl ?_
  refine WHT.v (V.move rfl) rfl rfl rfl rfl ?_
  refine WH.pick rfl ?_
  refine WHT.v (V.nilCheck rfl) rfl rfl rfl rfl ?_
  refine WH.pick rfl ?_
  refine WHT.v (V.fieldAddr rfl) rfl rfl rfl rfl ?_
  refine WH.pick rfl ?_
  refine WHT.rh (V.load1 0 rfl rfl rfl) rfl (by simp) rfl rfl rfl rfl ?_
  refine WH.pick rfl ?_
  refine WHT.v (V.move rfl) rfl rfl rfl rfl ?_
  refine WH.pick rfl ?_
  refine WHT.v (V.nilCheck rfl) rfl rfl rfl rfl ?_
  refine WH.pick rfl ?_
  refine WHT.v (V.fieldAddr rfl) rfl rfl rfl rfl ?_
  refine WH.pick rfl ?_
  refine WHT.rh (V.load1 0 rfl rfl rfl) rfl (by simp) rfl rfl rfl rfl ?_
  refine WH.pick rfl ?_
  refine WHT.v (V.move rfl) rfl rfl rfl rfl ?_
  refine WH.pick rfl ?_
  refine WHT.v (V.nilCheck rfl) rfl rfl rfl rfl ?_
  refine WH.pick rfl ?_
  refine WHT.v (V.fieldAddr rfl) rfl rfl rfl rfl ?_
  refine WH.pick rfl ?_
  refine WHT.r (V.load1 0 rfl rfl rfl) rfl rfl rfl rfl rfl ?_
  refine WH.pick rfl ?_
  refine WHT.v (V.move rfl) rfl rfl rfl rfl ?_
  refine WH.pick rfl ?_
  refine WHT.v (V.conv rfl) rfl rfl rfl rfl ?_
  refine WH.pick rfl ?_
  refine WHT.v (V.addw rfl rfl) rfl rfl rfl rfl ?_
  rw [e]
  refine WH.pick rfl ?_
  refine WHT.v (V.move rfl) rfl rfl rfl rfl ?_
  refine WH.pick rfl ?_
  refine WHT.v (V.nilCheck rfl) rfl rfl rfl rfl ?_
  refine WH.pick rfl ?_
  refine WHT.v (V.fieldAddr rfl) rfl rfl rfl rfl ?_
  refine WH.pick rfl ?_
  refine WHT.r (V.load1 0 rfl rfl rfl) rfl rfl rfl rfl rfl ?_
  refine WH.big rfl rfl rfl ?_; intro _ _
  refine WL.call (ring_place (r.hd + UInt32.ofNat i) r.sb 32 (by omega) (by omega)) [] rfl rfl rfl ?_
  rintro _ _ ⟨rfl, rfl⟩
  refine WL.nextH (ok := by assumption) (hns := by assumption) (by simp) ?_
  refine WH.big rfl rfl rfl ?_; intro _ _
  refine WL.call (mem_Read m r.sq (16 + (r.hd + UInt32.ofNat i).toNat % 2 ^ r.sb * 32) 32 r.sq1 r.sq2 (by omega) (by omega)) [1, 1, 1] rfl rfl rfl ?_
  rintro _ _ ⟨s, hs, rfl, rfl⟩
  refine WL.nextH (ok := by assumption) (hns := by assumption) (by simp) ?_
  refine WH.pick rfl ?_
  refine WHT.v (V.move rfl) rfl rfl rfl rfl ?_
  refine WH.pick rfl ?_
  refine WHT.v (V.extractL rfl rfl) rfl rfl rfl rfl ?_
  refine WH.pick rfl ?_
  refine WHT.v (V.extractL rfl rfl) rfl rfl rfl rfl ?_
  refine WH.pick rfl ?_
  refine WHT.v (V.assign rfl) rfl rfl rfl rfl ?_
  refine WH.pick rfl ?_
  refine WHT.v (V.assign rfl) rfl rfl rfl rfl ?_
  refine WH.done ?_
  refine WS.seq ?_
  refine WS.region ?_
  refine WL.v (V.move rfl) rfl ?_
  refine WL.v (V.assign rfl) rfl ?_
  refine WL.done ?_
  refine WS.pick [0, 3, 0, 0, 0] rfl ?_
  refine WS.ret rfl ?_
  exact ⟨s, hs, rfl, rfl⟩
end Go.Proofs
