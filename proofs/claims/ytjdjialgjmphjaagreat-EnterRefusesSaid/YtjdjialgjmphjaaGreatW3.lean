/- Part of the proof: W3. -/
import Derived.Test.YtjdjialgjmphjaaGreatW2
set_option linter.all false
set_option maxRecDepth 100000
set_option maxHeartbeats 8000000
namespace Go.Proofs
open Go Go.Sep
attribute [local irreducible] WS WL WH WHT OpV OpR

/-! ## units of memory -/

structure Mm where
  mb : Nat
  lb : Nat
  cap : Nat
  junk : List Value
  us : List (Nat × List UInt8)
  len : us.length = 64
  all : ∀ p ∈ us, p.2.length = 512

def usC (us : List (Nat × List UInt8)) : Chunk := us.map fun p => (p.1, .cells (flat encY p.2).toArray 5 (0, 0))
def hdrs (us : List (Nat × List UInt8)) : List Value := us.map fun p => sl p.1 0 512 512

def Mm.chs (m : Mm) : List Chunk := [blk m.mb 415 [sl m.lb 0 64 m.cap], blk m.lb 57 (hdrs m.us ++ m.junk), usC m.us]

theorem usC_split (us : List (Nat × List UInt8)) (i : Nat) (p : Nat × List UInt8) (h : us[i]? = some p) :
    usC us = usC (us.take i) ++ (blk p.1 5 (flat encY p.2) ++ usC (us.drop (i + 1))) := by
  have h1 : us = us.take i ++ p :: us.drop (i + 1) := by
    obtain ⟨hlt, he⟩ := List.getElem?_eq_some_iff.1 h
    rw [← he]
    simp
  conv => lhs; rw [h1]
  simp [usC]

theorem hdrs_get (us : List (Nat × List UInt8)) (junk : List Value) (i : Nat) (p : Nat × List UInt8) (h : us[i]? = some p) : getN i 1 (hdrs us ++ junk) = some [sl p.1 0 512 512] := by
  have hlt := (List.getElem?_eq_some_iff.1 h).1
  refine getN_one _ _ _ ?_
  rw [List.getElem?_append_left (by simpa [hdrs] using hlt)]
  simp [hdrs, h]

theorem phys_part (m : Mm) (u off n : Nat) (p : Nat × List UInt8) (hu : 1 ≤ u) (hp : m.us[u - 1]? = some p) (ho : off < 512) (hn : off + n ≤ 512) :
    Spec Tryz.prog 186 [ptr m.mb 0, I u, I off, I n] m.chs (fun v A => v = .tuple #[sl p.1 off n (512 - off), B true] ∧ A = m.chs) := by
  have hlt : u - 1 < 64 := by rw [← m.len]; exact (List.getElem?_eq_some_iff.1 hp).1
  refine Spec.of Tryz.func186 rfl Tryz.call186 rfl (fun R => ?_)
  refine WS.seq ?_
  refine WS.region ?_
  refine WL.v (V.assign rfl) rfl ?_
  refine WL.v (V.assign rfl) rfl ?_
  refine WL.done ?_
  refine WS.seq ?_
  refine WS.seq ?_
  refine WS.region ?_
  refine WL.v (V.move rfl) rfl ?_
  refine WL.v (V.lt rfl rfl) rfl ?_
  refine WL.v (V.move rfl) rfl ?_
  (refine WL.gcaseD rfl rfl ?_ ?_) <;> intro h_ <;> try (exfalso; omega)
  refine WL.gy rfl rfl ?_
  refine WL.v (V.move rfl) rfl ?_
  refine WL.gy rfl rfl ?_
  refine WL.v (V.move rfl) rfl ?_
  refine WL.gy rfl rfl ?_
  refine WL.v (V.nilCheck rfl) rfl ?_
  refine WL.gy rfl rfl ?_
  refine WL.v (V.fieldAddr rfl) rfl ?_
  refine WL.gy rfl rfl ?_
  refine WL.r (V.load1 0 rfl rfl rfl) rfl ?_
  refine WL.gy rfl rfl ?_
  refine WL.v (V.lenS rfl) rfl ?_
  refine WL.gy rfl rfl ?_
  refine WL.v (V.gt rfl rfl) rfl ?_
  refine WL.v (V.pickF rfl rfl) rfl ?_
  refine WL.v (V.move rfl) rfl ?_
  (refine WL.gcaseD rfl rfl ?_ ?_) <;> intro h_ <;> try (exfalso; omega)
  refine WL.gy rfl rfl ?_
  refine WL.v (V.move rfl) rfl ?_
  refine WL.gy rfl rfl ?_
  refine WL.v (V.lt rfl rfl) rfl ?_
  refine WL.v (V.pickF rfl rfl) rfl ?_
  refine WL.v (V.move rfl) rfl ?_
  refine WL.gy rfl rfl ?_
  refine WL.v (V.move rfl) rfl ?_
  refine WL.gy rfl rfl ?_
  refine WL.v (V.lt rfl rfl) rfl ?_
  refine WL.v (V.pickF rfl rfl) rfl ?_
  refine WL.v (V.move rfl) rfl ?_
  refine WL.gy rfl rfl ?_
  refine WL.v (V.move rfl) rfl ?_
  refine WL.gy rfl rfl ?_
  refine WL.v (V.gt rfl rfl) rfl ?_
  refine WL.v (V.pickF rfl rfl) rfl ?_
  refine WL.v (V.move rfl) rfl ?_
  (refine WL.gcaseD rfl rfl ?_ ?_) <;> intro h_ <;> try (exfalso; omega)
  refine WL.gy rfl rfl ?_
  refine WL.v (V.move rfl) rfl ?_
  refine WL.gy rfl rfl ?_
  refine WL.v (V.move rfl) rfl ?_
  refine WL.gy rfl rfl ?_
  refine WL.v (V.sub rfl rfl (fits_i64 (by omega) (by omega))) rfl ?_
  refine WL.gy rfl rfl ?_
  refine WL.v (V.gt rfl rfl) rfl ?_
  refine WL.v (V.pickF rfl rfl) rfl ?_
  refine WL.done ?_
  (refine WS.condD rfl ?_ ?_) <;> intro h_ <;> try (exfalso; omega)
  refine WS.skip ?_
  refine WS.seq ?_
  refine WS.region ?_
  refine WL.v (V.move rfl) rfl ?_
  refine WL.v (V.nilCheck rfl) rfl ?_
  refine WL.v (V.fieldAddr rfl) rfl ?_
  refine WL.r (V.load1 0 rfl rfl rfl) rfl ?_
  refine WL.v (V.move rfl) rfl ?_
  refine WL.v (V.sub rfl rfl (fits_i64 (by omega) (by omega))) rfl ?_
  refine WL.v (V.indexAddr rfl rfl (by constructor <;> omega)) rfl ?_
  have hg : getN (0 + ((u : Int) - 1).toNat * 1) 1 (hdrs m.us ++ m.junk) = some [sl p.1 0 512 512] := by
    rw [show 0 + ((u : Int) - 1).toNat * 1 = u - 1 from by omega]
    exact hdrs_get _ _ _ _ hp
  refine WL.r (V.load1 1 rfl rfl hg) rfl ?_
  refine WL.v (V.move rfl) rfl ?_
  refine WL.v (V.move rfl) rfl ?_
  refine WL.v (V.move rfl) rfl ?_
  refine WL.v (V.add rfl rfl (fits_i64 (by omega) (by omega))) rfl ?_
  refine WL.v (V.slice (i := off) (j := off + n) rfl ⟨_, _, rfl, by omega, by omega⟩ ⟨_, _, rfl, by omega, by omega⟩ (by omega) (by omega)) rfl ?_
  rw [if_neg (show ¬ 512 = off from by omega)]
  refine WL.v (V.assign rfl) rfl ?_
  refine WL.v (V.assign rfl) rfl ?_
  refine WL.done ?_
  refine WS.ret rfl ?_
  refine ⟨?_, rfl⟩
  simp only [retV, sl, addr_add, Option.map_some]
  simp

theorem phys_part_no (m : Mm) (u off n : Int) (hno : ¬ (1 ≤ u ∧ u ≤ 64 ∧ 0 ≤ off ∧ 0 ≤ n ∧ off ≤ 512 ∧ n ≤ 512 - off)) (h1 : -1000000000000 ≤ off) (h2 : off ≤ 1000000000000) :
    Spec Tryz.prog 186 [ptr m.mb 0, I u, I off, I n] m.chs (fun v A => v = .tuple #[.slice none 0 0, B false] ∧ A = m.chs) := by
  refine Spec.of Tryz.func186 rfl Tryz.call186 rfl (fun R => ?_)
  refine WS.seq ?_
  refine WS.region ?_
  refine WL.v (V.assign rfl) rfl ?_
  refine WL.v (V.assign rfl) rfl ?_
  refine WL.done ?_
  refine WS.seq ?_
  refine WS.seq ?_
  refine WS.region ?_
  refine WL.v (V.move rfl) rfl ?_
  refine WL.v (V.lt rfl rfl) rfl ?_
  refine WL.v (V.move rfl) rfl ?_
  (refine WL.gcaseD rfl rfl ?_ ?_) <;> intro h_ <;> try (exfalso; omega)
  refine WL.gn2 rfl rfl rfl rfl ?_
  refine WL.gn2 rfl rfl rfl rfl ?_
  refine WL.gn2 rfl rfl rfl rfl ?_
  refine WL.gn2 rfl rfl rfl rfl ?_
  refine WL.gn2 rfl rfl rfl rfl ?_
  refine WL.gn2 rfl rfl rfl rfl ?_
  refine WL.gn2 rfl rfl rfl rfl ?_
  refine WL.v (V.pickT rfl rfl) rfl ?_
  refine WL.v (V.move rfl) rfl ?_
  refine WL.gn2 rfl rfl rfl rfl ?_
  refine WL.gn2 rfl rfl rfl rfl ?_
  refine WL.v (V.pickT rfl rfl) rfl ?_
  refine WL.v (V.move rfl) rfl ?_
  refine WL.gn2 rfl rfl rfl rfl ?_
  refine WL.gn2 rfl rfl rfl rfl ?_
  refine WL.v (V.pickT rfl rfl) rfl ?_
  refine WL.v (V.move rfl) rfl ?_
  refine WL.gn2 rfl rfl rfl rfl ?_
  refine WL.gn2 rfl rfl rfl rfl ?_
  refine WL.v (V.pickT rfl rfl) rfl ?_
  refine WL.v (V.move rfl) rfl ?_
  refine WL.gn2 rfl rfl rfl rfl ?_
  refine WL.gn2 rfl rfl rfl rfl ?_
  refine WL.gn2 rfl rfl rfl rfl ?_
  refine WL.gn2 rfl rfl rfl rfl ?_
  refine WL.v (V.pickT rfl rfl) rfl ?_
  refine WL.done ?_
  refine WS.condT rfl ?_
  refine WS.seq ?_
  refine WS.region ?_
  refine WL.v (V.assign rfl) rfl ?_
  refine WL.v (V.assign rfl) rfl ?_
  refine WL.done ?_
  rotate_left
  refine WL.gy rfl rfl ?_
  refine WL.v (V.move rfl) rfl ?_
  refine WL.gy rfl rfl ?_
  refine WL.v (V.move rfl) rfl ?_
  refine WL.gy rfl rfl ?_
  refine WL.v (V.nilCheck rfl) rfl ?_
  refine WL.gy rfl rfl ?_
  refine WL.v (V.fieldAddr rfl) rfl ?_
  refine WL.gy rfl rfl ?_
  refine WL.r (V.load1 0 rfl rfl rfl) rfl ?_
  refine WL.gy rfl rfl ?_
  refine WL.v (V.lenS rfl) rfl ?_
  refine WL.gy rfl rfl ?_
  refine WL.v (V.gt rfl rfl) rfl ?_
  refine WL.v (V.pickF rfl rfl) rfl ?_
  refine WL.v (V.move rfl) rfl ?_
  (refine WL.gcaseD rfl rfl ?_ ?_) <;> intro h_ <;> try (exfalso; omega)
  refine WL.gn2 rfl rfl rfl rfl ?_
  refine WL.gn2 rfl rfl rfl rfl ?_
  refine WL.v (V.pickT rfl rfl) rfl ?_
  refine WL.v (V.move rfl) rfl ?_
  refine WL.gn2 rfl rfl rfl rfl ?_
  refine WL.gn2 rfl rfl rfl rfl ?_
  refine WL.v (V.pickT rfl rfl) rfl ?_
  refine WL.v (V.move rfl) rfl ?_
  refine WL.gn2 rfl rfl rfl rfl ?_
  refine WL.gn2 rfl rfl rfl rfl ?_
  refine WL.v (V.pickT rfl rfl) rfl ?_
  refine WL.v (V.move rfl) rfl ?_
  refine WL.gn2 rfl rfl rfl rfl ?_
  refine WL.gn2 rfl rfl rfl rfl ?_
  refine WL.gn2 rfl rfl rfl rfl ?_
  refine WL.gn2 rfl rfl rfl rfl ?_
  refine WL.v (V.pickT rfl rfl) rfl ?_
  refine WL.done ?_
  refine WS.condT rfl ?_
  refine WS.seq ?_
  refine WS.region ?_
  refine WL.v (V.assign rfl) rfl ?_
  refine WL.v (V.assign rfl) rfl ?_
  refine WL.done ?_
  rotate_left
  refine WL.gy rfl rfl ?_
  refine WL.v (V.move rfl) rfl ?_
  refine WL.gy rfl rfl ?_
  refine WL.v (V.lt rfl rfl) rfl ?_
  refine WL.v (V.pickF rfl rfl) rfl ?_
  refine WL.v (V.move rfl) rfl ?_
  (refine WL.gcaseD rfl rfl ?_ ?_) <;> intro h_ <;> try (exfalso; omega)
  refine WL.gn2 rfl rfl rfl rfl ?_
  refine WL.gn2 rfl rfl rfl rfl ?_
  refine WL.v (V.pickT rfl rfl) rfl ?_
  refine WL.v (V.move rfl) rfl ?_
  refine WL.gn2 rfl rfl rfl rfl ?_
  refine WL.gn2 rfl rfl rfl rfl ?_
  refine WL.v (V.pickT rfl rfl) rfl ?_
  refine WL.v (V.move rfl) rfl ?_
  refine WL.gn2 rfl rfl rfl rfl ?_
  refine WL.gn2 rfl rfl rfl rfl ?_
  refine WL.gn2 rfl rfl rfl rfl ?_
  refine WL.gn2 rfl rfl rfl rfl ?_
  refine WL.v (V.pickT rfl rfl) rfl ?_
  refine WL.done ?_
  refine WS.condT rfl ?_
  refine WS.seq ?_
  refine WS.region ?_
  refine WL.v (V.assign rfl) rfl ?_
  refine WL.v (V.assign rfl) rfl ?_
  refine WL.done ?_
  rotate_left
  refine WL.gy rfl rfl ?_
  refine WL.v (V.move rfl) rfl ?_
  refine WL.gy rfl rfl ?_
  refine WL.v (V.lt rfl rfl) rfl ?_
  refine WL.v (V.pickF rfl rfl) rfl ?_
  refine WL.v (V.move rfl) rfl ?_
  (refine WL.gcaseD rfl rfl ?_ ?_) <;> intro h_ <;> try (exfalso; omega)
  refine WL.gn2 rfl rfl rfl rfl ?_
  refine WL.gn2 rfl rfl rfl rfl ?_
  refine WL.v (V.pickT rfl rfl) rfl ?_
  refine WL.v (V.move rfl) rfl ?_
  refine WL.gn2 rfl rfl rfl rfl ?_
  refine WL.gn2 rfl rfl rfl rfl ?_
  refine WL.gn2 rfl rfl rfl rfl ?_
  refine WL.gn2 rfl rfl rfl rfl ?_
  refine WL.v (V.pickT rfl rfl) rfl ?_
  refine WL.done ?_
  refine WS.condT rfl ?_
  refine WS.seq ?_
  refine WS.region ?_
  refine WL.v (V.assign rfl) rfl ?_
  refine WL.v (V.assign rfl) rfl ?_
  refine WL.done ?_
  rotate_left
  refine WL.gy rfl rfl ?_
  refine WL.v (V.move rfl) rfl ?_
  refine WL.gy rfl rfl ?_
  refine WL.v (V.gt rfl rfl) rfl ?_
  refine WL.v (V.pickF rfl rfl) rfl ?_
  refine WL.v (V.move rfl) rfl ?_
  (refine WL.gcaseD rfl rfl ?_ ?_) <;> intro h_ <;> try (exfalso; omega)
  refine WL.gn2 rfl rfl rfl rfl ?_
  refine WL.gn2 rfl rfl rfl rfl ?_
  refine WL.gn2 rfl rfl rfl rfl ?_
  refine WL.gn2 rfl rfl rfl rfl ?_
  refine WL.v (V.pickT rfl rfl) rfl ?_
  refine WL.done ?_
  refine WS.condT rfl ?_
  refine WS.seq ?_
  refine WS.region ?_
  refine WL.v (V.assign rfl) rfl ?_
  refine WL.v (V.assign rfl) rfl ?_
  refine WL.done ?_
  rotate_left
  refine WL.gy rfl rfl ?_
  refine WL.v (V.move rfl) rfl ?_
  refine WL.gy rfl rfl ?_
  refine WL.v (V.move rfl) rfl ?_
  refine WL.gy rfl rfl ?_
  refine WL.v (V.sub rfl rfl (fits_i64 (by omega) (by omega))) rfl ?_
  refine WL.gy rfl rfl ?_
  refine WL.v (V.gt rfl rfl) rfl ?_
  refine WL.v (V.pickF rfl rfl) rfl ?_
  refine WL.done ?_
  (refine WS.condD rfl ?_ ?_) <;> intro h_ <;> try (exfalso; omega)
  refine WS.seq ?_
  refine WS.region ?_
  refine WL.v (V.assign rfl) rfl ?_
  refine WL.v (V.assign rfl) rfl ?_
  refine WL.done ?_
  rotate_left
  all_goals first
    | (refine WS.ret rfl ?_; exact ⟨rfl, rfl⟩)
    | (exfalso; apply hno; refine ⟨?_, ?_, ?_, ?_, ?_, ?_⟩ <;> omega)

theorem chs_split (m : Mm) (u : Nat) (p : Nat × List UInt8) (hp : m.us[u - 1]? = some p) :
    [blk p.1 5 (flat encY p.2), blk m.mb 415 [sl m.lb 0 64 m.cap], blk m.lb 57 (hdrs m.us ++ m.junk), usC (m.us.take (u - 1)), usC (m.us.drop (u - 1 + 1))].flatten.Perm m.chs.flatten := by
  simp only [Mm.chs, List.flatten_cons, List.flatten_nil, List.append_nil]
  rw [usC_split m.us (u - 1) p hp]
  simp only [List.singleton_append]
  refine List.Perm.trans (List.Perm.swap _ _ _) ?_
  refine List.Perm.cons _ ?_
  refine List.Perm.trans (List.Perm.swap _ _ _) ?_
  refine List.Perm.cons _ ?_
  exact List.perm_middle.symm

/-- bytes of a unit, in new memory -/
theorem phys_Read (m : Mm) (u off n : Nat) (p : Nat × List UInt8) (hu : 1 ≤ u) (hp : m.us[u - 1]? = some p) (ho : off < 512) (hn : off + n ≤ 512) :
    Spec Tryz.prog 61 [ptr m.mb 0, I u, I off, I n] m.chs
      (fun v A => ∃ s : SL encY 1, s.xs = (p.2.drop off).take n ∧ v = .tuple #[s.val, B true] ∧ A = s.ch 5 :: m.chs) := by
  have hl : p.2.length = 512 := m.all p (List.mem_of_getElem? hp)
  refine Spec.of Tryz.func61 rfl Tryz.call61 rfl (fun R => ?_)
  refine WS.seq ?_
  refine WS.region ?_
  refine WL.v (V.assign rfl) rfl ?_
  refine WL.v (V.assign rfl) rfl ?_
  refine WL.done ?_
  refine WS.seq ?_
  refine WS.region ?_
  refine WL.v (V.move rfl) rfl ?_
  refine WL.v (V.move rfl) rfl ?_
  refine WL.v (V.move rfl) rfl ?_
  refine WL.v (V.move rfl) rfl ?_
  refine WL.call (phys_part m u off n p hu hp ho hn) [0, 0, 0] rfl rfl rfl ?_
  rintro _ _ ⟨rfl, rfl⟩
  refine WL.v (V.move rfl) rfl ?_
  refine WL.v (V.extractL rfl rfl) rfl ?_
  refine WL.v (V.extractL rfl rfl) rfl ?_
  refine WL.v (V.assign rfl) rfl ?_
  refine WL.v (V.assign rfl) rfl ?_
  refine WL.done ?_
  refine WS.seq ?_
  refine WS.region ?_
  refine WL.v (V.move rfl) rfl ?_
  refine WL.perm (chs_split m u p hp) ?_
  have hb : Bytes (flat encY p.2) off ((p.2.drop off).take n) := by
    refine bytes_of_drop (by simp [flat_length, hl]; omega) ?_
    have e : ∀ (l : List UInt8) (k : Nat), (flat encY l).drop k = flat encY (l.drop k) := fun l k => by rw [flat_encY, flat_encY, List.map_drop]
    have e2 : ∀ (l : List UInt8) (k : Nat), (flat encY l).take k = flat encY (l.take k) := fun l k => by rw [flat_encY, flat_encY, List.map_take]
    rw [e, e2]
    congr 1
    simp [hl]
  have hlen : ((p.2.drop off).take n).length = n := by simp [hl]; omega
  have hc := clone_bytes p.1 off (512 - off) 5 (flat encY p.2) ((p.2.drop off).take n) hb (by rw [hlen, flat_length, hl]; omega) (by omega)
  rw [hlen] at hc
  refine WL.call hc [0] rfl rfl rfl ?_
  rintro _ _ ⟨s, hs, rfl, rfl⟩
  refine WL.v (V.move rfl) rfl ?_
  refine WL.v (V.assign rfl) rfl ?_
  refine WL.v (V.assign rfl) rfl ?_
  refine WL.done ?_
  refine WS.perm (pre' := s.ch 5 :: m.chs) ?_ ?_
  · simp only [List.flatten_cons]
    refine List.Perm.append_left _ ?_
    have := (chs_split m u p hp).symm
    simpa using this
  refine WS.ret rfl ?_
  exact ⟨s, hs, rfl, rfl⟩

/-- bytes laid into a unit -/
def laid (l : List UInt8) (off : Nat) (b : List UInt8) : List UInt8 := l.take off ++ b ++ l.drop (off + b.length)

theorem laid_len (l : List UInt8) (off : Nat) (b : List UInt8) (h : off + b.length ≤ l.length) : (laid l off b).length = l.length := by simp [laid]; omega

def Mm.put (m : Mm) (i : Nat) (p : Nat × List UInt8) (h : p.2.length = 512) : Mm :=
  { m with us := m.us.set i p, len := by simp [m.len], all := (fun q hq => (List.mem_or_eq_of_mem_set hq).elim (fun h1 => m.all q h1) (fun h1 => by rw [h1]; exact h)) }

theorem setN_laid (l : List UInt8) (off : Nat) (b : List UInt8) (h : off + b.length ≤ l.length) : setN off (flat encY b) (flat encY l) = some (flat encY (laid l off b)) := by
  have h1 : flat encY l = flat encY (l.take off) ++ flat encY (l.drop off) := by rw [← flat_append, List.take_append_drop]
  rw [h1, setN_drop _ _ _ _ (by rw [flat_length]; simp; omega), setN_zero _ _ (by rw [flat_length, flat_length]; simp; omega)]
  simp only [Option.map_some, laid, flat_append, List.append_assoc]
  congr 2
  rw [flat_length, flat_encY (l.drop off), ← List.map_drop]
  simp [flat_encY]

theorem chs_put (m : Mm) (u : Nat) (p : Nat × List UInt8) (hp : m.us[u - 1]? = some p) (l : List UInt8) (h : l.length = 512) :
    (m.put (u - 1) (p.1, l) h).chs.flatten.Perm [blk p.1 5 (flat encY l), blk m.mb 415 [sl m.lb 0 64 m.cap], blk m.lb 57 (hdrs m.us ++ m.junk), usC (m.us.take (u - 1)), usC (m.us.drop (u - 1 + 1))].flatten := by
  have hlt := (List.getElem?_eq_some_iff.1 hp).1
  have h1 := (chs_split (m.put (u - 1) (p.1, l) h) u (p.1, l) (by simp [Mm.put, hlt])).symm
  have e1 : hdrs (m.put (u - 1) (p.1, l) h).us = hdrs m.us := by
    simp only [Mm.put, hdrs, List.map_set]
    apply List.ext_getElem?
    intro j
    rw [List.getElem?_set]
    split
    · rename_i e; subst e
      have := (List.getElem?_eq_some_iff.1 hp)
      simp [hlt, this.2]
    · rfl
  have e2 : (m.put (u - 1) (p.1, l) h).us.take (u - 1) = m.us.take (u - 1) := by simp [Mm.put, List.take_set_of_le]
  have e3 : (m.put (u - 1) (p.1, l) h).us.drop (u - 1 + 1) = m.us.drop (u - 1 + 1) := by simp [Mm.put, List.drop_set_of_lt]
  rw [e1, e2, e3] at h1
  exact h1

theorem phys_Write (m : Mm) (u off : Nat) (p : Nat × List UInt8) (bb bo bc E0 : Nat) (cells : List Value) (b : List UInt8) (hu : 1 ≤ u) (hp : m.us[u - 1]? = some p) (ho : off < 512) (hn : off + b.length ≤ 512)
    (hs : Bytes cells bo b) (hl : bo + b.length ≤ cells.length) (hlen : (laid p.2 off b).length = 512) :
    Spec Tryz.prog 48 [ptr m.mb 0, I u, I off, sl bb bo b.length bc] (m.chs ++ [blk bb E0 cells])
      (fun v A => v = B true ∧ A = (m.put (u - 1) (p.1, laid p.2 off b) hlen).chs ++ [blk bb E0 cells]) := by
  have hl' : p.2.length = 512 := m.all p (List.mem_of_getElem? hp)
  refine Spec.of Tryz.func48 rfl Tryz.call48 rfl (fun R => ?_)
  refine WS.seq ?_
  refine WS.region ?_
  refine WL.v (V.assign rfl) rfl ?_
  refine WL.done ?_
  refine WS.seq ?_
  refine WS.region ?_
  refine WL.v (V.move rfl) rfl ?_
  refine WL.v (V.move rfl) rfl ?_
  refine WL.v (V.move rfl) rfl ?_
  refine WL.v (V.move rfl) rfl ?_
  refine WL.v (V.lenS rfl) rfl ?_
  refine WL.call (phys_part m u off b.length p hu hp ho hn) [0, 0, 0] rfl rfl rfl ?_
  rintro _ _ ⟨rfl, rfl⟩
  refine WL.v (V.move rfl) rfl ?_
  refine WL.v (V.extractL rfl rfl) rfl ?_
  refine WL.v (V.extractL rfl rfl) rfl ?_
  refine WL.v (V.assign rfl) rfl ?_
  refine WL.v (V.assign rfl) rfl ?_
  refine WL.done ?_
  refine WS.seq ?_
  refine WS.region ?_
  refine WL.v (V.move rfl) rfl ?_
  refine WL.v (V.move rfl) rfl ?_
  refine WL.perm (pre' := [blk bb E0 cells, blk p.1 5 (flat encY p.2), blk m.mb 415 [sl m.lb 0 64 m.cap], blk m.lb 57 (hdrs m.us ++ m.junk), usC (m.us.take (u - 1)), usC (m.us.drop (u - 1 + 1))]) ?_ ?_
  · have := (chs_split m u p hp)
    simp only [List.flatten_append, List.flatten_cons, List.flatten_nil, List.append_nil] at this ⊢
    exact List.perm_append_comm.trans (this.append_right _)
  refine WL.copy (sz := 1) (m := b.length) 1 rfl rfl (.inr ⟨bb, bo, bc, 0, E0, cells, rfl, rfl, by simpa using hs.getN hl⟩) (Nat.le_refl _) rfl (setN_laid p.2 off b (by omega)) (flat_one b) rfl ?_
  refine WL.done ?_
  refine WS.seq ?_
  refine WS.region ?_
  refine WL.v (V.move rfl) rfl ?_
  refine WL.v (V.assign rfl) rfl ?_
  refine WL.done ?_
  refine WS.perm (pre' := (m.put (u - 1) (p.1, laid p.2 off b) hlen).chs ++ [blk bb E0 cells]) ?_ ?_
  · have := chs_put m u p hp (laid p.2 off b) hlen
    simp only [List.flatten_append, List.flatten_cons, List.flatten_nil, List.append_nil] at this ⊢
    refine (this.append_right _).trans ?_
    refine List.perm_append_comm.trans ?_
    simp
    exact List.Perm.swap _ _ _
  refine WS.ret rfl ?_
  exact ⟨rfl, rfl⟩
end Go.Proofs
