/- Part of the proof: W31. -/
import Derived.Test.YtjdjialgjmphjaaGreatW23
import Derived.Test.YtjdjialgjmphjaaGreatS6
set_option linter.all false
set_option maxRecDepth 100000
set_option maxHeartbeats 16000000
namespace Go.Proofs
open Go Go.Sep
attribute [local irreducible] WS WL WH WHT OpV OpR

/-! ## the verifier's own: bytes -/

theorem ref_Bytes (s : SL encY 1) (hb : s.xs.length ≤ 1000000) :
    Spec Tryz.prog 340 [s.val] [s.ch 5] (fun v A => ∃ s' : SL encY 1, s'.xs = s.xs ∧ v = s'.val ∧ A = [s'.ch 5, s.ch 5]) := by
  refine Spec.of Tryz.func340 rfl Tryz.call340 rfl (fun R => ?_)
  refine WS.seq ?_
  refine WS.region ?_
  refine WL.v (V.assign rfl) rfl ?_
  refine WL.done ?_
  refine WS.seq ?_
  refine WS.region ?_
  refine WL.v (V.move rfl) rfl ?_
  refine WL.v (V.lenSL rfl) rfl ?_
  refine WL.makeSliceC (l := 0) (m := s.xs.length) rfl rfl (by omega) rfl (by omega) (by omega) rfl ?_
  intro r
  refine WL.v (V.assign rfl) rfl ?_
  refine WL.done ?_
  refine WS.seq ?_
  refine WS.seq ?_
  refine WS.region ?_
  refine WL.v (V.assign rfl) rfl ?_
  refine WL.done ?_
  refine WS.block ?_
  refine WS.keep [4, 3, 0] rfl ?_
  refine WS.loop (ι := {p : Nat × SL encY 1 // p.1 ≤ s.xs.length ∧ p.2.xs = s.xs.take p.1}) (fun p => [(4, I p.1.1), (3, p.1.2.val), (0, s.val)]) (fun p => [p.1.2.ch 5, s.ch 5]) (fun p => s.xs.length - p.1.1)
    ⟨(0, ⟨[], some r, s.xs.length, List.replicate s.xs.length (.int .u8 0), by simp, fun _ => by simp⟩), by simp, by simp⟩ ?_
  rintro ⟨⟨i, out⟩, hi, hout⟩ X ih
  simp only at ih hi hout ⊢
  have hol : out.xs.length = i := by rw [hout]; simp; omega
  refine WS.seq ?_
  refine WS.seq ?_
  refine WS.region ?_
  refine WL.v (V.move rfl) rfl ?_
  refine WL.v (V.move rfl) rfl ?_
  refine WL.v (V.lenSL rfl) rfl ?_
  refine WL.v (V.lt rfl rfl) rfl ?_
  refine WL.done ?_
  (refine WS.condD rfl ?_ ?_) <;> intro h_ <;> try (exfalso; omega)
  refine WS.skip ?_
  refine WS.seq ?_
  refine WS.block ?_
  refine WS.region ?_
  refine WL.v (V.move rfl) rfl ?_
  refine WL.v (V.move rfl) rfl ?_
  refine WL.v (V.move rfl) rfl ?_
  rotate_left
  refine WS.exit rfl ?_
  refine WS.seq ?_
  refine WS.region ?_
  refine WL.v (V.move rfl) rfl ?_
  refine WL.v (V.assign rfl) rfl ?_
  refine WL.done ?_
  rotate_left
  · have hget : s.xs[i]? = some (s.xs[i]'(by omega)) := by simp
    have htk : s.xs.take (i + 1) = s.xs.take i ++ [s.xs[i]'(by omega)] := by simp
    generalize s.xs[i]'(by omega) = y at hget htk
    refine WL.v (V.indexSL rfl rfl (by constructor <;> omega)) rfl ?_
    refine WL.r (V.loadSL1 (enc := encY) 1 (i := i) (by simp only [Int.toNat_natCast]; rfl) rfl hget rfl) rfl ?_
    skip
    refine WL.slice1 (m := 1) rfl rfl rfl (by omega) (by omega) rfl ?_
    intro nb
    refine WL.append (enc := encY) [y] 1 out rfl rfl rfl rfl (.inr ⟨nb, 0, 1, 0, 5, _, rfl, rfl, rfl⟩) (by simp only [List.length_cons, List.length_nil]; omega) rfl ?_
    intro out' hout'
    refine WL.v (V.assign rfl) rfl ?_
    refine WL.done ?_
    refine WS.blk ?_
    refine WS.region ?_
    refine WL.v (V.move rfl) rfl ?_
    refine WL.v (V.add rfl rfl (fits_i64 (by omega) (by omega))) rfl ?_
    refine WL.v (V.assign rfl) rfl ?_
    refine WL.done ?_
    refine WS.keep [4, 3, 0] rfl ?_
    refine WS.pick [0, 1] rfl ?_
    exact ih ⟨(i + 1, out'), by omega, by simp only; rw [hout', hout, htk]⟩ (by simp only; omega)
  · have : i = s.xs.length := by omega
    subst this
    refine WS.ret rfl ?_
    exact ⟨out, by rw [hout]; simp, rfl, rfl⟩

theorem ref1_put (s : SL encY 1) (at_ : Nat) (n : UInt32) (hat : at_ + 4 ≤ s.xs.length) (hb : s.xs.length ≤ 1000000) :
    Spec Tryz.prog 187 [s.val, I at_, I 4, U n] [s.ch 5] (fun v A => ∃ s' : SL encY 1, s'.xs = put32 s.xs at_ n ∧ v = s'.val ∧ A = [s'.ch 5, s.ch 5]) := by
  refine Spec.of Tryz.func187 rfl Tryz.call187 rfl (fun R => ?_)
  refine WS.seq ?_
  refine WS.region ?_
  refine WL.v (V.assign rfl) rfl ?_
  refine WL.done ?_
  refine WS.seq ?_
  refine WS.region ?_
  refine WL.v (V.move rfl) rfl ?_
  refine WL.call (ref_Bytes s hb) [0] rfl rfl rfl ?_
  rintro _ _ ⟨s', hsx, rfl, rfl⟩
  obtain ⟨xs, sb, cap, junk, hnil, hfit⟩ := s'
  simp only at hsx
  have hxl : xs.length = s.xs.length := by rw [hsx]
  cases sb with
  | none => have := hnil rfl; rw [this] at hxl; simp at hxl; omega
  | some sb =>
    refine WL.v (V.assign rfl) rfl ?_
    refine WL.done ?_
    refine WS.seq ?_
    refine WS.seq ?_
    refine WS.region ?_
    refine WL.v (V.assign rfl) rfl ?_
    refine WL.done ?_
    refine WS.block ?_
    refine WS.keep [10, 1, 2, 3, 9] rfl ?_
    refine WS.loop (ι := {i : Nat // i ≤ 4}) (fun i => [(10, I i.1), (1, I at_), (2, I 4), (3, U n), (9, sl sb 0 xs.length cap)])
      (fun i => [blk sb 5 (flat encY (putF n at_ i.1 xs) ++ junk), s.ch 5]) (fun i => 4 - i.1) ⟨0, by omega⟩ ?_
    rintro ⟨i, hi⟩ X ih
    simp only at ih ⊢
    refine WS.seq ?_
    refine WS.seq ?_
    refine WS.region ?_
    refine WL.v (V.move rfl) rfl ?_
    refine WL.v (V.move rfl) rfl ?_
    refine WL.v (V.lt rfl rfl) rfl ?_
    refine WL.done ?_
    (refine WS.condD rfl ?_ ?_) <;> intro h_ <;> try (exfalso; omega)
    refine WS.skip ?_
    refine WS.seq ?_
    refine WS.block ?_
    refine WS.seq ?_
    refine WS.region ?_
    refine WL.v (V.move rfl) rfl ?_
    refine WL.v (V.move rfl) rfl ?_
    refine WL.v (V.neg rfl (fits_i64 (by omega) (by omega))) rfl ?_
    refine WL.v (V.ge rfl rfl) rfl ?_
    refine WL.v (V.move rfl) rfl ?_
    (refine WL.gcaseD rfl rfl ?_ ?_) <;> intro h_ <;> try (exfalso; omega)
    refine WL.gy rfl rfl ?_
    refine WL.v (V.move rfl) rfl ?_
    refine WL.gy rfl rfl ?_
    refine WL.v (V.move rfl) rfl ?_
    refine WL.gy rfl rfl ?_
    refine WL.v (V.lenS rfl) rfl ?_
    refine WL.gy rfl rfl ?_
    refine WL.v (V.move rfl) rfl ?_
    refine WL.gy rfl rfl ?_
    refine WL.v (V.sub rfl rfl (fits_i64 (by omega) (by omega))) rfl ?_
    refine WL.gy rfl rfl ?_
    refine WL.v (V.lt rfl rfl) rfl ?_
    refine WL.v (V.pickT rfl rfl) rfl ?_
    refine WL.done ?_
    (refine WS.condD rfl ?_ ?_) <;> intro h_ <;> try (exfalso; omega)
    refine WS.region ?_
    refine WL.v (V.move rfl) rfl ?_
    refine WL.v (V.move rfl) rfl ?_
    refine WL.v (V.move rfl) rfl ?_
    refine WL.v (V.add rfl rfl (fits_i64 (by omega) (by omega))) rfl ?_
    refine WL.v (V.move rfl) rfl ?_
    refine WL.v (V.move rfl) rfl ?_
    refine WL.v (V.mul rfl rfl (fits_i64 (by omega) (by omega))) rfl ?_
    refine WL.v (V.conv rfl) rfl ?_
    rotate_left
    refine WS.exit rfl ?_
    refine WS.seq ?_
    refine WS.region ?_
    refine WL.v (V.move rfl) rfl ?_
    refine WL.v (V.assign rfl) rfl ?_
    refine WL.done ?_
    rotate_left
    · have hi4 : i < 4 := by omega
      have hset : setN (0 + ((at_ : Int) + (i : Int)).toNat * 1) [Y (byteOf n i)] (flat encY (putF n at_ i xs) ++ junk) = some (flat encY (putF n at_ (i + 1) xs) ++ junk) := by
        rw [show 0 + ((at_ : Int) + (i : Int)).toNat * 1 = at_ + i from by omega]
        rw [setN_one _ _ _ (by simp [flat_length, putF_len]; omega)]
        rw [List.set_append_left _ _ (by simp [flat_length, putF_len]; omega)]
        simp only [putF, flat_encY, List.map_set]
      rw [show IntKind.u64.wrap ((8 : Int) * (i : Int)) = 8 * (i : Int) from by rw [wrap_u64]; omega]
      refine WL.v (V.shr rfl rfl (by omega)) rfl ?_
      refine WL.v (V.conv rfl) rfl ?_
      refine WL.v (V.indexAddr rfl rfl (by constructor <;> omega)) rfl ?_
      rw [shr_U _ _ hi4]
      refine WL.store 0 rfl rfl rfl rfl rfl hset ?_
      refine WL.done ?_
      refine WS.blk ?_
      refine WS.region ?_
      refine WL.v (V.move rfl) rfl ?_
      refine WL.v (V.add rfl rfl (fits_i64 (by omega) (by omega))) rfl ?_
      refine WL.v (V.assign rfl) rfl ?_
      refine WL.done ?_
      refine WS.keep [10, 1, 2, 3, 9] rfl ?_
      exact ih ⟨i + 1, by omega⟩ (by simp only; omega)
    · have : i = 4 := by omega
      subst this
      refine WS.ret rfl ?_
      exact ⟨⟨putF n at_ 4 xs, some sb, cap, junk, by simp, fun _ => by rw [putF_len]; exact hfit (by simp)⟩, by rw [← hsx]; rfl, by simp [SL.val, putF_len, retV], rfl⟩

theorem ref1_Put32 (s : SL encY 1) (at_ : Nat) (n : UInt32) (hat : at_ + 4 ≤ s.xs.length) (hb : s.xs.length ≤ 1000000) :
    Spec Tryz.prog 49 [s.val, I at_, U n] [s.ch 5] (fun v A => ∃ s' : SL encY 1, s'.xs = put32 s.xs at_ n ∧ v = s'.val ∧ A = [s'.ch 5, s.ch 5]) := by
  refine Spec.of Tryz.func49 rfl Tryz.call49 rfl (fun R => ?_)
  refine WS.seq ?_
  refine WS.region ?_
  refine WL.v (V.assign rfl) rfl ?_
  refine WL.done ?_
  refine WS.seq ?_
  refine WS.region ?_
  refine WL.v (V.move rfl) rfl ?_
  refine WL.v (V.move rfl) rfl ?_
  refine WL.v (V.move rfl) rfl ?_
  refine WL.call (ref1_put s at_ n hat hb) [0] rfl rfl rfl ?_
  rintro _ _ ⟨s', hsx, rfl, rfl⟩
  refine WL.v (V.assign rfl) rfl ?_
  refine WL.done ?_
  refine WS.ret rfl ?_
  exact ⟨s', hsx, rfl, rfl⟩

/-! ## numbers of a range -/

def numI (n b : Int) : Int := if n.tmod b < 0 then n.tmod b + b else n.tmod b
theorem numI_range (n b : Int) (h : 0 < b) : 0 ≤ numI n b ∧ numI n b < b := by
  have h1 := Int.tmod_lt_of_pos n h
  have h2 := Int.lt_tmod_of_pos n h
  unfold numI
  split <;> omega

theorem world_Number (n b : Int) (h : 0 < b) (h2 : b ≤ 1000000) : Spec Tryz.prog 39 [I n, I b] [] (fun v A => v = I (numI n b) ∧ A = []) := by
  have h3 := Int.tmod_lt_of_pos n h
  have h4 := Int.lt_tmod_of_pos n h
  refine Spec.of Tryz.func39 rfl Tryz.call39 rfl (fun R => ?_)
  refine WS.seq ?_
  refine WS.region ?_
  refine WL.v (V.assign rfl) rfl ?_
  refine WL.done ?_
  refine WS.seq ?_
  refine WS.region ?_
  refine WL.v (V.move rfl) rfl ?_
  refine WL.v (V.move rfl) rfl ?_
  refine WL.v (V.rem rfl rfl (by omega)) rfl ?_
  refine WL.v (V.assign rfl) rfl ?_
  refine WL.done ?_
  refine WS.seq ?_
  refine WS.seq ?_
  refine WS.region ?_
  refine WL.v (V.move rfl) rfl ?_
  refine WL.v (V.lt rfl rfl) rfl ?_
  refine WL.done ?_
  (refine WS.condD rfl ?_ ?_) <;> intro h_ <;> try (exfalso; omega)
  refine WS.region ?_
  refine WL.v (V.move rfl) rfl ?_
  refine WL.v (V.move rfl) rfl ?_
  refine WL.v (V.add rfl rfl (fits_i64 (by omega) (by omega))) rfl ?_
  refine WL.v (V.assign rfl) rfl ?_
  refine WL.done ?_
  refine WS.seq ?_
  refine WS.region ?_
  refine WL.v (V.move rfl) rfl ?_
  refine WL.v (V.assign rfl) rfl ?_
  refine WL.done ?_
  rotate_left
  refine WS.skip ?_
  refine WS.seq ?_
  refine WS.region ?_
  refine WL.v (V.move rfl) rfl ?_
  refine WL.v (V.assign rfl) rfl ?_
  refine WL.done ?_
  rotate_left
  · refine WS.ret rfl ?_
    refine ⟨?_, rfl⟩
    simp only [retV, numI, if_pos h_]
  · refine WS.ret rfl ?_
    refine ⟨?_, rfl⟩
    simp only [retV, numI, if_neg h_]

/-! ## where a deed is -/

theorem getN_sub {l vs us : List Value} {o n j m : Nat} (hm : 0 < m) (h : getN o n l = some vs) (h2 : getN j m vs = some us) : getN (o + j) m l = some us := by
  rcases getN_eq j m vs us h2 with ⟨e, hl, hle⟩ | ⟨h0, _⟩
  · rcases getN_eq o n l vs h with ⟨e4, hl4, hle4⟩ | ⟨rfl, rfl⟩
    · refine getN_of_drop (by omega) ?_
      rw [e, e4, List.drop_take, List.take_take, List.drop_drop]
      congr 1
      omega
    · simp at hle; omega
  · omega

/-- a part of an element -/
theorem V.loadPart {P : Program} {env : List (Nat × Value)} {pre : List Chunk} {T E F : TypeId} {m : Nat} {x : Operand} {α : Type} {enc : α → List Value} {sz : Nat} (kp : Nat) {s : SL enc sz} {i j : Nat} {a : α} {us : List Value} [hE : Enc enc sz] [ht : TyS P F m true] (hm : 0 < m)
    (hx : ev env x = some (.pointer (some ⟨s.b.getD 0, i * sz + j, none⟩))) (hc : nthC kp pre = some (s.ch E)) (ha : s.xs[i]? = some a) (hj : getN j m (enc a) = some us) : OpR P (.load F x) T env pre (.agg us.toArray) := by
  cases hb : s.b with
  | none => have := s.nil hb; rw [this] at ha; simp at ha
  | some b =>
    refine V.loadN kp (b := b) (o := i * sz + j) (Tb := E) (l := flat enc s.xs ++ s.junk) (by rw [hx, hb]; rfl) (by rw [hc]; simp only [SL.ch, hb]) ?_
    exact getN_sub hm (flat_get (enc := enc) (sz := sz) s.xs s.junk i a ha) hj

def isD (id : ID) (d : Deed) : Bool := decide (d.ring = id.ring ∧ d.seq = id.seq)
def atD (l : List Deed) (id : ID) : Option Nat := l.findIdx? (isD id)

theorem same_At (s : SL encD 7) (id : ID) (hb : s.xs.length ≤ 1000000) :
    Spec Tryz.prog 54 [s.val, kID id] [s.ch 73] (fun v A => v = .tuple #[I ((atD s.xs id).getD 0 : Nat), B (atD s.xs id).isSome] ∧ A = [s.ch 73]) := by
  refine Spec.of Tryz.func54 rfl Tryz.call54 rfl (fun R => ?_)
  refine WS.seq ?_
  refine WS.region ?_
  refine WL.box rfl rfl ?_; intro r_
  refine WL.v (V.assign rfl) rfl ?_
  refine WL.v (V.assign rfl) rfl ?_
  refine WL.done ?_
  refine WS.seq ?_
  refine WS.seq ?_
  refine WS.region ?_
  refine WL.v (V.assign rfl) rfl ?_
  refine WL.done ?_
  refine WS.block ?_
  refine WS.keep [6, 0, 3] rfl ?_
  refine WS.loop (ι := {i : Nat // i ≤ s.xs.length ∧ atD s.xs id = ((s.xs.drop i).findIdx? (isD id)).map (· + i)}) (fun i => [(6, I i.1), (0, s.val), (3, ptr r_ 0)]) (fun _ => [blk r_ 41 (cellsV (kID id)), s.ch 73]) (fun i => s.xs.length - i.1)
    ⟨0, by omega, by simp [atD]⟩ ?_
  rintro ⟨i, hi, hat⟩ X ih
  simp only at ih hi hat ⊢
  refine WS.seq ?_
  refine WS.seq ?_
  refine WS.region ?_
  refine WL.v (V.move rfl) rfl ?_
  refine WL.v (V.move rfl) rfl ?_
  refine WL.v (V.lenSL rfl) rfl ?_
  refine WL.v (V.lt rfl rfl) rfl ?_
  refine WL.done ?_
  (refine WS.condD rfl ?_ ?_) <;> intro h_ <;> try (exfalso; omega)
  refine WS.skip ?_
  refine WS.seq ?_
  refine WS.block ?_
  refine WS.seq ?_
  refine WS.regionD [] Tryz.mixed rfl ?_
  refine WH.pick rfl ?_
  refine WHT.v (V.move rfl) rfl rfl rfl rfl ?_
  refine WH.pick rfl ?_
  refine WHT.v (V.move rfl) rfl rfl rfl rfl ?_
  refine WH.pick rfl ?_
  rotate_left
  refine WS.exit rfl ?_
  refine WS.seq ?_
  refine WS.region ?_
  refine WL.v (V.assign rfl) rfl ?_
  refine WL.v (V.assign rfl) rfl ?_
  refine WL.done ?_
  rotate_left
  · have hlt : i < s.xs.length := by omega
    have hget : s.xs[i]? = some s.xs[i] := by simp
    have hdrop : s.xs.drop i = s.xs[i] :: s.xs.drop (i + 1) := by simp
    generalize s.xs[i] = d at hget hdrop
    refine WHT.v (V.indexSL rfl rfl (by constructor <;> omega)) rfl rfl rfl rfl ?_
    refine WH.pick rfl ?_
    refine WHT.v (V.fieldAddr rfl) rfl rfl rfl rfl ?_
    refine WH.pick rfl ?_
    refine WHT.r (V.loadPart (enc := encD) (E := 73) (m := 2) 1 (i := i) (j := 0) (by omega) (by simp only [Int.toNat_natCast]; rfl) rfl hget rfl) rfl rfl rfl rfl rfl ?_
    by_cases h : d.ring = id.ring ∧ d.seq = id.seq
    · have h' : ((d.ring : Nat) : Int) = (id.ring : Nat) ∧ ((d.seq : Nat) : Int) = (id.seq : Nat) := by omega
      refine WH.pick rfl ?_
      refine WHT.r (V.loadN 0 rfl rfl rfl) rfl rfl rfl rfl rfl ?_
      refine WH.pick rfl ?_
      refine WHT.v (V.eq2 rfl rfl) rfl rfl rfl rfl ?_
      refine WH.done ?_
      (refine WS.condD rfl ?_ ?_) <;> intro h_ <;> try (exfalso; omega)
      refine WS.seq ?_
      refine WS.region ?_
      refine WL.v (V.move rfl) rfl ?_
      refine WL.v (V.assign rfl) rfl ?_
      refine WL.v (V.assign rfl) rfl ?_
      refine WL.done ?_
      refine WS.pick [1] rfl ?_
      refine WS.ret rfl ?_
      rw [hat, hdrop, List.findIdx?_cons, if_pos (by simp [isD, h])]
      exact ⟨by simp [retV], rfl⟩
    · have h' : ¬ (((d.ring : Nat) : Int) = (id.ring : Nat) ∧ ((d.seq : Nat) : Int) = (id.seq : Nat)) := by omega
      refine WH.pick rfl ?_
      refine WHT.r (V.loadN 0 rfl rfl rfl) rfl rfl rfl rfl rfl ?_
      refine WH.pick rfl ?_
      refine WHT.v (V.eq2 rfl rfl) rfl rfl rfl rfl ?_
      refine WH.done ?_
      (refine WS.condD rfl ?_ ?_) <;> intro h_ <;> try (exfalso; omega)
      refine WS.skip ?_
      refine WS.blk ?_
      refine WS.region ?_
      refine WL.v (V.move rfl) rfl ?_
      refine WL.v (V.add rfl rfl (fits_i64 (by omega) (by omega))) rfl ?_
      refine WL.v (V.assign rfl) rfl ?_
      refine WL.done ?_
      refine WS.keep [6, 0, 3] rfl ?_
      refine ih ⟨i + 1, by omega, ?_⟩ (by simp only; omega)
      rw [hat, hdrop, List.findIdx?_cons, if_neg (by simp [isD, h])]
      cases (s.xs.drop (i + 1)).findIdx? (isD id) with
      | none => rfl
      | some j => simp; omega
  · have hn : atD s.xs id = none := by
      rw [hat, List.drop_of_length_le (by omega)]; rfl
    rw [hn]
    refine WS.pick [1] rfl ?_
    refine WS.ret rfl ?_
    exact ⟨rfl, rfl⟩
end Go.Proofs
