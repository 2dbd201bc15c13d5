/- Part of the proof: W6. -/
import Derived.Test.YtjdjialgjmphjaaGreatW5
import Derived.Test.YtjdjialgjmphjaaGreatS4
set_option linter.all false
set_option maxRecDepth 100000
set_option maxHeartbeats 8000000
namespace Go.Proofs
open Go Go.Sep
attribute [local irreducible] WS WL WH WHT OpV OpR

/-! ## requests -/

structure ID where
  ring : Nat
  seq : Nat
deriving DecidableEq

structure Sqe where
  op : Int
  flags : Int
  tag : UInt32
  cap : UInt32
  a : UInt32
  b : UInt32
  c : UInt32
  time : UInt32
deriving DecidableEq

structure Req where
  id : ID
  e : Sqe
  prev : Nat
  soft : Bool
  started : Bool
deriving DecidableEq

abbrev kID (x : ID) : Value := .agg #[.int .i64 ((x.ring : Nat) : Int), .int .i64 ((x.seq : Nat) : Int)]
def encS (e : Sqe) : List Value := [I e.op, I e.flags, U e.tag, U e.cap, U e.a, U e.b, U e.c, U e.time]
def encR (r : Req) : List Value := [I r.id.ring, I r.id.seq, I r.e.op, I r.e.flags, U r.e.tag, U r.e.cap, U r.e.a, U r.e.b, U r.e.c, U r.e.time, I r.prev, B r.soft, B r.started]
abbrev vR (r : Req) : Value := .agg (encR r).toArray
instance : Enc encR 13 := ⟨fun _ => rfl, fun _ => rfl, by omega⟩
instance : KeyEnc Tryz.prog 41 kID := key2 (α := ID) (fun a => ((a.ring : Nat) : Int)) (fun a => ((a.seq : Nat) : Int)) (fun a b => by
  cases a; cases b; simp; omega)

theorem isNaN_int (z : Int) : Spec Tryz.prog 345 [I z] [] (fun v A => v = B false ∧ A = []) := by
  refine Spec.of Tryz.func345 rfl Tryz.call345 rfl (fun R => ?_)
  refine WS.seq ?_
  refine WS.region ?_
  refine WL.v (V.assign rfl) rfl ?_
  refine WL.done ?_
  refine WS.seq ?_
  refine WS.region ?_
  refine WL.v (V.move rfl) rfl ?_
  refine WL.v (V.move rfl) rfl ?_
  refine WL.v (V.nei rfl rfl) rfl ?_
  refine WL.v (V.assign rfl) rfl ?_
  refine WL.done ?_
  refine WS.ret rfl ?_
  exact ⟨by simp [retV], rfl⟩

/-- -1, 0, 1 -/
def cmpI (a b : Int) : Int := if a < b then -1 else if b < a then 1 else 0

theorem compare_int (a b : Int) : Spec Tryz.prog 193 [I a, I b] [] (fun v A => v = I (cmpI a b) ∧ A = []) := by
  refine Spec.of Tryz.func193 rfl Tryz.call193 rfl (fun R => ?_)
  refine WS.seq ?_
  refine WS.region ?_
  refine WL.v (V.assign rfl) rfl ?_
  refine WL.done ?_
  refine WS.seq ?_
  refine WS.region ?_
  refine WL.v (V.move rfl) rfl ?_
  refine WL.call (isNaN_int a) [] rfl rfl rfl ?_
  rintro _ _ ⟨rfl, rfl⟩
  refine WL.v (V.assign rfl) rfl ?_
  refine WL.done ?_
  refine WS.seq ?_
  refine WS.region ?_
  refine WL.v (V.move rfl) rfl ?_
  refine WL.call (isNaN_int b) [] rfl rfl rfl ?_
  rintro _ _ ⟨rfl, rfl⟩
  refine WL.v (V.assign rfl) rfl ?_
  refine WL.done ?_
  refine WS.seq ?_
  refine WS.seq ?_
  refine WS.region ?_
  refine WL.v (V.move rfl) rfl ?_
  refine WL.done ?_
  refine WS.condF rfl ?_
  refine WS.skip ?_
  refine WS.seq ?_
  refine WS.seq ?_
  refine WS.region ?_
  refine WL.v (V.move rfl) rfl ?_
  refine WL.done ?_
  refine WS.condF rfl ?_
  refine WS.skip ?_
  refine WS.seq ?_
  refine WS.seq ?_
  refine WS.region ?_
  refine WL.v (V.move rfl) rfl ?_
  refine WL.v (V.move rfl) rfl ?_
  refine WL.v (V.lt rfl rfl) rfl ?_
  refine WL.done ?_
  (refine WS.condD rfl ?_ ?_) <;> intro h_ <;> try (exfalso; omega)
  refine WS.seq ?_
  refine WS.region ?_
  refine WL.v (V.assign rfl) rfl ?_
  refine WL.done ?_
  rotate_left
  refine WS.skip ?_
  refine WS.seq ?_
  refine WS.seq ?_
  refine WS.region ?_
  refine WL.v (V.move rfl) rfl ?_
  refine WL.v (V.move rfl) rfl ?_
  refine WL.v (V.gt rfl rfl) rfl ?_
  refine WL.done ?_
  (refine WS.condD rfl ?_ ?_) <;> intro h_ <;> try (exfalso; omega)
  refine WS.seq ?_
  refine WS.region ?_
  refine WL.v (V.assign rfl) rfl ?_
  refine WL.done ?_
  rotate_left
  refine WS.skip ?_
  refine WS.seq ?_
  refine WS.region ?_
  refine WL.v (V.assign rfl) rfl ?_
  refine WL.done ?_
  rotate_left
  · refine WS.ret rfl ?_
    exact ⟨by simp [retV, cmpI, h_], rfl⟩
  · refine WS.ret rfl ?_
    rename_i h1
    exact ⟨by simp [retV, cmpI, h_, h1], rfl⟩
  · refine WS.ret rfl ?_
    rename_i h1
    exact ⟨by simp [retV, cmpI, h_, h1], rfl⟩

theorem byseq (r q : Req) : Spec Tryz.prog 192 [vR r, vR q] [] (fun v A => v = I (cmpI r.id.seq q.id.seq) ∧ A = []) := by
  refine Spec.of Tryz.func192 rfl Tryz.call192 rfl (fun R => ?_)
  refine WS.seq ?_
  refine WS.region ?_
  refine WL.box rfl rfl ?_; intro r_
  refine WL.box rfl rfl ?_; intro r_
  refine WL.v (V.assign rfl) rfl ?_
  refine WL.done ?_
  refine WS.seq ?_
  refine WS.region ?_
  refine WL.v (V.fieldAddr rfl) rfl ?_
  refine WL.v (V.fieldAddr rfl) rfl ?_
  refine WL.r (V.load1 1 rfl rfl rfl) rfl ?_
  refine WL.v (V.fieldAddr rfl) rfl ?_
  refine WL.v (V.fieldAddr rfl) rfl ?_
  refine WL.r (V.load1 0 rfl rfl rfl) rfl ?_
  refine WL.call (compare_int r.id.seq q.id.seq) [] rfl rfl rfl ?_
  rintro _ _ ⟨rfl, rfl⟩
  refine WL.v (V.assign rfl) rfl ?_
  refine WL.done ?_
  refine WS.pick [] rfl ?_
  refine WS.ret rfl ?_
  exact ⟨rfl, rfl⟩

instance : TyU Tryz.prog 9 .string := ⟨Tryz.underlying9⟩

theorem Len64_small (n : Nat) (h : n < 256) : Spec Tryz.prog 463 [.int .u64 n] [] (fun v A => (∃ z, v = I z) ∧ A = []) := by
  refine Spec.of Tryz.func463 rfl Tryz.call463 rfl (fun R => ?_)
  refine WS.seq ?_
  refine WS.region ?_
  refine WL.v (V.assign rfl) rfl ?_
  refine WL.done ?_
  refine WS.seq ?_
  refine WS.seq ?_
  refine WS.region ?_
  refine WL.v (V.move rfl) rfl ?_
  refine WL.v (V.ge rfl rfl) rfl ?_
  refine WL.done ?_
  (refine WS.condD rfl ?_ ?_) <;> intro h_ <;> try (exfalso; omega)
  refine WS.skip ?_
  refine WS.seq ?_
  refine WS.seq ?_
  refine WS.region ?_
  refine WL.v (V.move rfl) rfl ?_
  refine WL.v (V.ge rfl rfl) rfl ?_
  refine WL.done ?_
  (refine WS.condD rfl ?_ ?_) <;> intro h_ <;> try (exfalso; omega)
  refine WS.skip ?_
  refine WS.seq ?_
  refine WS.seq ?_
  refine WS.region ?_
  refine WL.v (V.move rfl) rfl ?_
  refine WL.v (V.ge rfl rfl) rfl ?_
  refine WL.done ?_
  (refine WS.condD rfl ?_ ?_) <;> intro h_ <;> try (exfalso; omega)
  refine WS.skip ?_
  refine WS.seq ?_
  refine WS.region ?_
  refine WL.v (V.move rfl) rfl ?_
  refine WL.v (V.move rfl) rfl ?_
  refine WL.v (V.conv rfl) rfl ?_
  have e : IntKind.u8.wrap (n : Int) = n := by rw [wrap_u8]; omega
  rw [e]
  refine WL.v (V.indexStr rfl rfl (by omega) (by simp; exact h)) rfl ?_
  refine WL.v (V.conv rfl) rfl ?_
  refine WL.v (V.addw rfl rfl) rfl ?_
  refine WL.v (V.assign rfl) rfl ?_
  refine WL.done ?_
  refine WS.ret rfl ?_
  exact ⟨⟨_, rfl⟩, rfl⟩

theorem Len_small (n : Nat) (h : n < 256) : Spec Tryz.prog 344 [.int .u64 n] [] (fun v A => (∃ z, v = I z) ∧ A = []) := by
  refine Spec.of Tryz.func344 rfl Tryz.call344 rfl (fun R => ?_)
  refine WS.seq ?_
  refine WS.region ?_
  refine WL.v (V.assign rfl) rfl ?_
  refine WL.done ?_
  refine WS.seq ?_
  refine WS.condF rfl ?_
  refine WS.skip ?_
  refine WS.seq ?_
  refine WS.region ?_
  refine WL.v (V.move rfl) rfl ?_
  refine WL.call (Len64_small n h) [] rfl rfl rfl ?_
  rintro _ _ ⟨⟨z, rfl⟩, rfl⟩
  refine WL.v (V.assign rfl) rfl ?_
  refine WL.done ?_
  refine WS.ret rfl ?_
  exact ⟨⟨_, rfl⟩, rfl⟩

/-! ## sorting -/

def sqn (ys : List Req) (p : Nat) : Nat := ((ys[p]?).map (·.id.seq)).getD 0
abbrev fv (f : Nat) : Value := .func (.func f) #[] #[]

theorem swap_perm {α : Type} (ys : List α) (j : Nat) (x y : α) (hj : 1 ≤ j) (hx : ys[j]? = some x) (hy : ys[j - 1]? = some y) : ((ys.set j y).set (j - 1) x).Perm ys := by
  obtain ⟨i, rfl⟩ : ∃ i, j = i + 1 := ⟨j - 1, by omega⟩
  simp only [Nat.add_sub_cancel] at hy ⊢
  have h1 := (List.getElem?_eq_some_iff.1 hx).1
  have e : ys = ys.take i ++ y :: x :: ys.drop (i + 2) := by
    apply List.ext_getElem?
    intro k
    by_cases hk : k < i
    · rw [List.getElem?_append_left (by simp; omega)]; simp [hk]
    · rw [List.getElem?_append_right (by simp; omega)]
      simp only [List.length_take, Nat.min_eq_left (show i ≤ ys.length by omega)]
      by_cases h0 : k = i
      · subst h0; simp [hy]
      · by_cases h1 : k = i + 1
        · subst h1; simp [hx]
        · obtain ⟨m, rfl⟩ : ∃ m, k = i + 2 + m := ⟨k - (i + 2), by omega⟩
          rw [show i + 2 + m - i = m + 1 + 1 from by omega]
          simp
  have e2 : (ys.set (i + 1) y).set i x = ys.take i ++ x :: y :: ys.drop (i + 2) := by
    conv => lhs; rw [e]
    have hl : (ys.take i).length = i := by simp; omega
    rw [List.set_append_right _ _ (by omega), hl, List.set_append_right _ _ (by omega), hl]
    simp
  rw [e2]
  conv => rhs; rw [e]
  exact List.Perm.append_left _ (List.Perm.swap _ _ _)

theorem sqn_swap (ys : List Req) (j : Nat) (x y : Req) (hj : 1 ≤ j) (hx : ys[j]? = some x) (hy : ys[j - 1]? = some y) (p : Nat) :
    sqn ((ys.set j y).set (j - 1) x) p = if p = j then sqn ys (j - 1) else if p = j - 1 then sqn ys j else sqn ys p := by
  have h1 := (List.getElem?_eq_some_iff.1 hx).1
  unfold sqn
  rw [List.getElem?_set, List.getElem?_set]
  by_cases e : p = j
  · subst e
    rw [if_neg (by omega), if_pos rfl, if_pos rfl, if_pos h1, hy]
  · rw [if_neg e]
    by_cases e2 : p = j - 1
    · subst e2
      have hl : j - 1 < (ys.set j y).length := by rw [List.length_set]; omega
      simp only [if_true, if_neg e, hl, hx]
    · rw [if_neg e2, if_neg (by omega), if_neg (by omega)]

structure Out (n : Nat) (xs : List Req) where
  i : Nat
  ys : List Req
  i1 : 1 ≤ i
  i2 : i ≤ n ∨ i = 1
  perm : ys.Perm xs
  ord : ∀ p q, p < q → q < i → sqn ys p ≤ sqn ys q

structure Inn (n i : Nat) (xs : List Req) where
  j : Nat
  ys : List Req
  ji : j ≤ i
  perm : ys.Perm xs
  ord : ∀ p q, p < q → q ≤ i → q ≠ j → sqn ys p ≤ sqn ys q

theorem insSort (db cap E0 : Nat) (xs : List Req) (junk : List Value) (hb : xs.length ≤ 100000) :
    Spec Tryz.prog 454 [sl db 0 xs.length cap, I 0, I xs.length, fv 192] [blk db E0 (flat encR xs ++ junk)]
      (fun v A => ∃ ys : List Req, ys.Perm xs ∧ ys.Pairwise (fun a b => a.id.seq ≤ b.id.seq) ∧ A = [blk db E0 (flat encR ys ++ junk)]) := by
  refine Spec.of Tryz.func454 rfl Tryz.call454 rfl (fun R => ?_)
  refine WS.seq ?_
  refine WS.region ?_
  refine WL.v (V.move rfl) rfl ?_
  refine WL.v (V.add rfl rfl (fits_i64 (by omega) (by omega))) rfl ?_
  refine WL.v (V.assign rfl) rfl ?_
  refine WL.done ?_
  refine WS.block ?_
  refine WS.keep [8, 0, 1, 2, 3] rfl ?_
  refine WS.loop (ι := Out xs.length xs) (fun o => [(8, I o.i), (0, sl db 0 xs.length cap), (1, I 0), (2, I xs.length), (3, fv 192)])
    (fun o => [blk db E0 (flat encR o.ys ++ junk)]) (fun o => xs.length - o.i) ⟨1, xs, by omega, by omega, .refl _, fun p q h1 h2 => by omega⟩ ?_
  rintro ⟨i, ys, i1, i2, hperm, hord⟩ X ih
  simp only at ih ⊢
  refine WS.seq ?_
  refine WS.seq ?_
  refine WS.region ?_
  refine WL.v (V.move rfl) rfl ?_
  refine WL.v (V.move rfl) rfl ?_
  refine WL.v (V.lt rfl rfl) rfl ?_
  refine WL.done ?_
  (refine WS.condD rfl ?_ ?_) <;> intro h_ <;> try (exfalso; omega)
  refine WS.skip ?_
  refine WS.seq ?_
  refine WS.block ?_
  refine WS.seq ?_
  refine WS.region ?_
  refine WL.v (V.move rfl) rfl ?_
  refine WL.v (V.assign rfl) rfl ?_
  refine WL.done ?_
  refine WS.block ?_
  rotate_left
  refine WS.exit rfl ?_
  rotate_left
  · have hlen := hperm.length_eq
    refine WS.keep [9, 8, 0, 1, 2, 3] rfl ?_
    refine WS.loop (ι := Inn xs.length i xs) (fun o => [(9, I o.j), (8, I i), (0, sl db 0 xs.length cap), (1, I 0), (2, I xs.length), (3, fv 192)])
      (fun o => [blk db E0 (flat encR o.ys ++ junk)]) (fun o => o.j) ⟨i, ys, Nat.le_refl _, hperm, fun p q h1 h2 h3 => hord p q h1 (by omega)⟩ ?_
    rintro ⟨j, zs, ji, zperm, zord⟩ Y jh
    simp only at jh ⊢
    have zlen := zperm.length_eq
    have hjl : j < zs.length := by omega
    have hjx : zs[j]? = some zs[j] := by simp
    have hget : getN (0 + ((j : Nat) : Int).toNat * 13) 13 (flat encR zs ++ junk) = some (encR zs[j]) := by
      rw [Int.toNat_natCast, Nat.zero_add]; exact flat_get zs junk j _ hjx
    refine WS.seq ?_
    refine WS.seq ?_
    refine WS.regionD [blk db E0 (flat encR zs ++ junk)] Tryz.mixed rfl ?_
    refine WH.pick rfl ?_
    refine WHT.v (V.move rfl) rfl rfl rfl rfl ?_
    refine WH.pick rfl ?_
    refine WHT.v (V.move rfl) rfl rfl rfl rfl ?_
    refine WH.pick rfl ?_
    refine WHT.v (V.gt rfl rfl) rfl rfl rfl rfl ?_
    refine WH.pick rfl ?_
    refine WHT.v (V.move rfl) rfl rfl rfl rfl ?_
    refine WH.pick rfl ?_
    (refine WHT.gcaseD rfl rfl ?_ ?_) <;> intro h_ <;> try (exfalso; omega)
    refine WHT.v (V.move rfl) rfl rfl rfl rfl ?_
    refine WH.pick rfl ?_
    refine WHT.v (V.move rfl) rfl rfl rfl rfl ?_
    refine WH.pick rfl ?_
    refine WHT.v (V.move rfl) rfl rfl rfl rfl ?_
    refine WH.pick rfl ?_
    refine WHT.v (V.indexAddr rfl rfl (by constructor <;> omega)) rfl rfl rfl rfl ?_
    refine WH.pick rfl ?_
    rotate_left
    refine WHT.gn rfl rfl rfl rfl rfl ?_
    refine WH.pick rfl ?_
    refine WHT.gn rfl rfl rfl rfl rfl ?_
    refine WH.pick rfl ?_
    refine WHT.gn rfl rfl rfl rfl rfl ?_
    refine WH.pick rfl ?_
    refine WHT.gn rfl rfl rfl rfl rfl ?_
    refine WH.pick rfl ?_
    refine WHT.gn rfl rfl rfl rfl rfl ?_
    refine WH.pick rfl ?_
    refine WHT.gn rfl rfl rfl rfl rfl ?_
    refine WH.pick rfl ?_
    refine WHT.gn rfl rfl rfl rfl rfl ?_
    refine WH.pick rfl ?_
    refine WHT.gn rfl rfl rfl rfl rfl ?_
    refine WH.pick rfl ?_
    refine WHT.gn rfl rfl rfl rfl rfl ?_
    refine WH.pick rfl ?_
    refine WHT.gn rfl rfl rfl rfl rfl ?_
    refine WH.big rfl rfl rfl ?_; intro _ _
    refine WL.gn2 rfl rfl rfl rfl ?_
    refine WL.nextH (ok := by assumption) (hns := by assumption) (by simp) ?_
    refine WH.pick rfl ?_
    refine WHT.gn rfl rfl rfl rfl rfl ?_
    refine WH.pick rfl ?_
    refine WHT.v (V.pickF rfl rfl) rfl rfl rfl rfl ?_
    refine WH.done ?_
    refine WS.condF rfl ?_
    refine WS.exit rfl ?_
    refine WS.blk ?_
    refine WS.region ?_
    refine WL.v (V.move rfl) rfl ?_
    refine WL.v (V.add rfl rfl (fits_i64 (by omega) (by omega))) rfl ?_
    refine WL.v (V.assign rfl) rfl ?_
    refine WL.done ?_
    rotate_left
    · have hjy : zs[j - 1]? = some (zs[j - 1]'(by omega)) := by simp
      have hgey : getN (0 + ((j : Int) - 1).toNat * 13) 13 (flat encR zs ++ junk) = some (encR (zs[j - 1]'(by omega))) := by
        rw [show ((j : Int) - 1).toNat = j - 1 from by omega, Nat.zero_add]; exact flat_get zs junk (j - 1) _ hjy
      refine WHT.rh (V.loadN 0 rfl rfl hget) rfl (by simp) rfl rfl rfl rfl ?_
      refine WH.pick rfl ?_
      refine WHT.v (V.move rfl) rfl rfl rfl rfl ?_
      refine WH.pick rfl ?_
      refine WHT.v (V.move rfl) rfl rfl rfl rfl ?_
      refine WH.pick rfl ?_
      refine WHT.v (V.sub rfl rfl (fits_i64 (by omega) (by omega))) rfl rfl rfl rfl ?_
      refine WH.pick rfl ?_
      refine WHT.v (V.indexAddr rfl rfl (by constructor <;> omega)) rfl rfl rfl rfl ?_
      refine WH.pick rfl ?_
      refine WHT.rh (V.loadN 0 rfl rfl hgey) rfl (by simp) rfl rfl rfl rfl ?_
      refine WH.big rfl rfl rfl ?_; intro _ _
      refine WL.gy rfl rfl ?_
      refine WL.callv (byseq zs[j] (zs[j - 1]'(by omega))) [] rfl rfl rfl rfl rfl ?_
      rintro _ _ ⟨rfl, rfl⟩
      have hkj : sqn zs j = zs[j].id.seq := by simp [sqn, hjl]
      have hkj1 : sqn zs (j - 1) = (zs[j - 1]'(by omega)).id.seq := by simp only [sqn, hjy]; rfl
      refine WL.nextH (ok := by assumption) (hns := by assumption) (by simp) ?_
      refine WH.pick rfl ?_
      refine WHT.v (V.lt rfl rfl) rfl rfl rfl rfl ?_
      refine WH.pick rfl ?_
      refine WHT.v (V.pickT rfl rfl) rfl rfl rfl rfl ?_
      refine WH.done ?_
      (refine WS.condD rfl ?_ ?_) <;> intro h_ <;> try (exfalso; omega)
      refine WS.skip ?_
      refine WS.seq ?_
      refine WS.block ?_
      refine WS.regionD [blk db E0 (flat encR zs ++ junk)] Tryz.mixed rfl ?_
      refine WH.pick rfl ?_
      refine WHT.v (V.move rfl) rfl rfl rfl rfl ?_
      refine WH.pick rfl ?_
      refine WHT.v (V.move rfl) rfl rfl rfl rfl ?_
      refine WH.pick rfl ?_
      refine WHT.v (V.move rfl) rfl rfl rfl rfl ?_
      refine WH.pick rfl ?_
      refine WHT.v (V.move rfl) rfl rfl rfl rfl ?_
      refine WH.pick rfl ?_
      refine WHT.v (V.sub rfl rfl (fits_i64 (by omega) (by omega))) rfl rfl rfl rfl ?_
      refine WH.pick rfl ?_
      refine WHT.v (V.move rfl) rfl rfl rfl rfl ?_
      refine WH.pick rfl ?_
      refine WHT.v (V.move rfl) rfl rfl rfl rfl ?_
      refine WH.pick rfl ?_
      refine WHT.v (V.sub rfl rfl (fits_i64 (by omega) (by omega))) rfl rfl rfl rfl ?_
      refine WH.pick rfl ?_
      refine WHT.v (V.indexAddr rfl rfl (by constructor <;> omega)) rfl rfl rfl rfl ?_
      refine WH.pick rfl ?_
      rotate_left
      refine WS.exit rfl ?_
      refine WS.blk ?_
      refine WS.region ?_
      refine WL.v (V.move rfl) rfl ?_
      refine WL.v (V.add rfl rfl (fits_i64 (by omega) (by omega))) rfl ?_
      refine WL.v (V.assign rfl) rfl ?_
      refine WL.done ?_
      rotate_left
      · have hlt : sqn zs j < sqn zs (j - 1) := by
          rw [hkj, hkj1]
          unfold cmpI at h_
          split at h_
          · omega
          · split at h_ <;> omega
        refine WHT.r (V.loadN 0 rfl rfl hgey) rfl rfl rfl rfl rfl ?_
        refine WH.pick rfl ?_
        refine WHT.v (V.move rfl) rfl rfl rfl rfl ?_
        refine WH.pick rfl ?_
        refine WHT.v (V.move rfl) rfl rfl rfl rfl ?_
        refine WH.pick rfl ?_
        refine WHT.v (V.indexAddr rfl rfl (by constructor <;> omega)) rfl rfl rfl rfl ?_
        refine WH.pick rfl ?_
        refine WHT.r (V.loadN 0 rfl rfl hget) rfl rfl rfl rfl rfl ?_
        refine WH.pick rfl ?_
        refine WHT.v (V.indexAddr rfl rfl (by constructor <;> omega)) rfl rfl rfl rfl ?_
        refine WH.bigSt rfl rfl rfl ?_; intro _ _
        have hs1 : setN (0 + ((j : Nat) : Int).toNat * 13) (encR (zs[j - 1]'(by omega))) (flat encR zs ++ junk) = some (flat encR (zs.set j (zs[j - 1]'(by omega))) ++ junk) := by
          rw [Int.toNat_natCast, Nat.zero_add]; exact flat_set zs junk j _ hjl
        refine WL.store 0 rfl rfl rfl rfl rfl hs1 ?_
        refine WL.nextH (ok := by assumption) (hns := by assumption) (by simp) ?_
        refine WH.pick rfl ?_
        refine WHT.v (V.indexAddr rfl rfl (by constructor <;> omega)) rfl rfl rfl rfl ?_
        refine WH.bigSt rfl rfl rfl ?_; intro _ _
        have hs2 : setN (0 + ((j : Int) - 1).toNat * 13) (encR zs[j]) (flat encR (zs.set j (zs[j - 1]'(by omega))) ++ junk) = some (flat encR ((zs.set j (zs[j - 1]'(by omega))).set (j - 1) zs[j]) ++ junk) := by
          rw [show ((j : Int) - 1).toNat = j - 1 from by omega, Nat.zero_add]; exact flat_set _ junk (j - 1) _ (by simp; omega)
        refine WL.store 0 rfl rfl rfl rfl rfl hs2 ?_
        refine WL.nextH (ok := by assumption) (hns := by assumption) (by simp) ?_
        refine WH.done ?_
        refine WS.blk ?_
        refine WS.region ?_
        refine WL.v (V.move rfl) rfl ?_
        refine WL.v (V.sub rfl rfl (fits_i64 (by omega) (by omega))) rfl ?_
        refine WL.v (V.assign rfl) rfl ?_
        refine WL.done ?_
        refine WS.keep [9, 8, 0, 1, 2, 3] rfl ?_
        have hj1 : 1 ≤ j := by omega
        have ej : ((j : Int) - 1) = ((j - 1 : Nat) : Int) := by omega
        rw [ej]
        have hsw := sqn_swap zs j _ _ hj1 hjx hjy
        refine jh ⟨j - 1, _, by omega, (swap_perm zs j _ _ hj1 hjx hjy).trans zperm, fun p q h1 h2 h3 => ?_⟩ (by simp only; omega)
        rw [hsw p, hsw q]
        have a1 := zord p q h1 h2
        have a2 := zord (j - 1) q
        have a3 := zord p (j - 1)
        have a4 := zord j q
        split <;> split <;> (try split) <;> (try split) <;> omega
      · have hge : sqn zs (j - 1) ≤ sqn zs j := by
          rw [hkj, hkj1]
          unfold cmpI at h_
          split at h_ <;> omega
        refine WS.keep [8, 0, 1, 2, 3] rfl ?_
        refine ih ⟨i + 1, zs, by omega, by omega, zperm, fun p q h1 h2 => ?_⟩ (by simp only; omega)
        by_cases e : q = j
        · subst e
          by_cases e2 : p = q - 1
          · subst e2; exact hge
          · exact Nat.le_trans (zord p (q - 1) (by omega) (by omega) (by omega)) hge
        · exact zord p q h1 (by omega) e
    · refine WS.keep [8, 0, 1, 2, 3] rfl ?_
      refine ih ⟨i + 1, zs, by omega, by omega, zperm, fun p q h1 h2 => ?_⟩ (by simp only; omega)
      exact zord p q h1 (by omega) (by omega)
  · refine WS.fin rfl ?_
    refine ⟨ys, hperm, ?_, rfl⟩
    rw [List.pairwise_iff_getElem]
    intro p q hp hq hpq
    have hlen := hperm.length_eq
    have := hord p q hpq (by omega)
    simpa [sqn, hp, hq] using this

theorem pdqReq (db cap E0 : Nat) (xs : List Req) (junk : List Value) (lim : Int) (hb : xs.length ≤ 12) :
    Spec Tryz.prog 343 [sl db 0 xs.length cap, I 0, I xs.length, I lim, fv 192] [blk db E0 (flat encR xs ++ junk)]
      (fun v A => ∃ ys : List Req, ys.Perm xs ∧ ys.Pairwise (fun a b => a.id.seq ≤ b.id.seq) ∧ A = [blk db E0 (flat encR ys ++ junk)]) := by
  refine Spec.of Tryz.func343 rfl Tryz.call343 rfl (fun R => ?_)
  refine WS.seq ?_
  refine WS.region ?_
  refine WL.v (V.assign rfl) rfl ?_
  refine WL.done ?_
  refine WS.seq ?_
  refine WS.region ?_
  refine WL.v (V.assign rfl) rfl ?_
  refine WL.done ?_
  refine WS.block ?_
  refine WS.loop_rounds 1 ?_
  refine WS.round ?_
  refine WS.block ?_
  refine WS.seq ?_
  refine WS.region ?_
  refine WL.v (V.move rfl) rfl ?_
  refine WL.v (V.move rfl) rfl ?_
  refine WL.v (V.sub rfl rfl (fits_i64 (by omega) (by omega))) rfl ?_
  refine WL.v (V.assign rfl) rfl ?_
  refine WL.done ?_
  refine WS.seq ?_
  refine WS.seq ?_
  refine WS.region ?_
  refine WL.v (V.move rfl) rfl ?_
  refine WL.v (V.le rfl rfl) rfl ?_
  refine WL.done ?_
  (refine WS.condD rfl ?_ ?_) <;> intro h_ <;> try (exfalso; omega)
  refine WS.seq ?_
  refine WS.region ?_
  refine WL.v (V.move rfl) rfl ?_
  refine WL.v (V.move rfl) rfl ?_
  refine WL.v (V.move rfl) rfl ?_
  refine WL.v (V.move rfl) rfl ?_
  refine WL.call (insSort db cap E0 xs junk (by omega)) [0] rfl rfl rfl ?_
  rintro _ _ ⟨ys, h1, h2, rfl⟩
  refine WL.done ?_
  refine WS.ret rfl ?_
  exact ⟨ys, h1, h2, rfl⟩

theorem insSort_nil : Spec Tryz.prog 454 [.slice none 0 0, I 0, I 0, fv 192] [] (fun v A => A = []) := by
  refine Spec.of Tryz.func454 rfl Tryz.call454 rfl (fun R => ?_)
  refine WS.seq ?_
  refine WS.region ?_
  refine WL.v (V.move rfl) rfl ?_
  refine WL.v (V.add rfl rfl (fits_i64 (by omega) (by omega))) rfl ?_
  refine WL.v (V.assign rfl) rfl ?_
  refine WL.done ?_
  refine WS.block ?_
  refine WS.loop_rounds 1 ?_
  refine WS.round ?_
  refine WS.seq ?_
  refine WS.seq ?_
  refine WS.region ?_
  refine WL.v (V.move rfl) rfl ?_
  refine WL.v (V.move rfl) rfl ?_
  refine WL.v (V.lt rfl rfl) rfl ?_
  refine WL.done ?_
  refine WS.condF rfl ?_
  refine WS.exit rfl ?_
  refine WS.fin rfl ?_
  rfl

theorem pdqReq_nil (lim : Int) : Spec Tryz.prog 343 [.slice none 0 0, I 0, I 0, I lim, fv 192] [] (fun v A => A = []) := by
  refine Spec.of Tryz.func343 rfl Tryz.call343 rfl (fun R => ?_)
  refine WS.seq ?_
  refine WS.region ?_
  refine WL.v (V.assign rfl) rfl ?_
  refine WL.done ?_
  refine WS.seq ?_
  refine WS.region ?_
  refine WL.v (V.assign rfl) rfl ?_
  refine WL.done ?_
  refine WS.block ?_
  refine WS.loop_rounds 1 ?_
  refine WS.round ?_
  refine WS.block ?_
  refine WS.seq ?_
  refine WS.region ?_
  refine WL.v (V.move rfl) rfl ?_
  refine WL.v (V.move rfl) rfl ?_
  refine WL.v (V.sub rfl rfl (fits_i64 (by omega) (by omega))) rfl ?_
  refine WL.v (V.assign rfl) rfl ?_
  refine WL.done ?_
  refine WS.seq ?_
  refine WS.seq ?_
  refine WS.region ?_
  refine WL.v (V.move rfl) rfl ?_
  refine WL.v (V.le rfl rfl) rfl ?_
  refine WL.done ?_
  refine WS.condT rfl ?_
  refine WS.seq ?_
  refine WS.region ?_
  refine WL.v (V.move rfl) rfl ?_
  refine WL.v (V.move rfl) rfl ?_
  refine WL.v (V.move rfl) rfl ?_
  refine WL.v (V.move rfl) rfl ?_
  refine WL.call insSort_nil [] rfl rfl rfl ?_
  rintro _ _ rfl
  refine WL.done ?_
  refine WS.ret rfl ?_
  rfl

/-- a row of requests, put in order -/
theorem sortReq (s : SL encR 13) (hb : s.xs.length ≤ 12) :
    Spec Tryz.prog 191 [s.val, fv 192] [s.ch 210]
      (fun v A => ∃ s' : SL encR 13, s'.xs.Perm s.xs ∧ s'.xs.Pairwise (fun a b => a.id.seq ≤ b.id.seq) ∧ s'.val = s.val ∧ A = [s'.ch 210]) := by
  obtain ⟨xs, sb, cap, junk, hnil, hfit⟩ := s
  have e : IntKind.u64.wrap (xs.length : Int) = xs.length := by
    rw [wrap_u64]; simp only at hb; omega
  refine Spec.of Tryz.func191 rfl Tryz.call191 rfl (fun R => ?_)
  cases sb with
  | none =>
    have := hnil rfl; subst this
    refine WS.seq ?_
    refine WS.region ?_
    refine WL.v (V.move rfl) rfl ?_
    refine WL.v (V.lenS rfl) rfl ?_
    refine WL.v (V.assign rfl) rfl ?_
    refine WL.done ?_
    refine WS.region ?_
    refine WL.v (V.move rfl) rfl ?_
    refine WL.v (V.move rfl) rfl ?_
    refine WL.v (V.move rfl) rfl ?_
    refine WL.v (V.conv rfl) rfl ?_
    refine WL.call (Len_small 0 (by omega)) [] rfl rfl rfl ?_
    rintro _ _ ⟨⟨z, rfl⟩, rfl⟩
    refine WL.v (V.move rfl) rfl ?_
    refine WL.call (pdqReq_nil z) [] rfl rfl rfl ?_
    rintro _ _ rfl
    refine WL.done ?_
    refine WS.fin rfl ?_
    exact ⟨_, .refl _, List.Pairwise.nil, rfl, rfl⟩
  | some sb =>
    refine WS.seq ?_
    refine WS.region ?_
    refine WL.v (V.move rfl) rfl ?_
    refine WL.v (V.lenS rfl) rfl ?_
    refine WL.v (V.assign rfl) rfl ?_
    refine WL.done ?_
    refine WS.region ?_
    refine WL.v (V.move rfl) rfl ?_
    refine WL.v (V.move rfl) rfl ?_
    refine WL.v (V.move rfl) rfl ?_
    refine WL.v (V.conv rfl) rfl ?_
    rw [e]
    refine WL.call (Len_small xs.length (by simp only at hb; omega)) [] rfl rfl rfl ?_
    rintro _ _ ⟨⟨z, rfl⟩, rfl⟩
    refine WL.v (V.move rfl) rfl ?_
    refine WL.call (pdqReq sb cap 210 xs junk z hb) [0] rfl rfl rfl ?_
    rintro _ _ ⟨ys, h1, h2, rfl⟩
    refine WL.done ?_
    refine WS.fin rfl ?_
    refine ⟨⟨ys, some sb, cap, junk, by simp, fun _ => ?_⟩, h1, h2, ?_, rfl⟩
    · rw [h1.length_eq]; exact hfit (by simp)
    · simp only [SL.val, h1.length_eq]
end Go.Proofs
