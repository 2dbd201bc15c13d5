/- Part of the proof: W37. -/
import Derived.Test.YtjdjialgjmphjaaGreatW36
import Derived.Test.YtjdjialgjmphjaaGreatP12
set_option linter.all false
set_option maxRecDepth 100000
set_option maxHeartbeats 32000000
namespace Go.Proofs
open Go Go.Sep
attribute [local irreducible] WS WL WH WHT OpV OpR

/-! ## EnterChains -/

theorem and1 {kk : Nat} (h : kk < 6) : bitsOf .and .i64 (kk : Int) 1 = ((kk % 2 : Nat) : Int) := by
  rcases six h with rfl | rfl | rfl | rfl | rfl | rfl
  · exact and_eq _ _ 0 (by decide) (by omega)
  · exact and_eq _ _ 1 (by decide) (by omega)
  · exact and_eq _ _ 0 (by decide) (by omega)
  · exact and_eq _ _ 1 (by decide) (by omega)
  · exact and_eq _ _ 0 (by decide) (by omega)
  · exact and_eq _ _ 1 (by decide) (by omega)

def chFail (ks : Nat → Nat) : Nat → Bool
  | 0 => false
  | q + 1 => decide (chRes ks q < 0)
theorem chFail_true {ks : Nat → Nat} {j : Nat} (h : chFail ks j = true) : 1 ≤ j ∧ chRes ks (j - 1) < 0 := by
  cases j with
  | zero => simp [chFail] at h
  | succ q => exact ⟨by omega, by simpa [chFail] using h⟩
theorem chFail_false {ks : Nat → Nat} {j : Nat} (h : chFail ks j = false) : j = 0 ∨ 0 ≤ chRes ks (j - 1) := by
  cases j with
  | zero => left; rfl
  | succ q => right; simpa [chFail] using h
theorem chRes_cases (ks : Nat → Nat) (j : Nat) : (1 ≤ j ∧ ks (j - 1) / 2 = 1 ∧ chRes ks (j - 1) < 0 ∧ chRes ks j = -9) ∨
    ((j = 0 ∨ ks (j - 1) / 2 ≠ 1 ∨ 0 ≤ chRes ks (j - 1)) ∧ ((ks j % 2 = 1 ∧ chRes ks j = -11) ∨ (ks j % 2 = 0 ∧ chRes ks j = 0))) := by
  cases j with
  | zero =>
    right
    refine ⟨.inl rfl, ?_⟩
    by_cases h : ks 0 % 2 = 1
    · left; exact ⟨h, by simp [chRes, h]⟩
    · right; exact ⟨by omega, by simp [chRes, h]⟩
  | succ q =>
    simp only [Nat.add_sub_cancel]
    by_cases hc : ks q / 2 = 1 ∧ chRes ks q < 0
    · left; exact ⟨by omega, hc.1, hc.2, by simp only [chRes]; rw [if_pos hc]⟩
    · right
      refine ⟨by omega, ?_⟩
      by_cases h : ks (q + 1) % 2 = 1
      · left; exact ⟨h, by simp only [chRes]; rw [if_neg hc, if_pos h]⟩
      · right; exact ⟨by omega, by simp only [chRes]; rw [if_neg hc, if_neg h]⟩

theorem law_laidK (l : SL encS 8) (hl : l.xs.length ≤ 8) (hok : ∀ e ∈ l.xs, e.ok = true) :
    Spec Tryz.prog 45 [I 3, I 4, l.val] [l.ch 25] (fun v A => ∃ k : KW, k.view = AS.laid l.xs ∧ k.x.sqb = 3 ∧ k.x.cqb = 4 ∧ v = k.p ∧ A = [l.ch 25] ++ k.chs) := by
  refine Spec.of Tryz.func45 rfl Tryz.call45 rfl (fun R => ?_)
  refine WS.seq ?_
  refine WS.region ?_
  refine WL.v (V.assign rfl) rfl ?_
  refine WL.done ?_
  refine WS.seq ?_
  refine WS.region ?_
  refine WL.v (V.move rfl) rfl ?_
  refine WL.v (V.move rfl) rfl ?_
  refine WL.v (V.build rfl rfl rfl) rfl ?_
  refine WL.callB (core_New1 4 3 4 (by omega) (by omega) (by omega) (by omega)) [] rfl rfl rfl ?_
  rintro _ _ ⟨k, hv, hsq, hcq, rfl, rfl⟩
  refine WL.v (V.assign rfl) rfl ?_
  refine WL.done ?_
  refine WS.seq ?_
  refine WS.seq ?_
  refine WS.region ?_
  refine WL.v (V.move rfl) rfl ?_
  refine WL.v (V.eqNilP rfl rfl) rfl ?_
  refine WL.v (V.move rfl) rfl ?_
  refine WL.gy rfl rfl ?_
  refine WL.v (V.move rfl) rfl ?_
  refine WL.gy rfl rfl ?_
  refine WL.callB k.Mem (wk 1) rfl rfl rfl ?_
  rintro _ _ ⟨rfl, rfl⟩
  refine WL.gy rfl rfl ?_
  refine WL.v (V.eqNilP rfl rfl) rfl ?_
  refine WL.v (V.pickF rfl rfl) rfl ?_
  refine WL.v (V.move rfl) rfl ?_
  refine WL.gy rfl rfl ?_
  refine WL.v (V.move rfl) rfl ?_
  refine WL.gy rfl rfl ?_
  refine WL.callB (k.Ring 4) (wk 1) rfl rfl rfl ?_
  rintro _ _ ⟨rfl, rfl⟩
  rw [if_pos rfl]
  refine WL.gy rfl rfl ?_
  refine WL.v (V.eqNilP rfl rfl) rfl ?_
  refine WL.v (V.pickF rfl rfl) rfl ?_
  refine WL.v (V.move rfl) rfl ?_
  refine WL.gy rfl rfl ?_
  refine WL.v (V.move rfl) rfl ?_
  refine WL.gy rfl rfl ?_
  refine WL.callB k.Reqs (wk 1) rfl rfl rfl ?_
  rintro _ _ ⟨rfl, rfl⟩
  refine WL.gy rfl rfl ?_
  refine WL.v (V.eqNilP rfl rfl) rfl ?_
  refine WL.v (V.pickF rfl rfl) rfl ?_
  refine WL.v (V.move rfl) rfl ?_
  refine WL.gy rfl rfl ?_
  refine WL.v (V.move rfl) rfl ?_
  refine WL.gy rfl rfl ?_
  refine WL.callB k.Journal (wk 1) rfl rfl rfl ?_
  rintro _ _ ⟨rfl, rfl⟩
  refine WL.gy rfl rfl ?_
  refine WL.v (V.eqNilP rfl rfl) rfl ?_
  refine WL.v (V.pickF rfl rfl) rfl ?_
  refine WL.done ?_
  refine WS.condF rfl ?_
  refine WS.skip ?_
  refine WS.seq ?_
  refine WS.seq ?_
  refine WS.region ?_
  refine WL.v (V.assign rfl) rfl ?_
  refine WL.done ?_
  refine WS.block ?_
  refine WS.keep [8, 7, 2, 0] rfl ?_
  refine WS.loop (ι := {p : Nat × KW // p.1 ≤ l.xs.length ∧ p.2.x = k.x ∧ p.2.view = AS.fresh.lay l.xs p.1}) (fun p => [(8, I p.1.1), (7, k.p), (2, l.val), (0, I 3)]) (fun p => [l.ch 25] ++ p.1.2.chs) (fun p => l.xs.length - p.1.1)
    ⟨(0, k), by omega, rfl, hv⟩ ?_
  rintro ⟨⟨i, k1⟩, hi, hx1, hv1⟩ X ih
  simp only at ih hi hx1 hv1 ⊢
  rw [show k.p = k1.p from by rw [KW.p, KW.p, hx1]]
  refine WS.seq ?_
  refine WS.seq ?_
  refine WS.region ?_
  refine WL.v (V.move rfl) rfl ?_
  refine WL.v (V.move rfl) rfl ?_
  refine WL.v (V.lenSL rfl) rfl ?_
  refine WL.v (V.lt rfl rfl) rfl ?_
  refine WL.v (V.move rfl) rfl ?_
  (refine WL.gcaseD rfl rfl ?_ ?_) <;> intro h_ <;> try (exfalso; omega)
  refine WL.gy rfl rfl ?_
  refine WL.v (V.move rfl) rfl ?_
  refine WL.gy rfl rfl ?_
  refine WL.v (V.move rfl) rfl ?_
  refine WL.gy rfl rfl ?_
  refine WL.v (V.conv rfl) rfl ?_
  refine WL.gy rfl rfl ?_
  rotate_left
  refine WL.gn2 rfl rfl rfl rfl ?_
  refine WL.gn2 rfl rfl rfl rfl ?_
  refine WL.gn2 rfl rfl rfl rfl ?_
  refine WL.gn2 rfl rfl rfl rfl ?_
  refine WL.gn2 rfl rfl rfl rfl ?_
  refine WL.v (V.pickF rfl rfl) rfl ?_
  refine WL.done ?_
  refine WS.condF rfl ?_
  refine WS.exit rfl ?_
  refine WS.seq ?_
  rotate_left
  · rw [show IntKind.u64.wrap 3 = 3 from by decide]
    refine WL.v (V.shl rfl rfl (by omega)) rfl ?_
    rw [show IntKind.i64.wrap (1 * 2 ^ (min (3 : Int).toNat IntKind.i64.bits)) = 8 from by decide]
    have hget : l.xs[i]? = some (l.xs[i]'(by omega)) := by simp
    have hmem : l.xs[i]'(by omega) ∈ l.xs := List.getElem_mem _
    generalize l.xs[i]'(by omega) = e at hget hmem
    refine WL.gy rfl rfl ?_
    refine WL.v (V.lt rfl rfl) rfl ?_
    refine WL.v (V.pickT rfl rfl) rfl ?_
    refine WL.done ?_
    (refine WS.condD rfl ?_ ?_) <;> intro h_ <;> try (exfalso; omega)
    refine WS.skip ?_
    refine WS.seq ?_
    refine WS.block ?_
    refine WS.seq ?_
    refine WS.regionK [0] rfl Tryz.mixed rfl ?_
    refine WH.pick rfl ?_
    refine WHT.v (V.move rfl) rfl rfl rfl rfl ?_
    refine WH.pick rfl ?_
    refine WHT.v (V.move rfl) rfl rfl rfl rfl ?_
    refine WH.pick rfl ?_
    refine WHT.v (V.mul rfl rfl (fits_i64 (by omega) (by omega))) rfl rfl rfl rfl ?_
    refine WH.pick rfl ?_
    refine WHT.v (V.add rfl rfl (fits_i64 (by omega) (by omega))) rfl rfl rfl rfl ?_
    refine WH.pick rfl ?_
    refine WHT.v (V.move rfl) rfl rfl rfl rfl ?_
    refine WH.pick rfl ?_
    refine WHT.v (V.move rfl) rfl rfl rfl rfl ?_
    refine WH.pick rfl ?_
    refine WHT.v (V.indexSL rfl rfl (by constructor <;> omega)) rfl rfl rfl rfl ?_
    refine WH.pick rfl ?_
    refine WHT.rh (V.loadSL (enc := encS) 0 (i := i) (by simp only [Int.toNat_natCast]; rfl) rfl hget) rfl (by simp) rfl rfl rfl rfl ?_
    refine WH.big rfl rfl rfl ?_; intro _ _
    refine WL.callB k1.Mem (wk 1) rfl rfl rfl ?_
    rintro _ _ ⟨rfl, rfl⟩
    refine WL.nextH (ok := by assumption) (hns := by assumption) (by simp) ?_
    refine WH.big rfl rfl rfl ?_; intro _ _
    refine WL.callB (ref16_Bytes e (hok e hmem)) [] rfl rfl rfl ?_
    rintro _ _ ⟨s, hs, rfl, rfl⟩
    refine WL.nextH (ok := by assumption) (hns := by assumption) (by simp) ?_
    refine WH.big rfl rfl rfl ?_; intro _ _
    rw [show (16 : Int) + 32 * (i : Int) = ((16 + 32 * i : Nat) : Int) from by omega]
    refine WL.callB (k1.Write 5 (16 + 32 * i) s (by omega) (by omega) (by omega) (by rw [hs, Sqe.bytes_len]; omega) (by rw [hs, Sqe.bytes_len]; omega)) (wk 1 ++ [1]) rfl rfl rfl ?_
    rintro _ _ ⟨k2, hx2, hv2, rfl, rfl⟩
    rw [show k1.p = k2.p from by rw [KW.p, KW.p, hx2]]
    refine WL.nextH (ok := by assumption) (hns := by assumption) (by simp) ?_
    refine WH.pick rfl ?_
    refine WHT.v (V.not rfl) rfl rfl rfl rfl ?_
    refine WH.done ?_
    refine WS.condF rfl ?_
    refine WS.skip ?_
    refine WS.blk ?_
    refine WS.region ?_
    refine WL.v (V.move rfl) rfl ?_
    refine WL.v (V.add rfl rfl (fits_i64 (by omega) (by omega))) rfl ?_
    refine WL.v (V.assign rfl) rfl ?_
    refine WL.done ?_
    refine WS.keep [8, 7, 2, 0] rfl ?_
    refine WS.pick (0 :: wk 0) rfl ?_
    rw [show k2.p = k.p from by rw [KW.p, KW.p, hx2, hx1]]
    refine ih ⟨(i + 1, k2), by omega, hx2.trans hx1, ?_⟩ (by simp only; omega)
    simp only
    rw [lay_succ, hv2, hv1, hs, AS.lay1, hget]
    rfl
  · have hi' : i = l.xs.length := by omega
    subst hi'
    refine WS.keep [8, 7, 2, 0] rfl ?_
    have hconv : Value.int .u32 (IntKind.u32.wrap (l.xs.length : Int)) = U (UInt32.ofNat l.xs.length) := by
      rw [wrap_u32, U, UInt32.toNat_ofNat']
      congr 1
    refine WS.regionM (X := {k' : KW // k'.x = k.x ∧ k'.view = AS.laid l.xs}) (fun q => [(7, q.1.p)]) (fun q => [l.ch 25] ++ q.1.chs) [] Tryz.mixed rfl ?_ ?_
    · refine WH.pick rfl ?_
      refine WHT.v (V.move rfl) rfl rfl rfl rfl ?_
      refine WH.pick rfl ?_
      refine WHT.v (V.move rfl) rfl rfl rfl rfl ?_
      refine WH.pick rfl ?_
      refine WHT.v (V.lenSL rfl) rfl rfl rfl rfl ?_
      refine WH.pick rfl ?_
      refine WHT.v (V.conv rfl) rfl rfl rfl rfl ?_
      (refine WH.two rfl rfl rfl rfl rfl ?_ ?_) <;> intro _ _
      rotate_left
      rotate_left
      · refine WL.callB k1.Mem (wk 1) rfl rfl rfl ?_
        rintro _ _ ⟨rfl, rfl⟩
        refine WL.nextH (ok := by assumption) (hns := by assumption) (by simp) ?_
        refine WH.big rfl rfl rfl ?_; intro _ _
        refine WL.makeSliceC (l := 4) (m := 4) rfl rfl (by omega) rfl (by omega) (by omega) rfl ?_
        intro zb
        refine WL.nextH (ok := by assumption) (hns := by assumption) (by simp) ?_
        refine WH.big rfl rfl rfl ?_; intro _ _
        refine WL.perm (pre' := [(zero4 zb).ch 5, l.ch 25] ++ k1.chs) (List.Perm.refl _) ?_
        rw [show Value.slice (some ⟨zb, 0, none⟩) 4 4 = (zero4 zb).val from rfl, hconv]
        refine WL.callB (ref1_Put32 (zero4 zb) 0 (UInt32.ofNat l.xs.length) (by show 0 + 4 ≤ 4; omega) (by show 4 ≤ 1000000; omega)) [0] rfl rfl rfl ?_
        rintro _ _ ⟨s, hs, rfl, rfl⟩
        have hs4 : s.xs = le4 (UInt32.ofNat l.xs.length) := hs
        have hsl : s.xs.length = 4 := by rw [hs4, le4_len]
        refine WL.nextH (ok := by assumption) (hns := by assumption) (by simp) ?_
        refine WH.big rfl rfl rfl ?_; intro _ _
        refine WL.callB (k1.Write 5 4 s (by omega) (by omega) (by omega) (by omega) (by omega)) (wk 1 ++ [1]) rfl rfl rfl ?_
        rintro _ _ ⟨k2, hx2, hv2, rfl, rfl⟩
        rw [show k1.p = k2.p from by rw [KW.p, KW.p, hx2]]
        refine WL.nextH (ok := by assumption) (hns := by assumption) (by simp) ?_
        exact WH.doneM ⟨k2, hx2.trans hx1, by rw [hv2, hv1, hs4]; rfl⟩ (subEnv_restr [7] rfl rfl) (0 :: wk 1) rfl
      · refine WL.makeSliceC (l := 4) (m := 4) rfl rfl (by omega) rfl (by omega) (by omega) rfl ?_
        intro zb
        refine WL.nextH (ok := by assumption) (hns := by assumption) (by simp) ?_
        refine WH.big rfl rfl rfl ?_; intro _ _
        refine WL.callB k1.Mem (wk 2) rfl rfl rfl ?_
        rintro _ _ ⟨rfl, rfl⟩
        refine WL.nextH (ok := by assumption) (hns := by assumption) (by simp) ?_
        refine WH.big rfl rfl rfl ?_; intro _ _
        refine WL.perm (pre' := [(zero4 zb).ch 5, l.ch 25] ++ k1.chs) (List.Perm.refl _) ?_
        rw [show Value.slice (some ⟨zb, 0, none⟩) 4 4 = (zero4 zb).val from rfl, hconv]
        refine WL.callB (ref1_Put32 (zero4 zb) 0 (UInt32.ofNat l.xs.length) (by show 0 + 4 ≤ 4; omega) (by show 4 ≤ 1000000; omega)) [0] rfl rfl rfl ?_
        rintro _ _ ⟨s, hs, rfl, rfl⟩
        have hs4 : s.xs = le4 (UInt32.ofNat l.xs.length) := hs
        have hsl : s.xs.length = 4 := by rw [hs4, le4_len]
        refine WL.nextH (ok := by assumption) (hns := by assumption) (by simp) ?_
        refine WH.big rfl rfl rfl ?_; intro _ _
        refine WL.callB (k1.Write 5 4 s (by omega) (by omega) (by omega) (by omega) (by omega)) (wk 1 ++ [1]) rfl rfl rfl ?_
        rintro _ _ ⟨k2, hx2, hv2, rfl, rfl⟩
        rw [show k1.p = k2.p from by rw [KW.p, KW.p, hx2]]
        refine WL.nextH (ok := by assumption) (hns := by assumption) (by simp) ?_
        exact WH.doneM ⟨k2, hx2.trans hx1, by rw [hv2, hv1, hs4]; rfl⟩ (subEnv_restr [7] rfl rfl) (0 :: wk 1) rfl
    · rintro ⟨k2, hx2, hv2⟩
      refine WS.seq ?_
      refine WS.region ?_
      refine WL.v (V.move rfl) rfl ?_
      refine WL.v (V.assign rfl) rfl ?_
      refine WL.done ?_
      refine WS.ret rfl ?_
      exact ⟨k2, hv2, by rw [hx2]; exact hsq, by rw [hx2]; exact hcq, rfl, rfl⟩
theorem law_EnterChains (n : Int) (a : Option Addr) (len cap : Nat) (ch : Chunk) (zs : Nat → Int) (ha : ArgI .i64 a len cap ch zs) :
    Spec Tryz.prog 6 [.slice a len cap, I n] [ch] (fun v A => v = B true ∧ A = [ch]) := by
  refine Spec.of Tryz.func6 rfl Tryz.call6 rfl (fun R => ?_)
  refine WS.seq ?_
  refine WS.region ?_
  refine WL.v (V.assign rfl) rfl ?_
  refine WL.done ?_
  refine WS.seq ?_
  refine WS.region ?_
  refine WL.callB law_first [] rfl rfl rfl ?_
  rintro _ _ ⟨rfl, rfl⟩
  refine WL.v (V.assign rfl) rfl ?_
  refine WL.done ?_
  refine WS.seq ?_
  refine WS.seq ?_
  refine WS.region ?_
  refine WL.v (V.move rfl) rfl ?_
  refine WL.v (V.not rfl) rfl ?_
  refine WL.done ?_
  refine WS.condF rfl ?_
  refine WS.skip ?_
  refine WS.seq ?_
  refine WS.seq ?_
  refine WS.region ?_
  refine WL.v (V.move rfl) rfl ?_
  refine WL.v (V.lenS rfl) rfl ?_
  refine WL.v (V.gt rfl rfl) rfl ?_
  refine WL.done ?_
  (refine WS.condD rfl ?_ ?_) <;> intro h_ <;> try (exfalso; omega)
  refine WS.seq ?_
  refine WS.region ?_
  refine WL.v (V.move rfl) rfl ?_
  refine WL.v (V.assign rfl) rfl ?_
  refine WL.done ?_
  rotate_left
  refine WS.skip ?_
  refine WS.seq ?_
  refine WS.region ?_
  refine WL.v (V.assign rfl) rfl ?_
  refine WL.done ?_
  refine WS.seq ?_
  refine WS.seq ?_
  refine WS.region ?_
  refine WL.v (V.assign rfl) rfl ?_
  refine WL.done ?_
  refine WS.block ?_
  rotate_left
  · refine WS.pick [0] rfl ?_
    refine WS.ret rfl ?_
    exact ⟨rfl, rfl⟩
  · obtain ⟨ks, hks⟩ : ∃ ks : Nat → Nat, ∀ i, numI (zs i) 6 = (ks i : Int) ∧ ks i < 6 :=
      ⟨fun i => (numI (zs i) 6).toNat, fun i => by have := numI_range (zs i) 6 (by omega); simp only; omega⟩
    refine WS.keep [7, 6, 0, 1, 5] rfl ?_
    refine WS.perm (pre' := [(SL.empty : SL encS 8).ch 25, ch]) (List.Perm.refl _) ?_
    refine WS.loop (ι := {p : Nat × SL encS 8 // p.1 ≤ len ∧ p.2.xs = chEs ks p.1}) (fun p => [(7, I p.1.1), (6, p.1.2.val), (0, .slice a len cap), (1, I n), (5, B true)]) (fun p => [p.1.2.ch 25, ch]) (fun p => len - p.1.1)
      ⟨(0, SL.empty), by simp [chEs]⟩ ?_
    rintro ⟨⟨i, l⟩, hi, hl⟩ X ih
    simp only at ih hi hl ⊢
    have hll : l.xs.length = i := by rw [hl]; simp [chEs]
    refine WS.seq ?_
    refine WS.seq ?_
    refine WS.region ?_
    refine WL.v (V.move rfl) rfl ?_
    refine WL.v (V.move rfl) rfl ?_
    refine WL.v (V.lenS rfl) rfl ?_
    refine WL.v (V.lt rfl rfl) rfl ?_
    refine WL.done ?_
    (refine WS.condD rfl ?_ ?_) <;> intro h_ <;> try (exfalso; omega)
    refine WS.skip ?_
    refine WS.seq ?_
    refine WS.block ?_
    refine WS.seq ?_
    refine WS.region ?_
    refine WL.v (V.move rfl) rfl ?_
    refine WL.v (V.move rfl) rfl ?_
    rotate_left
    refine WS.exit rfl ?_
    refine WS.seq ?_
    refine WS.region ?_
    refine WL.v (V.move rfl) rfl ?_
    rotate_left
    · obtain ⟨b, o, c, Tb, fr, rfl, rfl, hc⟩ := ha.row (by omega)
      have hcj : c[o + (i : Int).toNat * 1]? = some (I (zs i)) := by
        rw [show o + (i : Int).toNat * 1 = o + i from by omega]
        exact hc i (by omega)
      refine WL.v (V.indexAddr rfl rfl (by constructor <;> omega)) rfl ?_
      refine WL.r (V.loadRaw 1 rfl rfl hcj) rfl ?_
      skip
      refine WL.callB (world_Number (zs i) 6 (by omega) (by omega)) [] rfl rfl rfl ?_
      rintro _ _ ⟨rfl, rfl⟩
      obtain ⟨hk1, hk6⟩ := hks i
      rw [hk1]
      have hb1 := and1 hk6
      generalize hkk : ks i = kk at hb1 hk6
      have htd : ((kk : Nat) : Int).tdiv 2 = ((kk / 2 : Nat) : Int) := rfl
      have hgt : ∀ {kk : Nat}, kk < 6 → getN (0 + ((kk / 2 : Nat) : Int).toNat * 1) 1 [I 0, I 1, I 2] = some [I ((kk / 2 : Nat) : Int)] := by
        intro kk h
        rcases six h with rfl | rfl | rfl | rfl | rfl | rfl <;> rfl
      refine WL.v (V.assign rfl) rfl ?_
      refine WL.done ?_
      refine WS.seq ?_
      refine WS.region ?_
      refine WL.v (V.move rfl) rfl ?_
      refine WL.v (V.conv rfl) rfl ?_
      refine WL.v (V.build rfl rfl rfl) rfl ?_
      refine WL.alloc rfl ?_; intro r_
      refine WL.store 0 rfl rfl rfl rfl rfl rfl ?_
      refine WL.done ?_
      refine WS.seq ?_
      refine WS.seq ?_
      refine WS.region ?_
      refine WL.v (V.move rfl) rfl ?_
      refine WL.v (V.bits rfl rfl rfl) rfl ?_
      refine WL.v (V.eqi rfl rfl) rfl ?_
      refine WL.done ?_
      (refine WS.condD rfl ?_ ?_) <;> intro h_ <;> try (exfalso; omega)
      refine WS.seq ?_
      refine WS.region ?_
      refine WL.v (V.fieldAddr rfl) rfl ?_
      refine WL.store 0 rfl rfl rfl rfl rfl rfl ?_
      refine WL.done ?_
      refine WS.region ?_
      refine WL.v (V.fieldAddr rfl) rfl ?_
      refine WL.store 0 rfl rfl rfl rfl rfl rfl ?_
      refine WL.done ?_
      refine WS.seq ?_
      refine WS.region ?_
      rotate_left
      refine WS.skip ?_
      refine WS.seq ?_
      refine WS.region ?_
      rotate_left
      · have hE : chainE (ks i) i = ⟨20, ((kk / 2 : Nat) : Int), UInt32.ofNat i, 0, 999, 0, 0, 0⟩ := by
          rw [hkk]; unfold chainE; rw [if_pos (by omega), if_pos (by omega)]
        refine WL.sliceK (m := 1) (len := 3) rfl rfl (by omega) (by omega) rfl rfl rfl ?_
        intro lb
        refine WL.v (V.move rfl) rfl ?_
        refine WL.v (V.quo rfl rfl (by omega) (by rw [htd]; exact fits_i64 (by omega) (by omega))) rfl ?_
        rw [htd]
        refine WL.v (V.indexAddr rfl rfl (by constructor <;> omega)) rfl ?_
        refine WL.r (V.load1 0 (b := lb) rfl rfl (hgt hk6)) rfl ?_
        refine WL.v (V.fieldAddr rfl) rfl ?_
        refine WL.store 1 rfl rfl rfl rfl rfl rfl ?_
        refine WL.done ?_
        refine WS.region ?_
        refine WL.v (V.move rfl) rfl ?_
        refine WL.r (V.loadN 0 rfl rfl rfl) rfl ?_
        rw [u32_ofNat i]
        refine WL.slice1 (m := 8) rfl rfl rfl (by omega) (by omega) rfl ?_
        intro nb
        refine WL.append (enc := encS) [⟨20, ((kk / 2 : Nat) : Int), UInt32.ofNat i, 0, 999, 0, 0, 0⟩] 3 l rfl rfl rfl rfl (.inr ⟨nb, 0, 1, 0, 25, _, rfl, rfl, rfl⟩) (by simp only [List.length_cons, List.length_nil]; omega) rfl ?_
        intro l' hl'
        refine WL.v (V.assign rfl) rfl ?_
        refine WL.done ?_
        refine WS.blk ?_
        refine WS.region ?_
        refine WL.v (V.move rfl) rfl ?_
        refine WL.v (V.add rfl rfl (fits_i64 (by omega) (by omega))) rfl ?_
        refine WL.v (V.assign rfl) rfl ?_
        refine WL.done ?_
        refine WS.keep [7, 6, 0, 1, 5] rfl ?_
        refine WS.pick [0, 3] rfl ?_
        exact ih ⟨(i + 1, l'), by simp only; omega, by simp only; rw [hl', hl, ← hE]; simp only [chEs]; rw [List.range_succ, List.map_append]; rfl⟩ (by simp only; omega)
      · have hE : chainE (ks i) i = ⟨1, ((kk / 2 : Nat) : Int), UInt32.ofNat i, 0, 0, 0, 0, 0⟩ := by
          rw [hkk]; unfold chainE; rw [if_neg (by omega), if_neg (by omega)]
        refine WL.sliceK (m := 1) (len := 3) rfl rfl (by omega) (by omega) rfl rfl rfl ?_
        intro lb
        refine WL.v (V.move rfl) rfl ?_
        refine WL.v (V.quo rfl rfl (by omega) (by rw [htd]; exact fits_i64 (by omega) (by omega))) rfl ?_
        rw [htd]
        refine WL.v (V.indexAddr rfl rfl (by constructor <;> omega)) rfl ?_
        refine WL.r (V.load1 0 (b := lb) rfl rfl (hgt hk6)) rfl ?_
        refine WL.v (V.fieldAddr rfl) rfl ?_
        refine WL.store 1 rfl rfl rfl rfl rfl rfl ?_
        refine WL.done ?_
        refine WS.region ?_
        refine WL.v (V.move rfl) rfl ?_
        refine WL.r (V.loadN 0 rfl rfl rfl) rfl ?_
        rw [u32_ofNat i]
        refine WL.slice1 (m := 8) rfl rfl rfl (by omega) (by omega) rfl ?_
        intro nb
        refine WL.append (enc := encS) [⟨1, ((kk / 2 : Nat) : Int), UInt32.ofNat i, 0, 0, 0, 0, 0⟩] 3 l rfl rfl rfl rfl (.inr ⟨nb, 0, 1, 0, 25, _, rfl, rfl, rfl⟩) (by simp only [List.length_cons, List.length_nil]; omega) rfl ?_
        intro l' hl'
        refine WL.v (V.assign rfl) rfl ?_
        refine WL.done ?_
        refine WS.blk ?_
        refine WS.region ?_
        refine WL.v (V.move rfl) rfl ?_
        refine WL.v (V.add rfl rfl (fits_i64 (by omega) (by omega))) rfl ?_
        refine WL.v (V.assign rfl) rfl ?_
        refine WL.done ?_
        refine WS.keep [7, 6, 0, 1, 5] rfl ?_
        refine WS.pick [0, 3] rfl ?_
        exact ih ⟨(i + 1, l'), by simp only; omega, by simp only; rw [hl', hl, ← hE]; simp only [chEs]; rw [List.range_succ, List.map_append]; rfl⟩ (by simp only; omega)
    · have hi' : i = len := by omega
      subst hi'
      clear ih
      skip
      refine WL.callB (law_laidK l (by omega) (by rw [hl]; intro e he; obtain ⟨j, _, rfl⟩ := List.mem_map.1 he; exact chain_ok _ _ (hks j).2)) [0] rfl rfl rfl ?_
      rintro _ _ ⟨k, hv, hsq, hcq, rfl, rfl⟩
      rw [hl] at hv
      have hrdy : Rdy k.view (chEs ks i) 4 := by rw [hv]; exact laid_rdy _ 4 (by simp [chEs]; omega)
      have hr60 := numI_range n 60 (by omega)
      refine WL.v (V.assign rfl) rfl ?_
      refine WL.done ?_
      refine WS.seq ?_
      refine WS.seq ?_
      refine WS.region ?_
      refine WL.v (V.move rfl) rfl ?_
      refine WL.v (V.eqNilP rfl rfl) rfl ?_
      refine WL.done ?_
      refine WS.condF rfl ?_
      refine WS.skip ?_
      refine WS.seq ?_
      refine WS.region ?_
      refine WL.v (V.move rfl) rfl ?_
      refine WL.callB (world_Number n 60 (by omega) (by omega)) [] rfl rfl rfl ?_
      rintro _ _ ⟨rfl, rfl⟩
      generalize numI n 60 = z at hr60
      refine WL.v (V.add rfl rfl (fits_i64 (by omega) (by omega))) rfl ?_
      refine WL.v (V.assign rfl) rfl ?_
      refine WL.done ?_
      refine WS.seq ?_
      refine WS.seq ?_
      refine WS.region ?_
      refine WL.v (V.move rfl) rfl ?_
      refine WL.v (V.move rfl) rfl ?_
      have hin : EIn k.x.sqb k.x.cqb (8 + z) k.view i 16 := by rw [hsq, hcq]; exact chain_in hrdy (fun j => (hks j).2) (by omega) _
      refine WL.callB (k.EnterE (8 + z) i 16 hin) (wk 2) rfl rfl rfl ?_
      rintro _ _ ⟨k3, hx3, hv3, rfl, rfl⟩
      rw [show k.p = k3.p from by rw [KW.p, KW.p, hx3]]
      obtain ⟨hdl, hout⟩ := hin.out _ rfl
      rw [← hv3] at hout
      have hmi : min i (bud (8 + z)) = i := by unfold bud; omega
      rw [hmi] at hdl hout ⊢
      rw [hsq, hcq] at hout
      have hmo : ChainOut ks i k3.view := chain_out hrdy (fun j => (hks j).2) hout
      clear hv3 hout hdl hin
      refine WL.v (V.move rfl) rfl ?_
      refine WL.v (V.lenSL rfl) rfl ?_
      refine WL.v (V.nei rfl rfl) rfl ?_
      refine WL.done ?_
      (refine WS.condN rfl ?_ ?_) <;> intro h_ <;> try (exfalso; omega)
      refine WS.skip ?_
      refine WS.seq ?_
      refine WS.region ?_
      refine WL.v (V.move rfl) rfl ?_
      refine WL.callB k3.Journal (wk 2) rfl rfl rfl ?_
      rintro _ _ ⟨rfl, rfl⟩
      skip
      have hjl : k3.j.xs.length = i := hmo.jl
      have hL : k3.t.L = [] := hmo.L
      have hof : k3.t.of 4 = [] := by unfold RT.of; rw [hL]; rfl
      refine WL.callB (k3.JAll (by omega)) (wk 2) rfl rfl rfl ?_
      rintro _ _ ⟨s, hs, rfl, rfl⟩
      have hsl : s.xs.length = i := by rw [hs]; exact hmo.jl
      refine WL.v (V.assign rfl) rfl ?_
      refine WL.done ?_
      refine WS.seq ?_
      refine WS.seq ?_
      refine WS.region ?_
      refine WL.v (V.move rfl) rfl ?_
      refine WL.v (V.lenSL rfl) rfl ?_
      refine WL.v (V.move rfl) rfl ?_
      refine WL.v (V.lenSL rfl) rfl ?_
      refine WL.v (V.nei rfl rfl) rfl ?_
      refine WL.v (V.move rfl) rfl ?_
      (refine WL.gcaseN rfl rfl ?_ ?_) <;> intro h_ <;> try (exfalso; omega)
      refine WL.gy rfl rfl ?_
      refine WL.v (V.move rfl) rfl ?_
      refine WL.gy rfl rfl ?_
      refine WL.callB k3.Reqs (wk 3) rfl rfl rfl ?_
      rintro _ _ ⟨rfl, rfl⟩
      refine WL.gy rfl rfl ?_
      refine WL.callB (k3.Of (by rw [hof]; simp) (by rw [hL]; simp)) (wk 3) rfl rfl rfl ?_
      rintro _ _ ⟨s2, hs2, rfl, rfl⟩
      have hsl2 : s2.xs.length = 0 := by rw [hs2, hof]; rfl
      refine WL.gy rfl rfl ?_
      refine WL.v (V.lenSL rfl) rfl ?_
      refine WL.gy rfl rfl ?_
      refine WL.v (V.nei rfl rfl) rfl ?_
      refine WL.v (V.pickF rfl rfl) rfl ?_
      refine WL.done ?_
      (refine WS.condN rfl ?_ ?_) <;> intro h_ <;> try (exfalso; omega)
      refine WS.skip ?_
      refine WS.seq ?_
      refine WS.region ?_
      refine WL.v (V.assign rfl) rfl ?_
      refine WL.done ?_
      refine WS.seq ?_
      refine WS.seq ?_
      refine WS.region ?_
      refine WL.v (V.assign rfl) rfl ?_
      refine WL.done ?_
      refine WS.block ?_
      refine WS.keep [13, 12, 11, 6, 5] rfl ?_
      refine WS.pick [0, 0, 0] rfl ?_
      refine WS.loop (ι := {p : Nat × Bool // p.1 ≤ i ∧ p.2 = chFail ks p.1}) (fun p => [(13, I p.1.1), (12, B p.1.2), (11, s.val), (6, l.val), (5, B true)]) (fun _ => [ch, l.ch 25, s.ch 73]) (fun p => i - p.1.1)
        ⟨(0, false), by simp [chFail]⟩ ?_
      rintro ⟨⟨j, f⟩, hj, hf⟩ X ih
      simp only at ih hj hf ⊢
      rcases Nat.lt_or_ge j i with hlt | hge
      · have hres := chRes_cases ks j
        have hdg : s.xs[j]? = some (dd (chR ks j) (chRes ks j)) := by rw [hs]; exact hmo.get hlt
        have hat : atD s.xs ⟨4, j + 1⟩ = some j := by rw [hs]; exact hmo.at_ hlt
        have hlg : l.xs[j]? = some (chainE (ks j) j) := by rw [hl, chEs, List.getElem?_map, List.getElem?_range hlt]; rfl
        have hlp : l.xs[j - 1]? = some (chainE (ks (j - 1)) (j - 1)) := by rw [hl, chEs, List.getElem?_map, List.getElem?_range (by omega)]; rfl
        have hw : IntKind.u32.wrap (j : Int) = (((UInt32.ofNat j).toNat : Nat) : Int) := by
          rw [UInt32.toNat_ofNat', wrap_u32]; omega
        cases f with
        | true =>
          obtain ⟨h0, hn⟩ : 1 ≤ j ∧ chRes ks (j - 1) < 0 := chFail_true hf.symm
          by_cases hlk : ks (j - 1) / 2 = 1
          · by_cases hod : ks j % 2 = 1
            · skip
              have hr : chRes ks j = -9 := by omega
              refine WS.seq ?_
              refine WS.seq ?_
              refine WS.region ?_
              refine WL.v (V.move rfl) rfl ?_
              refine WL.v (V.move rfl) rfl ?_
              refine WL.v (V.lenSL rfl) rfl ?_
              refine WL.v (V.lt rfl rfl) rfl ?_
              refine WL.done ?_
              (refine WS.condD rfl ?_ ?_) <;> intro h_ <;> try (exfalso; omega)
              refine WS.skip ?_
              refine WS.seq ?_
              refine WS.block ?_
              refine WS.seq ?_
              refine WS.region ?_
              refine WL.v (V.move rfl) rfl ?_
              refine WL.v (V.gt rfl rfl) rfl ?_
              refine WL.v (V.move rfl) rfl ?_
              (refine WL.gcaseD rfl rfl ?_ ?_) <;> intro h_ <;> try (exfalso; omega)
              refine WL.gy rfl rfl ?_
              refine WL.v (V.move rfl) rfl ?_
              refine WL.v (V.pickT rfl rfl) rfl ?_
              refine WL.v (V.move rfl) rfl ?_
              refine WL.gy rfl rfl ?_
              refine WL.v (V.move rfl) rfl ?_
              refine WL.gy rfl rfl ?_
              refine WL.v (V.move rfl) rfl ?_
              refine WL.gy rfl rfl ?_
              refine WL.v (V.sub rfl rfl (fits_i64 (by omega) (by omega))) rfl ?_
              refine WL.gy rfl rfl ?_
              refine WL.v (V.indexSL rfl rfl (by constructor <;> omega)) rfl ?_
              rw [show (((j : Nat) : Int) - 1).toNat = j - 1 from by omega]
              refine WL.gy rfl rfl ?_
              refine WL.v (V.fieldAddr rfl) rfl ?_
              refine WL.gy rfl rfl ?_
              refine WL.r (V.loadPart1 (enc := encS) 1 (i := j - 1) (j := 1) (v := I 1) rfl rfl hlp (by show some [I ((ks (j - 1) / 2 : Nat) : Int)] = _; rw [hlk]; rfl)) rfl ?_
              refine WL.gy rfl rfl ?_
              refine WL.v (V.eqi rfl rfl) rfl ?_
              refine WL.v (V.pickT rfl rfl) rfl ?_
              refine WL.v (V.assign rfl) rfl ?_
              refine WL.done ?_
              refine WS.seq ?_
              refine WS.region ?_
              refine WL.v (V.assign rfl) rfl ?_
              refine WL.done ?_
              refine WS.seq ?_
              refine WS.seq ?_
              refine WS.region ?_
              refine WL.v (V.move rfl) rfl ?_
              refine WL.v (V.move rfl) rfl ?_
              refine WL.v (V.indexSL rfl rfl (by constructor <;> omega)) rfl ?_
              refine WL.v (V.fieldAddr rfl) rfl ?_
              refine WL.r (V.loadPart1 (enc := encS) 1 (i := j) (j := 0) (v := I 20) (by simp only [Int.toNat_natCast]; rfl) rfl hlg (by show some [I (if ks j % 2 = 1 then 20 else 1)] = _; rw [if_pos (by omega)])) rfl ?_
              refine WL.v (V.eqi rfl rfl) rfl ?_
              refine WL.done ?_
              refine WS.condT rfl ?_
              refine WS.region ?_
              refine WL.v (V.assign rfl) rfl ?_
              refine WL.done ?_
              refine WS.seq ?_
              refine WS.seq ?_
              refine WS.region ?_
              refine WL.v (V.move rfl) rfl ?_
              refine WL.done ?_
              refine WS.condT rfl ?_
              refine WS.region ?_
              refine WL.v (V.assign rfl) rfl ?_
              refine WL.done ?_
              refine WS.seq ?_
              refine WS.region ?_
              refine WL.v (V.move rfl) rfl ?_
              refine WL.v (V.move rfl) rfl ?_
              refine WL.v (V.add rfl rfl (fits_i64 (by omega) (by omega))) rfl ?_
              refine WL.v (V.build rfl rfl rfl) rfl ?_
              rw [show ((j : Int) + 1) = ((j + 1 : Nat) : Int) from by omega]
              refine WL.callB (same_At s ⟨4, j + 1⟩ (by omega)) [2] rfl rfl rfl ?_
              rintro _ _ ⟨rfl, rfl⟩
              rw [hat]
              simp only [Option.getD_some, Option.isSome_some]
              refine WL.v (V.move rfl) rfl ?_
              refine WL.v (V.extractL rfl rfl) rfl ?_
              refine WL.v (V.extractL rfl rfl) rfl ?_
              refine WL.v (V.assign rfl) rfl ?_
              refine WL.v (V.assign rfl) rfl ?_
              refine WL.done ?_
              refine WS.seq ?_
              refine WS.seq ?_
              refine WS.region ?_
              refine WL.v (V.move rfl) rfl ?_
              refine WL.v (V.not rfl) rfl ?_
              refine WL.v (V.move rfl) rfl ?_
              refine WL.gy rfl rfl ?_
              refine WL.v (V.move rfl) rfl ?_
              refine WL.gy rfl rfl ?_
              refine WL.v (V.move rfl) rfl ?_
              refine WL.gy rfl rfl ?_
              refine WL.v (V.nei rfl rfl) rfl ?_
              refine WL.v (V.pickF rfl rfl) rfl ?_
              refine WL.v (V.move rfl) rfl ?_
              (refine WL.gcaseN rfl rfl ?_ ?_) <;> intro h_ <;> try (exfalso; omega)
              refine WL.gy rfl rfl ?_
              refine WL.v (V.move rfl) rfl ?_
              refine WL.gy rfl rfl ?_
              refine WL.v (V.move rfl) rfl ?_
              refine WL.gy rfl rfl ?_
              refine WL.v (V.indexSL rfl rfl (by constructor <;> omega)) rfl ?_
              refine WL.gy rfl rfl ?_
              refine WL.v (V.fieldAddr rfl) rfl ?_
              refine WL.gy rfl rfl ?_
              refine WL.r (V.loadPart1 (enc := encD) 2 (i := j) (j := 4) (v := I (-9)) (by simp only [Int.toNat_natCast]; rfl) rfl hdg (by show some [I (chRes ks j)] = _; rw [hr])) rfl ?_
              refine WL.gy rfl rfl ?_
              refine WL.v (V.move rfl) rfl ?_
              refine WL.gy rfl rfl ?_
              refine WL.v (V.nei rfl rfl) rfl ?_
              refine WL.v (V.pickF rfl rfl) rfl ?_
              refine WL.v (V.move rfl) rfl ?_
              refine WL.gy rfl rfl ?_
              refine WL.v (V.move rfl) rfl ?_
              refine WL.gy rfl rfl ?_
              refine WL.v (V.move rfl) rfl ?_
              refine WL.gy rfl rfl ?_
              refine WL.v (V.indexSL rfl rfl (by constructor <;> omega)) rfl ?_
              refine WL.gy rfl rfl ?_
              refine WL.v (V.fieldAddr rfl) rfl ?_
              refine WL.gy rfl rfl ?_
              refine WL.r (V.loadPart1 (enc := encD) 2 (i := j) (j := 2) (v := U (UInt32.ofNat j)) (by simp only [Int.toNat_natCast]; rfl) rfl hdg rfl) rfl ?_
              refine WL.gy rfl rfl ?_
              refine WL.v (V.move rfl) rfl ?_
              refine WL.gy rfl rfl ?_
              refine WL.v (V.conv rfl) rfl ?_
              refine WL.gy rfl rfl ?_
              refine WL.v (V.nei rfl rfl) rfl ?_
              refine WL.v (V.pickF rfl rfl) rfl ?_
              refine WL.done ?_
              (refine WS.condN rfl ?_ ?_) <;> intro h_ <;> try (exfalso; omega)
              refine WS.skip ?_
              refine WS.region ?_
              refine WL.v (V.move rfl) rfl ?_
              refine WL.v (V.lt rfl rfl) rfl ?_
              refine WL.v (V.assign rfl) rfl ?_
              refine WL.done ?_
              refine WS.blk ?_
              refine WS.region ?_
              refine WL.v (V.move rfl) rfl ?_
              refine WL.v (V.add rfl rfl (fits_i64 (by omega) (by omega))) rfl ?_
              refine WL.v (V.assign rfl) rfl ?_
              refine WL.done ?_
              refine WS.keep [13, 12, 11, 6, 5] rfl ?_
              exact ih ⟨(j + 1, _), by simp only; omega, by simp only [chFail, hr]; rfl⟩ (by simp only; omega)
            · skip
              have hr : chRes ks j = -9 := by omega
              refine WS.seq ?_
              refine WS.seq ?_
              refine WS.region ?_
              refine WL.v (V.move rfl) rfl ?_
              refine WL.v (V.move rfl) rfl ?_
              refine WL.v (V.lenSL rfl) rfl ?_
              refine WL.v (V.lt rfl rfl) rfl ?_
              refine WL.done ?_
              (refine WS.condD rfl ?_ ?_) <;> intro h_ <;> try (exfalso; omega)
              refine WS.skip ?_
              refine WS.seq ?_
              refine WS.block ?_
              refine WS.seq ?_
              refine WS.region ?_
              refine WL.v (V.move rfl) rfl ?_
              refine WL.v (V.gt rfl rfl) rfl ?_
              refine WL.v (V.move rfl) rfl ?_
              (refine WL.gcaseD rfl rfl ?_ ?_) <;> intro h_ <;> try (exfalso; omega)
              refine WL.gy rfl rfl ?_
              refine WL.v (V.move rfl) rfl ?_
              refine WL.v (V.pickT rfl rfl) rfl ?_
              refine WL.v (V.move rfl) rfl ?_
              refine WL.gy rfl rfl ?_
              refine WL.v (V.move rfl) rfl ?_
              refine WL.gy rfl rfl ?_
              refine WL.v (V.move rfl) rfl ?_
              refine WL.gy rfl rfl ?_
              refine WL.v (V.sub rfl rfl (fits_i64 (by omega) (by omega))) rfl ?_
              refine WL.gy rfl rfl ?_
              refine WL.v (V.indexSL rfl rfl (by constructor <;> omega)) rfl ?_
              rw [show (((j : Nat) : Int) - 1).toNat = j - 1 from by omega]
              refine WL.gy rfl rfl ?_
              refine WL.v (V.fieldAddr rfl) rfl ?_
              refine WL.gy rfl rfl ?_
              refine WL.r (V.loadPart1 (enc := encS) 1 (i := j - 1) (j := 1) (v := I 1) rfl rfl hlp (by show some [I ((ks (j - 1) / 2 : Nat) : Int)] = _; rw [hlk]; rfl)) rfl ?_
              refine WL.gy rfl rfl ?_
              refine WL.v (V.eqi rfl rfl) rfl ?_
              refine WL.v (V.pickT rfl rfl) rfl ?_
              refine WL.v (V.assign rfl) rfl ?_
              refine WL.done ?_
              refine WS.seq ?_
              refine WS.region ?_
              refine WL.v (V.assign rfl) rfl ?_
              refine WL.done ?_
              refine WS.seq ?_
              refine WS.seq ?_
              refine WS.region ?_
              refine WL.v (V.move rfl) rfl ?_
              refine WL.v (V.move rfl) rfl ?_
              refine WL.v (V.indexSL rfl rfl (by constructor <;> omega)) rfl ?_
              refine WL.v (V.fieldAddr rfl) rfl ?_
              refine WL.r (V.loadPart1 (enc := encS) 1 (i := j) (j := 0) (v := I 1) (by simp only [Int.toNat_natCast]; rfl) rfl hlg (by show some [I (if ks j % 2 = 1 then 20 else 1)] = _; rw [if_neg (by omega)])) rfl ?_
              refine WL.v (V.eqi rfl rfl) rfl ?_
              refine WL.done ?_
              refine WS.condF rfl ?_
              refine WS.skip ?_
              refine WS.seq ?_
              refine WS.seq ?_
              refine WS.region ?_
              refine WL.v (V.move rfl) rfl ?_
              refine WL.done ?_
              refine WS.condT rfl ?_
              refine WS.region ?_
              refine WL.v (V.assign rfl) rfl ?_
              refine WL.done ?_
              refine WS.seq ?_
              refine WS.region ?_
              refine WL.v (V.move rfl) rfl ?_
              refine WL.v (V.move rfl) rfl ?_
              refine WL.v (V.add rfl rfl (fits_i64 (by omega) (by omega))) rfl ?_
              refine WL.v (V.build rfl rfl rfl) rfl ?_
              rw [show ((j : Int) + 1) = ((j + 1 : Nat) : Int) from by omega]
              refine WL.callB (same_At s ⟨4, j + 1⟩ (by omega)) [2] rfl rfl rfl ?_
              rintro _ _ ⟨rfl, rfl⟩
              rw [hat]
              simp only [Option.getD_some, Option.isSome_some]
              refine WL.v (V.move rfl) rfl ?_
              refine WL.v (V.extractL rfl rfl) rfl ?_
              refine WL.v (V.extractL rfl rfl) rfl ?_
              refine WL.v (V.assign rfl) rfl ?_
              refine WL.v (V.assign rfl) rfl ?_
              refine WL.done ?_
              refine WS.seq ?_
              refine WS.seq ?_
              refine WS.region ?_
              refine WL.v (V.move rfl) rfl ?_
              refine WL.v (V.not rfl) rfl ?_
              refine WL.v (V.move rfl) rfl ?_
              refine WL.gy rfl rfl ?_
              refine WL.v (V.move rfl) rfl ?_
              refine WL.gy rfl rfl ?_
              refine WL.v (V.move rfl) rfl ?_
              refine WL.gy rfl rfl ?_
              refine WL.v (V.nei rfl rfl) rfl ?_
              refine WL.v (V.pickF rfl rfl) rfl ?_
              refine WL.v (V.move rfl) rfl ?_
              (refine WL.gcaseN rfl rfl ?_ ?_) <;> intro h_ <;> try (exfalso; omega)
              refine WL.gy rfl rfl ?_
              refine WL.v (V.move rfl) rfl ?_
              refine WL.gy rfl rfl ?_
              refine WL.v (V.move rfl) rfl ?_
              refine WL.gy rfl rfl ?_
              refine WL.v (V.indexSL rfl rfl (by constructor <;> omega)) rfl ?_
              refine WL.gy rfl rfl ?_
              refine WL.v (V.fieldAddr rfl) rfl ?_
              refine WL.gy rfl rfl ?_
              refine WL.r (V.loadPart1 (enc := encD) 2 (i := j) (j := 4) (v := I (-9)) (by simp only [Int.toNat_natCast]; rfl) rfl hdg (by show some [I (chRes ks j)] = _; rw [hr])) rfl ?_
              refine WL.gy rfl rfl ?_
              refine WL.v (V.move rfl) rfl ?_
              refine WL.gy rfl rfl ?_
              refine WL.v (V.nei rfl rfl) rfl ?_
              refine WL.v (V.pickF rfl rfl) rfl ?_
              refine WL.v (V.move rfl) rfl ?_
              refine WL.gy rfl rfl ?_
              refine WL.v (V.move rfl) rfl ?_
              refine WL.gy rfl rfl ?_
              refine WL.v (V.move rfl) rfl ?_
              refine WL.gy rfl rfl ?_
              refine WL.v (V.indexSL rfl rfl (by constructor <;> omega)) rfl ?_
              refine WL.gy rfl rfl ?_
              refine WL.v (V.fieldAddr rfl) rfl ?_
              refine WL.gy rfl rfl ?_
              refine WL.r (V.loadPart1 (enc := encD) 2 (i := j) (j := 2) (v := U (UInt32.ofNat j)) (by simp only [Int.toNat_natCast]; rfl) rfl hdg rfl) rfl ?_
              refine WL.gy rfl rfl ?_
              refine WL.v (V.move rfl) rfl ?_
              refine WL.gy rfl rfl ?_
              refine WL.v (V.conv rfl) rfl ?_
              refine WL.gy rfl rfl ?_
              refine WL.v (V.nei rfl rfl) rfl ?_
              refine WL.v (V.pickF rfl rfl) rfl ?_
              refine WL.done ?_
              (refine WS.condN rfl ?_ ?_) <;> intro h_ <;> try (exfalso; omega)
              refine WS.skip ?_
              refine WS.region ?_
              refine WL.v (V.move rfl) rfl ?_
              refine WL.v (V.lt rfl rfl) rfl ?_
              refine WL.v (V.assign rfl) rfl ?_
              refine WL.done ?_
              refine WS.blk ?_
              refine WS.region ?_
              refine WL.v (V.move rfl) rfl ?_
              refine WL.v (V.add rfl rfl (fits_i64 (by omega) (by omega))) rfl ?_
              refine WL.v (V.assign rfl) rfl ?_
              refine WL.done ?_
              refine WS.keep [13, 12, 11, 6, 5] rfl ?_
              exact ih ⟨(j + 1, _), by simp only; omega, by simp only [chFail, hr]; rfl⟩ (by simp only; omega)
          · by_cases hod : ks j % 2 = 1
            · skip
              have hr : chRes ks j = -11 := by omega
              refine WS.seq ?_
              refine WS.seq ?_
              refine WS.region ?_
              refine WL.v (V.move rfl) rfl ?_
              refine WL.v (V.move rfl) rfl ?_
              refine WL.v (V.lenSL rfl) rfl ?_
              refine WL.v (V.lt rfl rfl) rfl ?_
              refine WL.done ?_
              (refine WS.condD rfl ?_ ?_) <;> intro h_ <;> try (exfalso; omega)
              refine WS.skip ?_
              refine WS.seq ?_
              refine WS.block ?_
              refine WS.seq ?_
              refine WS.region ?_
              refine WL.v (V.move rfl) rfl ?_
              refine WL.v (V.gt rfl rfl) rfl ?_
              refine WL.v (V.move rfl) rfl ?_
              (refine WL.gcaseD rfl rfl ?_ ?_) <;> intro h_ <;> try (exfalso; omega)
              refine WL.gy rfl rfl ?_
              refine WL.v (V.move rfl) rfl ?_
              refine WL.v (V.pickT rfl rfl) rfl ?_
              refine WL.v (V.move rfl) rfl ?_
              refine WL.gy rfl rfl ?_
              refine WL.v (V.move rfl) rfl ?_
              refine WL.gy rfl rfl ?_
              refine WL.v (V.move rfl) rfl ?_
              refine WL.gy rfl rfl ?_
              refine WL.v (V.sub rfl rfl (fits_i64 (by omega) (by omega))) rfl ?_
              refine WL.gy rfl rfl ?_
              refine WL.v (V.indexSL rfl rfl (by constructor <;> omega)) rfl ?_
              rw [show (((j : Nat) : Int) - 1).toNat = j - 1 from by omega]
              refine WL.gy rfl rfl ?_
              refine WL.v (V.fieldAddr rfl) rfl ?_
              refine WL.gy rfl rfl ?_
              refine WL.r (V.loadPart1 (enc := encS) 1 (i := j - 1) (j := 1) (v := I ((ks (j - 1) / 2 : Nat) : Int)) rfl rfl hlp rfl) rfl ?_
              refine WL.gy rfl rfl ?_
              refine WL.v (V.eqi rfl rfl) rfl ?_
              refine WL.v (V.pickT rfl rfl) rfl ?_
              refine WL.v (V.assign rfl) rfl ?_
              refine WL.done ?_
              refine WS.seq ?_
              refine WS.region ?_
              refine WL.v (V.assign rfl) rfl ?_
              refine WL.done ?_
              refine WS.seq ?_
              refine WS.seq ?_
              refine WS.region ?_
              refine WL.v (V.move rfl) rfl ?_
              refine WL.v (V.move rfl) rfl ?_
              refine WL.v (V.indexSL rfl rfl (by constructor <;> omega)) rfl ?_
              refine WL.v (V.fieldAddr rfl) rfl ?_
              refine WL.r (V.loadPart1 (enc := encS) 1 (i := j) (j := 0) (v := I 20) (by simp only [Int.toNat_natCast]; rfl) rfl hlg (by show some [I (if ks j % 2 = 1 then 20 else 1)] = _; rw [if_pos (by omega)])) rfl ?_
              refine WL.v (V.eqi rfl rfl) rfl ?_
              refine WL.done ?_
              refine WS.condT rfl ?_
              refine WS.region ?_
              refine WL.v (V.assign rfl) rfl ?_
              refine WL.done ?_
              refine WS.seq ?_
              refine WS.seq ?_
              refine WS.region ?_
              refine WL.v (V.move rfl) rfl ?_
              refine WL.done ?_
              (refine WS.condD rfl ?_ ?_) <;> intro h_ <;> try (exfalso; omega)
              refine WS.skip ?_
              refine WS.seq ?_
              refine WS.region ?_
              refine WL.v (V.move rfl) rfl ?_
              refine WL.v (V.move rfl) rfl ?_
              refine WL.v (V.add rfl rfl (fits_i64 (by omega) (by omega))) rfl ?_
              refine WL.v (V.build rfl rfl rfl) rfl ?_
              rw [show ((j : Int) + 1) = ((j + 1 : Nat) : Int) from by omega]
              refine WL.callB (same_At s ⟨4, j + 1⟩ (by omega)) [2] rfl rfl rfl ?_
              rintro _ _ ⟨rfl, rfl⟩
              rw [hat]
              simp only [Option.getD_some, Option.isSome_some]
              refine WL.v (V.move rfl) rfl ?_
              refine WL.v (V.extractL rfl rfl) rfl ?_
              refine WL.v (V.extractL rfl rfl) rfl ?_
              refine WL.v (V.assign rfl) rfl ?_
              refine WL.v (V.assign rfl) rfl ?_
              refine WL.done ?_
              refine WS.seq ?_
              refine WS.seq ?_
              refine WS.region ?_
              refine WL.v (V.move rfl) rfl ?_
              refine WL.v (V.not rfl) rfl ?_
              refine WL.v (V.move rfl) rfl ?_
              refine WL.gy rfl rfl ?_
              refine WL.v (V.move rfl) rfl ?_
              refine WL.gy rfl rfl ?_
              refine WL.v (V.move rfl) rfl ?_
              refine WL.gy rfl rfl ?_
              refine WL.v (V.nei rfl rfl) rfl ?_
              refine WL.v (V.pickF rfl rfl) rfl ?_
              refine WL.v (V.move rfl) rfl ?_
              (refine WL.gcaseN rfl rfl ?_ ?_) <;> intro h_ <;> try (exfalso; omega)
              refine WL.gy rfl rfl ?_
              refine WL.v (V.move rfl) rfl ?_
              refine WL.gy rfl rfl ?_
              refine WL.v (V.move rfl) rfl ?_
              refine WL.gy rfl rfl ?_
              refine WL.v (V.indexSL rfl rfl (by constructor <;> omega)) rfl ?_
              refine WL.gy rfl rfl ?_
              refine WL.v (V.fieldAddr rfl) rfl ?_
              refine WL.gy rfl rfl ?_
              refine WL.r (V.loadPart1 (enc := encD) 2 (i := j) (j := 4) (v := I (-11)) (by simp only [Int.toNat_natCast]; rfl) rfl hdg (by show some [I (chRes ks j)] = _; rw [hr])) rfl ?_
              refine WL.gy rfl rfl ?_
              refine WL.v (V.move rfl) rfl ?_
              refine WL.gy rfl rfl ?_
              refine WL.v (V.nei rfl rfl) rfl ?_
              refine WL.v (V.pickF rfl rfl) rfl ?_
              refine WL.v (V.move rfl) rfl ?_
              refine WL.gy rfl rfl ?_
              refine WL.v (V.move rfl) rfl ?_
              refine WL.gy rfl rfl ?_
              refine WL.v (V.move rfl) rfl ?_
              refine WL.gy rfl rfl ?_
              refine WL.v (V.indexSL rfl rfl (by constructor <;> omega)) rfl ?_
              refine WL.gy rfl rfl ?_
              refine WL.v (V.fieldAddr rfl) rfl ?_
              refine WL.gy rfl rfl ?_
              refine WL.r (V.loadPart1 (enc := encD) 2 (i := j) (j := 2) (v := U (UInt32.ofNat j)) (by simp only [Int.toNat_natCast]; rfl) rfl hdg rfl) rfl ?_
              refine WL.gy rfl rfl ?_
              refine WL.v (V.move rfl) rfl ?_
              refine WL.gy rfl rfl ?_
              refine WL.v (V.conv rfl) rfl ?_
              refine WL.gy rfl rfl ?_
              refine WL.v (V.nei rfl rfl) rfl ?_
              refine WL.v (V.pickF rfl rfl) rfl ?_
              refine WL.done ?_
              (refine WS.condN rfl ?_ ?_) <;> intro h_ <;> try (exfalso; omega)
              refine WS.skip ?_
              refine WS.region ?_
              refine WL.v (V.move rfl) rfl ?_
              refine WL.v (V.lt rfl rfl) rfl ?_
              refine WL.v (V.assign rfl) rfl ?_
              refine WL.done ?_
              refine WS.blk ?_
              refine WS.region ?_
              refine WL.v (V.move rfl) rfl ?_
              refine WL.v (V.add rfl rfl (fits_i64 (by omega) (by omega))) rfl ?_
              refine WL.v (V.assign rfl) rfl ?_
              refine WL.done ?_
              refine WS.keep [13, 12, 11, 6, 5] rfl ?_
              exact ih ⟨(j + 1, _), by simp only; omega, by simp only [chFail, hr]; rfl⟩ (by simp only; omega)
            · skip
              have hr : chRes ks j = 0 := by omega
              refine WS.seq ?_
              refine WS.seq ?_
              refine WS.region ?_
              refine WL.v (V.move rfl) rfl ?_
              refine WL.v (V.move rfl) rfl ?_
              refine WL.v (V.lenSL rfl) rfl ?_
              refine WL.v (V.lt rfl rfl) rfl ?_
              refine WL.done ?_
              (refine WS.condD rfl ?_ ?_) <;> intro h_ <;> try (exfalso; omega)
              refine WS.skip ?_
              refine WS.seq ?_
              refine WS.block ?_
              refine WS.seq ?_
              refine WS.region ?_
              refine WL.v (V.move rfl) rfl ?_
              refine WL.v (V.gt rfl rfl) rfl ?_
              refine WL.v (V.move rfl) rfl ?_
              (refine WL.gcaseD rfl rfl ?_ ?_) <;> intro h_ <;> try (exfalso; omega)
              refine WL.gy rfl rfl ?_
              refine WL.v (V.move rfl) rfl ?_
              refine WL.v (V.pickT rfl rfl) rfl ?_
              refine WL.v (V.move rfl) rfl ?_
              refine WL.gy rfl rfl ?_
              refine WL.v (V.move rfl) rfl ?_
              refine WL.gy rfl rfl ?_
              refine WL.v (V.move rfl) rfl ?_
              refine WL.gy rfl rfl ?_
              refine WL.v (V.sub rfl rfl (fits_i64 (by omega) (by omega))) rfl ?_
              refine WL.gy rfl rfl ?_
              refine WL.v (V.indexSL rfl rfl (by constructor <;> omega)) rfl ?_
              rw [show (((j : Nat) : Int) - 1).toNat = j - 1 from by omega]
              refine WL.gy rfl rfl ?_
              refine WL.v (V.fieldAddr rfl) rfl ?_
              refine WL.gy rfl rfl ?_
              refine WL.r (V.loadPart1 (enc := encS) 1 (i := j - 1) (j := 1) (v := I ((ks (j - 1) / 2 : Nat) : Int)) rfl rfl hlp rfl) rfl ?_
              refine WL.gy rfl rfl ?_
              refine WL.v (V.eqi rfl rfl) rfl ?_
              refine WL.v (V.pickT rfl rfl) rfl ?_
              refine WL.v (V.assign rfl) rfl ?_
              refine WL.done ?_
              refine WS.seq ?_
              refine WS.region ?_
              refine WL.v (V.assign rfl) rfl ?_
              refine WL.done ?_
              refine WS.seq ?_
              refine WS.seq ?_
              refine WS.region ?_
              refine WL.v (V.move rfl) rfl ?_
              refine WL.v (V.move rfl) rfl ?_
              refine WL.v (V.indexSL rfl rfl (by constructor <;> omega)) rfl ?_
              refine WL.v (V.fieldAddr rfl) rfl ?_
              refine WL.r (V.loadPart1 (enc := encS) 1 (i := j) (j := 0) (v := I 1) (by simp only [Int.toNat_natCast]; rfl) rfl hlg (by show some [I (if ks j % 2 = 1 then 20 else 1)] = _; rw [if_neg (by omega)])) rfl ?_
              refine WL.v (V.eqi rfl rfl) rfl ?_
              refine WL.done ?_
              refine WS.condF rfl ?_
              refine WS.skip ?_
              refine WS.seq ?_
              refine WS.seq ?_
              refine WS.region ?_
              refine WL.v (V.move rfl) rfl ?_
              refine WL.done ?_
              (refine WS.condD rfl ?_ ?_) <;> intro h_ <;> try (exfalso; omega)
              refine WS.skip ?_
              refine WS.seq ?_
              refine WS.region ?_
              refine WL.v (V.move rfl) rfl ?_
              refine WL.v (V.move rfl) rfl ?_
              refine WL.v (V.add rfl rfl (fits_i64 (by omega) (by omega))) rfl ?_
              refine WL.v (V.build rfl rfl rfl) rfl ?_
              rw [show ((j : Int) + 1) = ((j + 1 : Nat) : Int) from by omega]
              refine WL.callB (same_At s ⟨4, j + 1⟩ (by omega)) [2] rfl rfl rfl ?_
              rintro _ _ ⟨rfl, rfl⟩
              rw [hat]
              simp only [Option.getD_some, Option.isSome_some]
              refine WL.v (V.move rfl) rfl ?_
              refine WL.v (V.extractL rfl rfl) rfl ?_
              refine WL.v (V.extractL rfl rfl) rfl ?_
              refine WL.v (V.assign rfl) rfl ?_
              refine WL.v (V.assign rfl) rfl ?_
              refine WL.done ?_
              refine WS.seq ?_
              refine WS.seq ?_
              refine WS.region ?_
              refine WL.v (V.move rfl) rfl ?_
              refine WL.v (V.not rfl) rfl ?_
              refine WL.v (V.move rfl) rfl ?_
              refine WL.gy rfl rfl ?_
              refine WL.v (V.move rfl) rfl ?_
              refine WL.gy rfl rfl ?_
              refine WL.v (V.move rfl) rfl ?_
              refine WL.gy rfl rfl ?_
              refine WL.v (V.nei rfl rfl) rfl ?_
              refine WL.v (V.pickF rfl rfl) rfl ?_
              refine WL.v (V.move rfl) rfl ?_
              (refine WL.gcaseN rfl rfl ?_ ?_) <;> intro h_ <;> try (exfalso; omega)
              refine WL.gy rfl rfl ?_
              refine WL.v (V.move rfl) rfl ?_
              refine WL.gy rfl rfl ?_
              refine WL.v (V.move rfl) rfl ?_
              refine WL.gy rfl rfl ?_
              refine WL.v (V.indexSL rfl rfl (by constructor <;> omega)) rfl ?_
              refine WL.gy rfl rfl ?_
              refine WL.v (V.fieldAddr rfl) rfl ?_
              refine WL.gy rfl rfl ?_
              refine WL.r (V.loadPart1 (enc := encD) 2 (i := j) (j := 4) (v := I (0)) (by simp only [Int.toNat_natCast]; rfl) rfl hdg (by show some [I (chRes ks j)] = _; rw [hr])) rfl ?_
              refine WL.gy rfl rfl ?_
              refine WL.v (V.move rfl) rfl ?_
              refine WL.gy rfl rfl ?_
              refine WL.v (V.nei rfl rfl) rfl ?_
              refine WL.v (V.pickF rfl rfl) rfl ?_
              refine WL.v (V.move rfl) rfl ?_
              refine WL.gy rfl rfl ?_
              refine WL.v (V.move rfl) rfl ?_
              refine WL.gy rfl rfl ?_
              refine WL.v (V.move rfl) rfl ?_
              refine WL.gy rfl rfl ?_
              refine WL.v (V.indexSL rfl rfl (by constructor <;> omega)) rfl ?_
              refine WL.gy rfl rfl ?_
              refine WL.v (V.fieldAddr rfl) rfl ?_
              refine WL.gy rfl rfl ?_
              refine WL.r (V.loadPart1 (enc := encD) 2 (i := j) (j := 2) (v := U (UInt32.ofNat j)) (by simp only [Int.toNat_natCast]; rfl) rfl hdg rfl) rfl ?_
              refine WL.gy rfl rfl ?_
              refine WL.v (V.move rfl) rfl ?_
              refine WL.gy rfl rfl ?_
              refine WL.v (V.conv rfl) rfl ?_
              refine WL.gy rfl rfl ?_
              refine WL.v (V.nei rfl rfl) rfl ?_
              refine WL.v (V.pickF rfl rfl) rfl ?_
              refine WL.done ?_
              (refine WS.condN rfl ?_ ?_) <;> intro h_ <;> try (exfalso; omega)
              refine WS.skip ?_
              refine WS.region ?_
              refine WL.v (V.move rfl) rfl ?_
              refine WL.v (V.lt rfl rfl) rfl ?_
              refine WL.v (V.assign rfl) rfl ?_
              refine WL.done ?_
              refine WS.blk ?_
              refine WS.region ?_
              refine WL.v (V.move rfl) rfl ?_
              refine WL.v (V.add rfl rfl (fits_i64 (by omega) (by omega))) rfl ?_
              refine WL.v (V.assign rfl) rfl ?_
              refine WL.done ?_
              refine WS.keep [13, 12, 11, 6, 5] rfl ?_
              exact ih ⟨(j + 1, _), by simp only; omega, by simp only [chFail, hr]; rfl⟩ (by simp only; omega)
        | false =>
          have hn : j = 0 ∨ 0 ≤ chRes ks (j - 1) := chFail_false hf.symm
          by_cases h0 : j = 0
          · by_cases hod : ks j % 2 = 1
            · skip
              have hr : chRes ks j = -11 := by omega
              refine WS.seq ?_
              refine WS.seq ?_
              refine WS.region ?_
              refine WL.v (V.move rfl) rfl ?_
              refine WL.v (V.move rfl) rfl ?_
              refine WL.v (V.lenSL rfl) rfl ?_
              refine WL.v (V.lt rfl rfl) rfl ?_
              refine WL.done ?_
              (refine WS.condD rfl ?_ ?_) <;> intro h_ <;> try (exfalso; omega)
              refine WS.skip ?_
              refine WS.seq ?_
              refine WS.block ?_
              refine WS.seq ?_
              refine WS.region ?_
              refine WL.v (V.move rfl) rfl ?_
              refine WL.v (V.gt rfl rfl) rfl ?_
              refine WL.v (V.move rfl) rfl ?_
              (refine WL.gcaseD rfl rfl ?_ ?_) <;> intro h_ <;> try (exfalso; omega)
              refine WL.gn2 rfl rfl rfl rfl ?_
              refine WL.v (V.pickF rfl rfl) rfl ?_
              refine WL.v (V.move rfl) rfl ?_
              refine WL.gn2 rfl rfl rfl rfl ?_
              refine WL.gn2 rfl rfl rfl rfl ?_
              refine WL.gn2 rfl rfl rfl rfl ?_
              refine WL.gn2 rfl rfl rfl rfl ?_
              refine WL.gn2 rfl rfl rfl rfl ?_
              refine WL.gn2 rfl rfl rfl rfl ?_
              refine WL.gn2 rfl rfl rfl rfl ?_
              refine WL.v (V.pickF rfl rfl) rfl ?_
              refine WL.v (V.assign rfl) rfl ?_
              refine WL.done ?_
              refine WS.seq ?_
              refine WS.region ?_
              refine WL.v (V.assign rfl) rfl ?_
              refine WL.done ?_
              refine WS.seq ?_
              refine WS.seq ?_
              refine WS.region ?_
              refine WL.v (V.move rfl) rfl ?_
              refine WL.v (V.move rfl) rfl ?_
              refine WL.v (V.indexSL rfl rfl (by constructor <;> omega)) rfl ?_
              refine WL.v (V.fieldAddr rfl) rfl ?_
              refine WL.r (V.loadPart1 (enc := encS) 1 (i := j) (j := 0) (v := I 20) (by simp only [Int.toNat_natCast]; rfl) rfl hlg (by show some [I (if ks j % 2 = 1 then 20 else 1)] = _; rw [if_pos (by omega)])) rfl ?_
              refine WL.v (V.eqi rfl rfl) rfl ?_
              refine WL.done ?_
              refine WS.condT rfl ?_
              refine WS.region ?_
              refine WL.v (V.assign rfl) rfl ?_
              refine WL.done ?_
              refine WS.seq ?_
              refine WS.seq ?_
              refine WS.region ?_
              refine WL.v (V.move rfl) rfl ?_
              refine WL.done ?_
              refine WS.condF rfl ?_
              refine WS.skip ?_
              refine WS.seq ?_
              refine WS.region ?_
              refine WL.v (V.move rfl) rfl ?_
              refine WL.v (V.move rfl) rfl ?_
              refine WL.v (V.add rfl rfl (fits_i64 (by omega) (by omega))) rfl ?_
              refine WL.v (V.build rfl rfl rfl) rfl ?_
              rw [show ((j : Int) + 1) = ((j + 1 : Nat) : Int) from by omega]
              refine WL.callB (same_At s ⟨4, j + 1⟩ (by omega)) [2] rfl rfl rfl ?_
              rintro _ _ ⟨rfl, rfl⟩
              rw [hat]
              simp only [Option.getD_some, Option.isSome_some]
              refine WL.v (V.move rfl) rfl ?_
              refine WL.v (V.extractL rfl rfl) rfl ?_
              refine WL.v (V.extractL rfl rfl) rfl ?_
              refine WL.v (V.assign rfl) rfl ?_
              refine WL.v (V.assign rfl) rfl ?_
              refine WL.done ?_
              refine WS.seq ?_
              refine WS.seq ?_
              refine WS.region ?_
              refine WL.v (V.move rfl) rfl ?_
              refine WL.v (V.not rfl) rfl ?_
              refine WL.v (V.move rfl) rfl ?_
              refine WL.gy rfl rfl ?_
              refine WL.v (V.move rfl) rfl ?_
              refine WL.gy rfl rfl ?_
              refine WL.v (V.move rfl) rfl ?_
              refine WL.gy rfl rfl ?_
              refine WL.v (V.nei rfl rfl) rfl ?_
              refine WL.v (V.pickF rfl rfl) rfl ?_
              refine WL.v (V.move rfl) rfl ?_
              (refine WL.gcaseN rfl rfl ?_ ?_) <;> intro h_ <;> try (exfalso; omega)
              refine WL.gy rfl rfl ?_
              refine WL.v (V.move rfl) rfl ?_
              refine WL.gy rfl rfl ?_
              refine WL.v (V.move rfl) rfl ?_
              refine WL.gy rfl rfl ?_
              refine WL.v (V.indexSL rfl rfl (by constructor <;> omega)) rfl ?_
              refine WL.gy rfl rfl ?_
              refine WL.v (V.fieldAddr rfl) rfl ?_
              refine WL.gy rfl rfl ?_
              refine WL.r (V.loadPart1 (enc := encD) 2 (i := j) (j := 4) (v := I (-11)) (by simp only [Int.toNat_natCast]; rfl) rfl hdg (by show some [I (chRes ks j)] = _; rw [hr])) rfl ?_
              refine WL.gy rfl rfl ?_
              refine WL.v (V.move rfl) rfl ?_
              refine WL.gy rfl rfl ?_
              refine WL.v (V.nei rfl rfl) rfl ?_
              refine WL.v (V.pickF rfl rfl) rfl ?_
              refine WL.v (V.move rfl) rfl ?_
              refine WL.gy rfl rfl ?_
              refine WL.v (V.move rfl) rfl ?_
              refine WL.gy rfl rfl ?_
              refine WL.v (V.move rfl) rfl ?_
              refine WL.gy rfl rfl ?_
              refine WL.v (V.indexSL rfl rfl (by constructor <;> omega)) rfl ?_
              refine WL.gy rfl rfl ?_
              refine WL.v (V.fieldAddr rfl) rfl ?_
              refine WL.gy rfl rfl ?_
              refine WL.r (V.loadPart1 (enc := encD) 2 (i := j) (j := 2) (v := U (UInt32.ofNat j)) (by simp only [Int.toNat_natCast]; rfl) rfl hdg rfl) rfl ?_
              refine WL.gy rfl rfl ?_
              refine WL.v (V.move rfl) rfl ?_
              refine WL.gy rfl rfl ?_
              refine WL.v (V.conv rfl) rfl ?_
              refine WL.gy rfl rfl ?_
              refine WL.v (V.nei rfl rfl) rfl ?_
              refine WL.v (V.pickF rfl rfl) rfl ?_
              refine WL.done ?_
              (refine WS.condN rfl ?_ ?_) <;> intro h_ <;> try (exfalso; omega)
              refine WS.skip ?_
              refine WS.region ?_
              refine WL.v (V.move rfl) rfl ?_
              refine WL.v (V.lt rfl rfl) rfl ?_
              refine WL.v (V.assign rfl) rfl ?_
              refine WL.done ?_
              refine WS.blk ?_
              refine WS.region ?_
              refine WL.v (V.move rfl) rfl ?_
              refine WL.v (V.add rfl rfl (fits_i64 (by omega) (by omega))) rfl ?_
              refine WL.v (V.assign rfl) rfl ?_
              refine WL.done ?_
              refine WS.keep [13, 12, 11, 6, 5] rfl ?_
              exact ih ⟨(j + 1, _), by simp only; omega, by simp only [chFail, hr]; rfl⟩ (by simp only; omega)
            · skip
              have hr : chRes ks j = 0 := by omega
              refine WS.seq ?_
              refine WS.seq ?_
              refine WS.region ?_
              refine WL.v (V.move rfl) rfl ?_
              refine WL.v (V.move rfl) rfl ?_
              refine WL.v (V.lenSL rfl) rfl ?_
              refine WL.v (V.lt rfl rfl) rfl ?_
              refine WL.done ?_
              (refine WS.condD rfl ?_ ?_) <;> intro h_ <;> try (exfalso; omega)
              refine WS.skip ?_
              refine WS.seq ?_
              refine WS.block ?_
              refine WS.seq ?_
              refine WS.region ?_
              refine WL.v (V.move rfl) rfl ?_
              refine WL.v (V.gt rfl rfl) rfl ?_
              refine WL.v (V.move rfl) rfl ?_
              (refine WL.gcaseD rfl rfl ?_ ?_) <;> intro h_ <;> try (exfalso; omega)
              refine WL.gn2 rfl rfl rfl rfl ?_
              refine WL.v (V.pickF rfl rfl) rfl ?_
              refine WL.v (V.move rfl) rfl ?_
              refine WL.gn2 rfl rfl rfl rfl ?_
              refine WL.gn2 rfl rfl rfl rfl ?_
              refine WL.gn2 rfl rfl rfl rfl ?_
              refine WL.gn2 rfl rfl rfl rfl ?_
              refine WL.gn2 rfl rfl rfl rfl ?_
              refine WL.gn2 rfl rfl rfl rfl ?_
              refine WL.gn2 rfl rfl rfl rfl ?_
              refine WL.v (V.pickF rfl rfl) rfl ?_
              refine WL.v (V.assign rfl) rfl ?_
              refine WL.done ?_
              refine WS.seq ?_
              refine WS.region ?_
              refine WL.v (V.assign rfl) rfl ?_
              refine WL.done ?_
              refine WS.seq ?_
              refine WS.seq ?_
              refine WS.region ?_
              refine WL.v (V.move rfl) rfl ?_
              refine WL.v (V.move rfl) rfl ?_
              refine WL.v (V.indexSL rfl rfl (by constructor <;> omega)) rfl ?_
              refine WL.v (V.fieldAddr rfl) rfl ?_
              refine WL.r (V.loadPart1 (enc := encS) 1 (i := j) (j := 0) (v := I 1) (by simp only [Int.toNat_natCast]; rfl) rfl hlg (by show some [I (if ks j % 2 = 1 then 20 else 1)] = _; rw [if_neg (by omega)])) rfl ?_
              refine WL.v (V.eqi rfl rfl) rfl ?_
              refine WL.done ?_
              refine WS.condF rfl ?_
              refine WS.skip ?_
              refine WS.seq ?_
              refine WS.seq ?_
              refine WS.region ?_
              refine WL.v (V.move rfl) rfl ?_
              refine WL.done ?_
              refine WS.condF rfl ?_
              refine WS.skip ?_
              refine WS.seq ?_
              refine WS.region ?_
              refine WL.v (V.move rfl) rfl ?_
              refine WL.v (V.move rfl) rfl ?_
              refine WL.v (V.add rfl rfl (fits_i64 (by omega) (by omega))) rfl ?_
              refine WL.v (V.build rfl rfl rfl) rfl ?_
              rw [show ((j : Int) + 1) = ((j + 1 : Nat) : Int) from by omega]
              refine WL.callB (same_At s ⟨4, j + 1⟩ (by omega)) [2] rfl rfl rfl ?_
              rintro _ _ ⟨rfl, rfl⟩
              rw [hat]
              simp only [Option.getD_some, Option.isSome_some]
              refine WL.v (V.move rfl) rfl ?_
              refine WL.v (V.extractL rfl rfl) rfl ?_
              refine WL.v (V.extractL rfl rfl) rfl ?_
              refine WL.v (V.assign rfl) rfl ?_
              refine WL.v (V.assign rfl) rfl ?_
              refine WL.done ?_
              refine WS.seq ?_
              refine WS.seq ?_
              refine WS.region ?_
              refine WL.v (V.move rfl) rfl ?_
              refine WL.v (V.not rfl) rfl ?_
              refine WL.v (V.move rfl) rfl ?_
              refine WL.gy rfl rfl ?_
              refine WL.v (V.move rfl) rfl ?_
              refine WL.gy rfl rfl ?_
              refine WL.v (V.move rfl) rfl ?_
              refine WL.gy rfl rfl ?_
              refine WL.v (V.nei rfl rfl) rfl ?_
              refine WL.v (V.pickF rfl rfl) rfl ?_
              refine WL.v (V.move rfl) rfl ?_
              (refine WL.gcaseN rfl rfl ?_ ?_) <;> intro h_ <;> try (exfalso; omega)
              refine WL.gy rfl rfl ?_
              refine WL.v (V.move rfl) rfl ?_
              refine WL.gy rfl rfl ?_
              refine WL.v (V.move rfl) rfl ?_
              refine WL.gy rfl rfl ?_
              refine WL.v (V.indexSL rfl rfl (by constructor <;> omega)) rfl ?_
              refine WL.gy rfl rfl ?_
              refine WL.v (V.fieldAddr rfl) rfl ?_
              refine WL.gy rfl rfl ?_
              refine WL.r (V.loadPart1 (enc := encD) 2 (i := j) (j := 4) (v := I (0)) (by simp only [Int.toNat_natCast]; rfl) rfl hdg (by show some [I (chRes ks j)] = _; rw [hr])) rfl ?_
              refine WL.gy rfl rfl ?_
              refine WL.v (V.move rfl) rfl ?_
              refine WL.gy rfl rfl ?_
              refine WL.v (V.nei rfl rfl) rfl ?_
              refine WL.v (V.pickF rfl rfl) rfl ?_
              refine WL.v (V.move rfl) rfl ?_
              refine WL.gy rfl rfl ?_
              refine WL.v (V.move rfl) rfl ?_
              refine WL.gy rfl rfl ?_
              refine WL.v (V.move rfl) rfl ?_
              refine WL.gy rfl rfl ?_
              refine WL.v (V.indexSL rfl rfl (by constructor <;> omega)) rfl ?_
              refine WL.gy rfl rfl ?_
              refine WL.v (V.fieldAddr rfl) rfl ?_
              refine WL.gy rfl rfl ?_
              refine WL.r (V.loadPart1 (enc := encD) 2 (i := j) (j := 2) (v := U (UInt32.ofNat j)) (by simp only [Int.toNat_natCast]; rfl) rfl hdg rfl) rfl ?_
              refine WL.gy rfl rfl ?_
              refine WL.v (V.move rfl) rfl ?_
              refine WL.gy rfl rfl ?_
              refine WL.v (V.conv rfl) rfl ?_
              refine WL.gy rfl rfl ?_
              refine WL.v (V.nei rfl rfl) rfl ?_
              refine WL.v (V.pickF rfl rfl) rfl ?_
              refine WL.done ?_
              (refine WS.condN rfl ?_ ?_) <;> intro h_ <;> try (exfalso; omega)
              refine WS.skip ?_
              refine WS.region ?_
              refine WL.v (V.move rfl) rfl ?_
              refine WL.v (V.lt rfl rfl) rfl ?_
              refine WL.v (V.assign rfl) rfl ?_
              refine WL.done ?_
              refine WS.blk ?_
              refine WS.region ?_
              refine WL.v (V.move rfl) rfl ?_
              refine WL.v (V.add rfl rfl (fits_i64 (by omega) (by omega))) rfl ?_
              refine WL.v (V.assign rfl) rfl ?_
              refine WL.done ?_
              refine WS.keep [13, 12, 11, 6, 5] rfl ?_
              exact ih ⟨(j + 1, _), by simp only; omega, by simp only [chFail, hr]; rfl⟩ (by simp only; omega)
          · by_cases hod : ks j % 2 = 1
            · skip
              have hr : chRes ks j = -11 := by omega
              refine WS.seq ?_
              refine WS.seq ?_
              refine WS.region ?_
              refine WL.v (V.move rfl) rfl ?_
              refine WL.v (V.move rfl) rfl ?_
              refine WL.v (V.lenSL rfl) rfl ?_
              refine WL.v (V.lt rfl rfl) rfl ?_
              refine WL.done ?_
              (refine WS.condD rfl ?_ ?_) <;> intro h_ <;> try (exfalso; omega)
              refine WS.skip ?_
              refine WS.seq ?_
              refine WS.block ?_
              refine WS.seq ?_
              refine WS.region ?_
              refine WL.v (V.move rfl) rfl ?_
              refine WL.v (V.gt rfl rfl) rfl ?_
              refine WL.v (V.move rfl) rfl ?_
              (refine WL.gcaseD rfl rfl ?_ ?_) <;> intro h_ <;> try (exfalso; omega)
              refine WL.gy rfl rfl ?_
              refine WL.v (V.move rfl) rfl ?_
              refine WL.v (V.pickT rfl rfl) rfl ?_
              refine WL.v (V.move rfl) rfl ?_
              refine WL.gn2 rfl rfl rfl rfl ?_
              refine WL.gn2 rfl rfl rfl rfl ?_
              refine WL.gn2 rfl rfl rfl rfl ?_
              refine WL.gn2 rfl rfl rfl rfl ?_
              refine WL.gn2 rfl rfl rfl rfl ?_
              refine WL.gn2 rfl rfl rfl rfl ?_
              refine WL.gn2 rfl rfl rfl rfl ?_
              refine WL.v (V.pickF rfl rfl) rfl ?_
              refine WL.v (V.assign rfl) rfl ?_
              refine WL.done ?_
              refine WS.seq ?_
              refine WS.region ?_
              refine WL.v (V.assign rfl) rfl ?_
              refine WL.done ?_
              refine WS.seq ?_
              refine WS.seq ?_
              refine WS.region ?_
              refine WL.v (V.move rfl) rfl ?_
              refine WL.v (V.move rfl) rfl ?_
              refine WL.v (V.indexSL rfl rfl (by constructor <;> omega)) rfl ?_
              refine WL.v (V.fieldAddr rfl) rfl ?_
              refine WL.r (V.loadPart1 (enc := encS) 1 (i := j) (j := 0) (v := I 20) (by simp only [Int.toNat_natCast]; rfl) rfl hlg (by show some [I (if ks j % 2 = 1 then 20 else 1)] = _; rw [if_pos (by omega)])) rfl ?_
              refine WL.v (V.eqi rfl rfl) rfl ?_
              refine WL.done ?_
              refine WS.condT rfl ?_
              refine WS.region ?_
              refine WL.v (V.assign rfl) rfl ?_
              refine WL.done ?_
              refine WS.seq ?_
              refine WS.seq ?_
              refine WS.region ?_
              refine WL.v (V.move rfl) rfl ?_
              refine WL.done ?_
              refine WS.condF rfl ?_
              refine WS.skip ?_
              refine WS.seq ?_
              refine WS.region ?_
              refine WL.v (V.move rfl) rfl ?_
              refine WL.v (V.move rfl) rfl ?_
              refine WL.v (V.add rfl rfl (fits_i64 (by omega) (by omega))) rfl ?_
              refine WL.v (V.build rfl rfl rfl) rfl ?_
              rw [show ((j : Int) + 1) = ((j + 1 : Nat) : Int) from by omega]
              refine WL.callB (same_At s ⟨4, j + 1⟩ (by omega)) [2] rfl rfl rfl ?_
              rintro _ _ ⟨rfl, rfl⟩
              rw [hat]
              simp only [Option.getD_some, Option.isSome_some]
              refine WL.v (V.move rfl) rfl ?_
              refine WL.v (V.extractL rfl rfl) rfl ?_
              refine WL.v (V.extractL rfl rfl) rfl ?_
              refine WL.v (V.assign rfl) rfl ?_
              refine WL.v (V.assign rfl) rfl ?_
              refine WL.done ?_
              refine WS.seq ?_
              refine WS.seq ?_
              refine WS.region ?_
              refine WL.v (V.move rfl) rfl ?_
              refine WL.v (V.not rfl) rfl ?_
              refine WL.v (V.move rfl) rfl ?_
              refine WL.gy rfl rfl ?_
              refine WL.v (V.move rfl) rfl ?_
              refine WL.gy rfl rfl ?_
              refine WL.v (V.move rfl) rfl ?_
              refine WL.gy rfl rfl ?_
              refine WL.v (V.nei rfl rfl) rfl ?_
              refine WL.v (V.pickF rfl rfl) rfl ?_
              refine WL.v (V.move rfl) rfl ?_
              (refine WL.gcaseN rfl rfl ?_ ?_) <;> intro h_ <;> try (exfalso; omega)
              refine WL.gy rfl rfl ?_
              refine WL.v (V.move rfl) rfl ?_
              refine WL.gy rfl rfl ?_
              refine WL.v (V.move rfl) rfl ?_
              refine WL.gy rfl rfl ?_
              refine WL.v (V.indexSL rfl rfl (by constructor <;> omega)) rfl ?_
              refine WL.gy rfl rfl ?_
              refine WL.v (V.fieldAddr rfl) rfl ?_
              refine WL.gy rfl rfl ?_
              refine WL.r (V.loadPart1 (enc := encD) 2 (i := j) (j := 4) (v := I (-11)) (by simp only [Int.toNat_natCast]; rfl) rfl hdg (by show some [I (chRes ks j)] = _; rw [hr])) rfl ?_
              refine WL.gy rfl rfl ?_
              refine WL.v (V.move rfl) rfl ?_
              refine WL.gy rfl rfl ?_
              refine WL.v (V.nei rfl rfl) rfl ?_
              refine WL.v (V.pickF rfl rfl) rfl ?_
              refine WL.v (V.move rfl) rfl ?_
              refine WL.gy rfl rfl ?_
              refine WL.v (V.move rfl) rfl ?_
              refine WL.gy rfl rfl ?_
              refine WL.v (V.move rfl) rfl ?_
              refine WL.gy rfl rfl ?_
              refine WL.v (V.indexSL rfl rfl (by constructor <;> omega)) rfl ?_
              refine WL.gy rfl rfl ?_
              refine WL.v (V.fieldAddr rfl) rfl ?_
              refine WL.gy rfl rfl ?_
              refine WL.r (V.loadPart1 (enc := encD) 2 (i := j) (j := 2) (v := U (UInt32.ofNat j)) (by simp only [Int.toNat_natCast]; rfl) rfl hdg rfl) rfl ?_
              refine WL.gy rfl rfl ?_
              refine WL.v (V.move rfl) rfl ?_
              refine WL.gy rfl rfl ?_
              refine WL.v (V.conv rfl) rfl ?_
              refine WL.gy rfl rfl ?_
              refine WL.v (V.nei rfl rfl) rfl ?_
              refine WL.v (V.pickF rfl rfl) rfl ?_
              refine WL.done ?_
              (refine WS.condN rfl ?_ ?_) <;> intro h_ <;> try (exfalso; omega)
              refine WS.skip ?_
              refine WS.region ?_
              refine WL.v (V.move rfl) rfl ?_
              refine WL.v (V.lt rfl rfl) rfl ?_
              refine WL.v (V.assign rfl) rfl ?_
              refine WL.done ?_
              refine WS.blk ?_
              refine WS.region ?_
              refine WL.v (V.move rfl) rfl ?_
              refine WL.v (V.add rfl rfl (fits_i64 (by omega) (by omega))) rfl ?_
              refine WL.v (V.assign rfl) rfl ?_
              refine WL.done ?_
              refine WS.keep [13, 12, 11, 6, 5] rfl ?_
              exact ih ⟨(j + 1, _), by simp only; omega, by simp only [chFail, hr]; rfl⟩ (by simp only; omega)
            · skip
              have hr : chRes ks j = 0 := by omega
              refine WS.seq ?_
              refine WS.seq ?_
              refine WS.region ?_
              refine WL.v (V.move rfl) rfl ?_
              refine WL.v (V.move rfl) rfl ?_
              refine WL.v (V.lenSL rfl) rfl ?_
              refine WL.v (V.lt rfl rfl) rfl ?_
              refine WL.done ?_
              (refine WS.condD rfl ?_ ?_) <;> intro h_ <;> try (exfalso; omega)
              refine WS.skip ?_
              refine WS.seq ?_
              refine WS.block ?_
              refine WS.seq ?_
              refine WS.region ?_
              refine WL.v (V.move rfl) rfl ?_
              refine WL.v (V.gt rfl rfl) rfl ?_
              refine WL.v (V.move rfl) rfl ?_
              (refine WL.gcaseD rfl rfl ?_ ?_) <;> intro h_ <;> try (exfalso; omega)
              refine WL.gy rfl rfl ?_
              refine WL.v (V.move rfl) rfl ?_
              refine WL.v (V.pickT rfl rfl) rfl ?_
              refine WL.v (V.move rfl) rfl ?_
              refine WL.gn2 rfl rfl rfl rfl ?_
              refine WL.gn2 rfl rfl rfl rfl ?_
              refine WL.gn2 rfl rfl rfl rfl ?_
              refine WL.gn2 rfl rfl rfl rfl ?_
              refine WL.gn2 rfl rfl rfl rfl ?_
              refine WL.gn2 rfl rfl rfl rfl ?_
              refine WL.gn2 rfl rfl rfl rfl ?_
              refine WL.v (V.pickF rfl rfl) rfl ?_
              refine WL.v (V.assign rfl) rfl ?_
              refine WL.done ?_
              refine WS.seq ?_
              refine WS.region ?_
              refine WL.v (V.assign rfl) rfl ?_
              refine WL.done ?_
              refine WS.seq ?_
              refine WS.seq ?_
              refine WS.region ?_
              refine WL.v (V.move rfl) rfl ?_
              refine WL.v (V.move rfl) rfl ?_
              refine WL.v (V.indexSL rfl rfl (by constructor <;> omega)) rfl ?_
              refine WL.v (V.fieldAddr rfl) rfl ?_
              refine WL.r (V.loadPart1 (enc := encS) 1 (i := j) (j := 0) (v := I 1) (by simp only [Int.toNat_natCast]; rfl) rfl hlg (by show some [I (if ks j % 2 = 1 then 20 else 1)] = _; rw [if_neg (by omega)])) rfl ?_
              refine WL.v (V.eqi rfl rfl) rfl ?_
              refine WL.done ?_
              refine WS.condF rfl ?_
              refine WS.skip ?_
              refine WS.seq ?_
              refine WS.seq ?_
              refine WS.region ?_
              refine WL.v (V.move rfl) rfl ?_
              refine WL.done ?_
              refine WS.condF rfl ?_
              refine WS.skip ?_
              refine WS.seq ?_
              refine WS.region ?_
              refine WL.v (V.move rfl) rfl ?_
              refine WL.v (V.move rfl) rfl ?_
              refine WL.v (V.add rfl rfl (fits_i64 (by omega) (by omega))) rfl ?_
              refine WL.v (V.build rfl rfl rfl) rfl ?_
              rw [show ((j : Int) + 1) = ((j + 1 : Nat) : Int) from by omega]
              refine WL.callB (same_At s ⟨4, j + 1⟩ (by omega)) [2] rfl rfl rfl ?_
              rintro _ _ ⟨rfl, rfl⟩
              rw [hat]
              simp only [Option.getD_some, Option.isSome_some]
              refine WL.v (V.move rfl) rfl ?_
              refine WL.v (V.extractL rfl rfl) rfl ?_
              refine WL.v (V.extractL rfl rfl) rfl ?_
              refine WL.v (V.assign rfl) rfl ?_
              refine WL.v (V.assign rfl) rfl ?_
              refine WL.done ?_
              refine WS.seq ?_
              refine WS.seq ?_
              refine WS.region ?_
              refine WL.v (V.move rfl) rfl ?_
              refine WL.v (V.not rfl) rfl ?_
              refine WL.v (V.move rfl) rfl ?_
              refine WL.gy rfl rfl ?_
              refine WL.v (V.move rfl) rfl ?_
              refine WL.gy rfl rfl ?_
              refine WL.v (V.move rfl) rfl ?_
              refine WL.gy rfl rfl ?_
              refine WL.v (V.nei rfl rfl) rfl ?_
              refine WL.v (V.pickF rfl rfl) rfl ?_
              refine WL.v (V.move rfl) rfl ?_
              (refine WL.gcaseN rfl rfl ?_ ?_) <;> intro h_ <;> try (exfalso; omega)
              refine WL.gy rfl rfl ?_
              refine WL.v (V.move rfl) rfl ?_
              refine WL.gy rfl rfl ?_
              refine WL.v (V.move rfl) rfl ?_
              refine WL.gy rfl rfl ?_
              refine WL.v (V.indexSL rfl rfl (by constructor <;> omega)) rfl ?_
              refine WL.gy rfl rfl ?_
              refine WL.v (V.fieldAddr rfl) rfl ?_
              refine WL.gy rfl rfl ?_
              refine WL.r (V.loadPart1 (enc := encD) 2 (i := j) (j := 4) (v := I (0)) (by simp only [Int.toNat_natCast]; rfl) rfl hdg (by show some [I (chRes ks j)] = _; rw [hr])) rfl ?_
              refine WL.gy rfl rfl ?_
              refine WL.v (V.move rfl) rfl ?_
              refine WL.gy rfl rfl ?_
              refine WL.v (V.nei rfl rfl) rfl ?_
              refine WL.v (V.pickF rfl rfl) rfl ?_
              refine WL.v (V.move rfl) rfl ?_
              refine WL.gy rfl rfl ?_
              refine WL.v (V.move rfl) rfl ?_
              refine WL.gy rfl rfl ?_
              refine WL.v (V.move rfl) rfl ?_
              refine WL.gy rfl rfl ?_
              refine WL.v (V.indexSL rfl rfl (by constructor <;> omega)) rfl ?_
              refine WL.gy rfl rfl ?_
              refine WL.v (V.fieldAddr rfl) rfl ?_
              refine WL.gy rfl rfl ?_
              refine WL.r (V.loadPart1 (enc := encD) 2 (i := j) (j := 2) (v := U (UInt32.ofNat j)) (by simp only [Int.toNat_natCast]; rfl) rfl hdg rfl) rfl ?_
              refine WL.gy rfl rfl ?_
              refine WL.v (V.move rfl) rfl ?_
              refine WL.gy rfl rfl ?_
              refine WL.v (V.conv rfl) rfl ?_
              refine WL.gy rfl rfl ?_
              refine WL.v (V.nei rfl rfl) rfl ?_
              refine WL.v (V.pickF rfl rfl) rfl ?_
              refine WL.done ?_
              (refine WS.condN rfl ?_ ?_) <;> intro h_ <;> try (exfalso; omega)
              refine WS.skip ?_
              refine WS.region ?_
              refine WL.v (V.move rfl) rfl ?_
              refine WL.v (V.lt rfl rfl) rfl ?_
              refine WL.v (V.assign rfl) rfl ?_
              refine WL.done ?_
              refine WS.blk ?_
              refine WS.region ?_
              refine WL.v (V.move rfl) rfl ?_
              refine WL.v (V.add rfl rfl (fits_i64 (by omega) (by omega))) rfl ?_
              refine WL.v (V.assign rfl) rfl ?_
              refine WL.done ?_
              refine WS.keep [13, 12, 11, 6, 5] rfl ?_
              exact ih ⟨(j + 1, _), by simp only; omega, by simp only [chFail, hr]; rfl⟩ (by simp only; omega)
      · have hji : j = i := by omega
        subst hji
        clear ih
        refine WS.seq ?_
        refine WS.seq ?_
        refine WS.region ?_
        refine WL.v (V.move rfl) rfl ?_
        refine WL.v (V.move rfl) rfl ?_
        refine WL.v (V.lenSL rfl) rfl ?_
        refine WL.v (V.lt rfl rfl) rfl ?_
        refine WL.done ?_
        (refine WS.condD rfl ?_ ?_) <;> intro h_ <;> try (exfalso; omega)
        refine WS.exit rfl ?_
        refine WS.seq ?_
        refine WS.region ?_
        refine WL.v (V.move rfl) rfl ?_
        refine WL.v (V.assign rfl) rfl ?_
        refine WL.done ?_
        refine WS.pick [0] rfl ?_
        refine WS.ret rfl ?_
        exact ⟨rfl, rfl⟩
end Go.Proofs
