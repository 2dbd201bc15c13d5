/- Part of the proof: W35. -/
import Derived.Test.YtjdjialgjmphjaaGreatW34
import Derived.Test.YtjdjialgjmphjaaGreatPC
import Derived.Test.YtjdjialgjmphjaaGreatS6
set_option linter.all false
set_option maxRecDepth 100000
set_option maxHeartbeats 32000000
namespace Go.Proofs
open Go Go.Sep
attribute [local irreducible] WS WL WH WHT OpV OpR

/-! ## EnterBudget -/

theorem u32_ofNat (i : Nat) : Value.int .u32 (IntKind.u32.wrap (i : Int)) = U (UInt32.ofNat i) := by
  rw [wrap_u32, U, UInt32.toNat_ofNat']
  congr 1

theorem law_EnterBudget (n : Int) (a : Option Addr) (len cap : Nat) (ch : Chunk) (zs : Nat → Int) (ha : ArgI .i64 a len cap ch zs) :
    Spec Tryz.prog 7 [I n, .slice a len cap] [ch] (fun v A => v = B true ∧ A = [ch]) := by
  refine Spec.of Tryz.func7 rfl Tryz.call7 rfl (fun R => ?_)
  refine WS.seq ?_
  refine WS.region ?_
  refine WL.v (V.assign rfl) rfl ?_
  refine WL.done ?_
  refine WS.seq ?_
  refine WS.region ?_
  refine WL.callB law_first [] rfl rfl rfl ?_
  rintro _ _ ⟨rfl, rfl⟩
  refine WL.v (V.assign rfl) rfl ?_
  refine WL.done ?_
  refine WS.seq ?_
  refine WS.seq ?_
  refine WS.region ?_
  refine WL.v (V.move rfl) rfl ?_
  refine WL.v (V.not rfl) rfl ?_
  refine WL.done ?_
  refine WS.condF rfl ?_
  refine WS.skip ?_
  refine WS.seq ?_
  refine WS.seq ?_
  refine WS.region ?_
  refine WL.v (V.move rfl) rfl ?_
  refine WL.v (V.lenS rfl) rfl ?_
  refine WL.v (V.gt rfl rfl) rfl ?_
  refine WL.done ?_
  (refine WS.condD rfl ?_ ?_) <;> intro h_ <;> try (exfalso; omega)
  refine WS.seq ?_
  refine WS.region ?_
  refine WL.v (V.move rfl) rfl ?_
  refine WL.v (V.assign rfl) rfl ?_
  refine WL.done ?_
  rotate_left
  refine WS.skip ?_
  refine WS.seq ?_
  refine WS.region ?_
  refine WL.v (V.move rfl) rfl ?_
  rotate_left
  · refine WS.pick [0] rfl ?_
    refine WS.ret rfl ?_
    exact ⟨rfl, rfl⟩
  · have hr9 := numI_range n 9 (by omega)
    refine WL.callB (world_Number n 9 (by omega) (by omega)) [] rfl rfl rfl ?_
    rintro _ _ ⟨rfl, rfl⟩
    obtain ⟨N, hN⟩ : ∃ N : Nat, numI n 9 = N := ⟨(numI n 9).toNat, by omega⟩
    rw [hN]
    refine WL.v (V.assign rfl) rfl ?_
    refine WL.done ?_
    refine WS.seq ?_
    refine WS.region ?_
    refine WL.v (V.assign rfl) rfl ?_
    refine WL.done ?_
    refine WS.seq ?_
    refine WS.seq ?_
    refine WS.region ?_
    refine WL.v (V.assign rfl) rfl ?_
    refine WL.done ?_
    refine WS.block ?_
    refine WS.keep [7, 6, 0, 1, 5] rfl ?_
    refine WS.perm (pre' := [(SL.empty : SL encS 8).ch 25, ch]) (List.Perm.refl _) ?_
    refine WS.loop (ι := {p : Nat × SL encS 8 // p.1 ≤ N ∧ p.2.xs = (List.range p.1).map nopE}) (fun p => [(7, I p.1.1), (6, p.1.2.val), (0, I N), (1, .slice a len cap), (5, B true)]) (fun p => [p.1.2.ch 25, ch]) (fun p => N - p.1.1)
      ⟨(0, SL.empty), by simp⟩ ?_
    rintro ⟨⟨i, l⟩, hi, hl⟩ X ih
    simp only at ih hi hl ⊢
    have hll : l.xs.length = i := by rw [hl]; simp
    refine WS.seq ?_
    refine WS.seq ?_
    refine WS.region ?_
    refine WL.v (V.move rfl) rfl ?_
    refine WL.v (V.move rfl) rfl ?_
    refine WL.v (V.lt rfl rfl) rfl ?_
    refine WL.done ?_
    (refine WS.condD rfl ?_ ?_) <;> intro h_ <;> try (exfalso; omega)
    refine WS.skip ?_
    refine WS.seq ?_
    refine WS.block ?_
    refine WS.region ?_
    refine WL.v (V.move rfl) rfl ?_
    refine WL.v (V.move rfl) rfl ?_
    refine WL.v (V.conv rfl) rfl ?_
    refine WL.v (V.build rfl rfl rfl) rfl ?_
    rotate_left
    refine WS.exit rfl ?_
    refine WS.seq ?_
    refine WS.region ?_
    refine WL.v (V.move rfl) rfl ?_
    rotate_left
    · rw [u32_ofNat i]
      refine WL.slice1 (m := 8) rfl rfl rfl (by omega) (by omega) rfl ?_
      intro nb
      refine WL.append (enc := encS) [nopE i] 1 l rfl rfl rfl rfl (.inr ⟨nb, 0, 1, 0, 25, _, rfl, rfl, rfl⟩) (by simp only [List.length_cons, List.length_nil]; omega) rfl ?_
      intro l' hl'
      refine WL.v (V.assign rfl) rfl ?_
      refine WL.done ?_
      refine WS.blk ?_
      refine WS.region ?_
      refine WL.v (V.move rfl) rfl ?_
      refine WL.v (V.add rfl rfl (fits_i64 (by omega) (by omega))) rfl ?_
      refine WL.v (V.assign rfl) rfl ?_
      refine WL.done ?_
      refine WS.keep [7, 6, 0, 1, 5] rfl ?_
      refine WS.pick [0, 1] rfl ?_
      exact ih ⟨(i + 1, l'), by omega, by simp only; rw [hl', hl, List.range_succ]; simp⟩ (by simp only; omega)
    · have hiN : i = N := by omega
      subst hiN
      clear ih
      refine WL.callB (law_laid l (by omega) (by rw [hl]; intro e he; obtain ⟨j, _, rfl⟩ := List.mem_map.1 he; exact nop_ok j)) [0] rfl rfl rfl ?_
      rintro _ _ ⟨k, hv, hsq, hcq, rfl, rfl⟩
      rw [hl] at hv
      refine WL.v (V.assign rfl) rfl ?_
      refine WL.done ?_
      refine WS.seq ?_
      refine WS.seq ?_
      refine WS.region ?_
      refine WL.v (V.move rfl) rfl ?_
      refine WL.v (V.eqNilP rfl rfl) rfl ?_
      refine WL.done ?_
      refine WS.condF rfl ?_
      refine WS.skip ?_
      refine WS.seq ?_
      refine WS.region ?_
      refine WL.v (V.assign rfl) rfl ?_
      refine WL.done ?_
      refine WS.seq ?_
      refine WS.seq ?_
      refine WS.region ?_
      refine WL.v (V.assign rfl) rfl ?_
      refine WL.done ?_
      refine WS.block ?_
      refine WS.keep [10, 9, 0, 1, 8, 5] rfl ?_
      refine WS.loop (ι := {p : Nat × Nat × KW // p.1 ≤ len ∧ p.2.2.x = k.x ∧ Bud p.2.2.view i p.2.1}) (fun p => [(10, I p.1.1), (9, I p.1.2.1), (0, I i), (1, .slice a len cap), (8, k.p), (5, B true)]) (fun p => [ch] ++ p.1.2.2.chs) (fun p => len - p.1.1)
        ⟨(0, 0, k), by omega, rfl, by rw [hv]; exact bud_start i (by omega)⟩ ?_
      rintro ⟨⟨j, t, k1⟩, hj, hx1, hbud⟩ X ih
      simp only at ih hj hx1 hbud ⊢
      rw [show k.p = k1.p from by rw [KW.p, KW.p, hx1]]
      refine WS.seq ?_
      refine WS.seq ?_
      refine WS.region ?_
      refine WL.v (V.move rfl) rfl ?_
      refine WL.v (V.move rfl) rfl ?_
      refine WL.v (V.lenS rfl) rfl ?_
      refine WL.v (V.lt rfl rfl) rfl ?_
      refine WL.done ?_
      (refine WS.condD rfl ?_ ?_) <;> intro h_ <;> try (exfalso; omega)
      refine WS.skip ?_
      refine WS.seq ?_
      refine WS.block ?_
      refine WS.seq ?_
      refine WS.region ?_
      refine WL.v (V.move rfl) rfl ?_
      refine WL.v (V.move rfl) rfl ?_
      rotate_left
      refine WS.exit rfl ?_
      refine WS.seq ?_
      refine WS.region ?_
      refine WL.v (V.move rfl) rfl ?_
      refine WL.v (V.assign rfl) rfl ?_
      refine WL.done ?_
      rotate_left
      · obtain ⟨b, o, c, Tb, fr, rfl, rfl, hc⟩ := ha.row (by omega)
        have hcj : c[o + (j : Int).toNat * 1]? = some (I (zs j)) := by
          rw [show o + (j : Int).toNat * 1 = o + j from by omega]
          exact hc j (by omega)
        refine WL.v (V.indexAddr rfl rfl (by constructor <;> omega)) rfl ?_
        refine WL.r (V.loadRaw 0 rfl rfl hcj) rfl ?_
        have hr6 := numI_range (zs j) 6 (by omega)
        skip
        refine WL.callB (world_Number (zs j) 6 (by omega) (by omega)) [] rfl rfl rfl ?_
        rintro _ _ ⟨rfl, rfl⟩
        generalize numI (zs j) 6 = z at hr6
        refine WL.v (V.sub rfl rfl (fits_i64 (by omega) (by omega))) rfl ?_
        refine WL.v (V.assign rfl) rfl ?_
        refine WL.done ?_
        refine WS.seq ?_
        refine WS.region ?_
        refine WL.v (V.move rfl) rfl ?_
        refine WL.v (V.move rfl) rfl ?_
        have hin : EIn k1.x.sqb k1.x.cqb (z - 1) k1.view (i - t) (16 - t) := by rw [hx1, hsq, hcq]; exact hbud.in' (z - 1)
        refine WL.callB (k1.EnterE (z - 1) (i - t) (16 - t) hin) (wk 1) rfl rfl rfl ?_
        rintro _ _ ⟨k2, hx2, hv2, rfl, rfl⟩
        rw [show k1.p = k2.p from by rw [KW.p, KW.p, hx2]]
        obtain ⟨hdl, hout⟩ := hin.out _ rfl
        rw [← hv2, hx1, hsq, hcq] at hout
        rw [hx1, hsq] at hdl
        have hti := hbud.tn
        have hbz : ((bud (z - 1) : Nat) : Int) = max (z - 1) 0 := by unfold bud; omega
        have hmi : min (i - t) (bud (z - 1)) ≤ i - t := by omega
        have hb2 := hbud.next hmi hdl hout
        have hm : ((min (i - t) (bud (z - 1)) : Nat) : Int) = min (max (z - 1) 0) ((i : Int) - t) := by omega
        clear hv2 hout hdl hin
        generalize min (i - t) (bud (z - 1)) = m at hm hb2 hmi
        refine WL.v (V.assign rfl) rfl ?_
        refine WL.done ?_
        refine WS.seq ?_
        refine WS.seq ?_
        refine WS.region ?_
        refine WL.v (V.move rfl) rfl ?_
        refine WL.v (V.move rfl) rfl ?_
        refine WL.v (V.max2 rfl rfl) rfl ?_
        refine WL.v (V.move rfl) rfl ?_
        refine WL.v (V.move rfl) rfl ?_
        refine WL.v (V.sub rfl rfl (fits_i64 (by omega) (by omega))) rfl ?_
        refine WL.v (V.min2 rfl rfl) rfl ?_
        refine WL.v (V.nei rfl rfl) rfl ?_
        refine WL.done ?_
        (refine WS.condN rfl ?_ ?_) <;> intro h_ <;> try (exfalso; omega)
        refine WS.skip ?_
        refine WS.seq ?_
        refine WS.region ?_
        refine WL.v (V.move rfl) rfl ?_
        refine WL.v (V.move rfl) rfl ?_
        refine WL.v (V.add rfl rfl (fits_i64 (by omega) (by omega))) rfl ?_
        refine WL.v (V.assign rfl) rfl ?_
        refine WL.done ?_
        refine WS.seq ?_
        refine WS.region ?_
        refine WL.v (V.move rfl) rfl ?_
        rw [show ((t : Int) + (m : Int)) = ((t + m : Nat) : Int) from by omega]
        refine WL.callB k2.Taken (wk 1) rfl rfl rfl ?_
        rintro _ _ ⟨rfl, rfl⟩
        rw [show k2.taken = t + m from hb2.taken]
        refine WL.v (V.move rfl) rfl ?_
        refine WL.v (V.nei rfl rfl) rfl ?_
        refine WL.v (V.move rfl) rfl ?_
        (refine WL.gcaseN rfl rfl ?_ ?_) <;> intro h_ <;> try (exfalso; omega)
        refine WL.gy rfl rfl ?_
        refine WL.v (V.move rfl) rfl ?_
        refine WL.gy rfl rfl ?_
        refine WL.callB (k2.Ring 4) (wk 1) rfl rfl rfl ?_
        rintro _ _ ⟨rfl, rfl⟩
        rw [if_pos rfl]
        refine WL.gy rfl rfl ?_
        refine WL.callB k2.RHead (wk 1) rfl rfl rfl ?_
        rintro _ _ ⟨rfl, rfl⟩
        rw [show k2.r.hd = UInt32.ofNat (t + m) from hb2.hd]
        have h8 := hb2.n8
        have htm := hb2.tn
        have hconv : IntKind.i64.wrap (((UInt32.ofNat (t + m)).toNat : Nat) : Int) = ((t + m : Nat) : Int) := by
          have : (UInt32.ofNat (t + m)).toNat = t + m := by simp; omega
          rw [this]
          exact fits_i64 (by omega) (by omega)
        refine WL.gy rfl rfl ?_
        refine WL.v (V.conv rfl) rfl ?_
        refine WL.gy rfl rfl ?_
        refine WL.v (V.move rfl) rfl ?_
        refine WL.gy rfl rfl ?_
        refine WL.v (V.nei rfl rfl) rfl ?_
        refine WL.v (V.pickF rfl rfl) rfl ?_
        refine WL.v (V.move rfl) rfl ?_
        (refine WL.gcaseN rfl rfl ?_ ?_) <;> intro h_ <;> try (exfalso; omega)
        refine WL.gy rfl rfl ?_
        refine WL.v (V.move rfl) rfl ?_
        refine WL.gy rfl rfl ?_
        rw [hconv]
        skip
        refine WL.callB k2.Journal (wk 1) rfl rfl rfl ?_
        rintro _ _ ⟨rfl, rfl⟩
        refine WL.gy rfl rfl ?_
        have hjl : k2.j.xs.length = t + m := hb2.jl
        refine WL.callB (k2.JAll (by omega)) (wk 1) rfl rfl rfl ?_
        rintro _ _ ⟨s, hs, rfl, rfl⟩
        have hsl : s.xs.length = t + m := by rw [hs]; exact hjl
        refine WL.gy rfl rfl ?_
        refine WL.v (V.lenSL rfl) rfl ?_
        refine WL.gy rfl rfl ?_
        refine WL.v (V.move rfl) rfl ?_
        refine WL.gy rfl rfl ?_
        refine WL.v (V.nei rfl rfl) rfl ?_
        refine WL.v (V.pickF rfl rfl) rfl ?_
        refine WL.done ?_
        (refine WS.condN rfl ?_ ?_) <;> intro h_ <;> try (exfalso; omega)
        refine WS.skip ?_
        refine WS.blk ?_
        refine WS.region ?_
        refine WL.v (V.move rfl) rfl ?_
        refine WL.v (V.add rfl rfl (fits_i64 (by omega) (by omega))) rfl ?_
        refine WL.v (V.assign rfl) rfl ?_
        refine WL.done ?_
        refine WS.keep [10, 9, 0, 1, 8, 5] rfl ?_
        refine WS.pick (0 :: wk 1) rfl ?_
        rw [show k2.p = k.p from by rw [KW.p, KW.p, hx2, hx1]]
        exact ih ⟨(j + 1, t + m, k2), by simp only; omega, hx2.trans hx1, hb2⟩ (by simp only; omega)
      · refine WS.pick [0] rfl ?_
        refine WS.ret rfl ?_
        exact ⟨rfl, rfl⟩
end Go.Proofs
