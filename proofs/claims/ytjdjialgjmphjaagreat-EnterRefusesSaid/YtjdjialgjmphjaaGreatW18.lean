/- Part of the proof: W18. -/
import Derived.Test.YtjdjialgjmphjaaGreatW17
set_option linter.all false
set_option maxRecDepth 100000
set_option maxHeartbeats 8000000
namespace Go.Proofs
open Go Go.Sep
attribute [local irreducible] WS WL WH WHT OpV OpR

theorem equal_bytes (s1 s2 : SL encY 1) (hb : s1.xs.length ≤ 1000000) (hb2 : s2.xs.length ≤ 1000000) :
    Spec Tryz.prog 354 [s1.val, s2.val] [s1.ch 5, s2.ch 5] (fun v A => v = B (decide (s1.xs = s2.xs)) ∧ A = [s1.ch 5, s2.ch 5]) := by
  refine Spec.of Tryz.func354 rfl Tryz.call354 rfl (fun R => ?_)
  refine WS.seq ?_
  refine WS.region ?_
  refine WL.v (V.assign rfl) rfl ?_
  refine WL.done ?_
  refine WS.seq ?_
  refine WS.seq ?_
  refine WS.region ?_
  refine WL.v (V.move rfl) rfl ?_
  refine WL.v (V.lenSL rfl) rfl ?_
  refine WL.v (V.move rfl) rfl ?_
  refine WL.v (V.lenSL rfl) rfl ?_
  refine WL.v (V.nei rfl rfl) rfl ?_
  refine WL.done ?_
  (refine WS.condN rfl ?_ ?_) <;> intro h_ <;> try (exfalso; omega)
  refine WS.seq ?_
  refine WS.region ?_
  refine WL.v (V.assign rfl) rfl ?_
  refine WL.done ?_
  rotate_left
  refine WS.skip ?_
  refine WS.seq ?_
  refine WS.seq ?_
  refine WS.region ?_
  refine WL.v (V.move rfl) rfl ?_
  refine WL.v (V.lenSL rfl) rfl ?_
  refine WL.v (V.move rfl) rfl ?_
  refine WL.done ?_
  refine WS.block ?_
  rotate_left
  · refine WS.ret rfl ?_
    refine ⟨?_, rfl⟩
    have : s1.xs ≠ s2.xs := fun e => h_ (by rw [e])
    simp [retV, this]
  · have hlen : s1.xs.length = s2.xs.length := by omega
    refine WS.keep [13, 12, 0, 1] rfl ?_
    refine WS.loop (ι := {i : Nat // i ≤ s1.xs.length ∧ ∀ j, j < i → s1.xs[j]? = s2.xs[j]?}) (fun i => [(13, I i.1), (12, I s1.xs.length), (0, s1.val), (1, s2.val)]) (fun _ => [s1.ch 5, s2.ch 5]) (fun i => s1.xs.length - i.1)
      ⟨0, by omega, fun j h => by omega⟩ ?_
    rintro ⟨i, hi, heq⟩ X ih
    simp only at ih ⊢
    refine WS.seq ?_
    refine WS.region ?_
    refine WL.v (V.lt rfl rfl) rfl ?_
    refine WL.done ?_
    refine WS.seq ?_
    (refine WS.condD rfl ?_ ?_) <;> intro h_ <;> try (exfalso; omega)
    refine WS.skip ?_
    refine WS.seq ?_
    refine WS.block ?_
    refine WS.seq ?_
    refine WS.region ?_
    refine WL.v (V.move rfl) rfl ?_
    refine WL.v (V.assign rfl) rfl ?_
    refine WL.done ?_
    refine WS.seq ?_
    refine WS.regionD [] Tryz.mixed rfl ?_
    refine WH.pick rfl ?_
    refine WHT.v (V.move rfl) rfl rfl rfl rfl ?_
    refine WH.pick rfl ?_
    refine WHT.v (V.move rfl) rfl rfl rfl rfl ?_
    refine WH.pick rfl ?_
    rotate_left
    refine WS.exit rfl ?_
    refine WS.seq ?_
    refine WS.region ?_
    refine WL.v (V.assign rfl) rfl ?_
    refine WL.done ?_
    rotate_left
    · have g1 : s1.xs[i]? = some (s1.xs[i]'(by omega)) := by simp
      have g2 : s2.xs[i]? = some (s2.xs[i]'(by omega)) := by simp
      generalize s1.xs[i]'(by omega) = y1 at g1
      generalize s2.xs[i]'(by omega) = y2 at g2
      refine WHT.v (V.indexSL rfl rfl (by constructor <;> omega)) rfl rfl rfl rfl ?_
      refine WH.pick rfl ?_
      refine WHT.r (V.loadSL1 (enc := encY) 0 (i := i) (by simp only [Int.toNat_natCast]; rfl) rfl g1 rfl) rfl rfl rfl rfl rfl ?_
      refine WH.pick rfl ?_
      refine WHT.v (V.move rfl) rfl rfl rfl rfl ?_
      refine WH.pick rfl ?_
      refine WHT.v (V.move rfl) rfl rfl rfl rfl ?_
      refine WH.pick rfl ?_
      refine WHT.v (V.indexSL rfl rfl (by constructor <;> omega)) rfl rfl rfl rfl ?_
      refine WH.pick rfl ?_
      refine WHT.r (V.loadSL1 (enc := encY) 1 (i := i) (by simp only [Int.toNat_natCast]; rfl) rfl g2 rfl) rfl rfl rfl rfl rfl ?_
      refine WH.pick rfl ?_
      refine WHT.v (V.nei rfl rfl) rfl rfl rfl rfl ?_
      refine WH.done ?_
      (refine WS.condN rfl ?_ ?_) <;> intro h_ <;> try (exfalso; omega)
      refine WS.seq ?_
      refine WS.region ?_
      refine WL.v (V.assign rfl) rfl ?_
      refine WL.done ?_
      rotate_left
      refine WS.skip ?_
      refine WS.blk ?_
      refine WS.region ?_
      refine WL.v (V.add rfl rfl (fits_i64 (by omega) (by omega))) rfl ?_
      refine WL.v (V.move rfl) rfl ?_
      refine WL.done ?_
      rotate_left
      · refine WS.ret rfl ?_
        refine ⟨?_, rfl⟩
        have : s1.xs ≠ s2.xs := fun e => by
          rw [e, g2] at g1
          simp at g1
          exact h_ (by rw [g1])
        simp [retV, this]
      · refine WS.keep [13, 12, 0, 1] rfl ?_
        have hyy : y1 = y2 := by
          apply UInt8.toNat_inj.1
          omega
        refine ih ⟨i + 1, by omega, fun j hj => ?_⟩ (by simp only; omega)
        by_cases e : j = i
        · subst e; rw [g1, g2, hyy]
        · exact heq j (by omega)
    · refine WS.ret rfl ?_
      refine ⟨?_, rfl⟩
      have : s1.xs = s2.xs := by
        apply List.ext_getElem?
        intro j
        by_cases hj : j < i
        · exact heq j hj
        · rw [List.getElem?_eq_none (by omega), List.getElem?_eq_none (by omega)]
      simp [retV, this]
end Go.Proofs
