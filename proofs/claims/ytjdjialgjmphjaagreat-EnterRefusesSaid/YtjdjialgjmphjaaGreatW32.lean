/- Part of the proof: W32. -/
import Derived.Test.YtjdjialgjmphjaaGreatW31
import Derived.Test.YtjdjialgjmphjaaGreatW17
set_option linter.all false
set_option maxRecDepth 100000
set_option maxHeartbeats 16000000
namespace Go.Proofs
open Go Go.Sep
attribute [local irreducible] WS WL WH WHT OpV OpR

/-! ## the verifier's own: entries as bytes -/

theorem ref16_Check (e : Sqe) : Spec Tryz.prog 185 [.agg (encS e).toArray] [] (fun v A => v = B e.ok ∧ A = []) := by
  refine Spec.of Tryz.func185 rfl Tryz.call185 rfl (fun R => ?_)
  refine WS.seq ?_
  refine WS.region ?_
  refine WL.box rfl rfl ?_; intro r_
  refine WL.v (V.assign rfl) rfl ?_
  refine WL.done ?_
  refine WS.seq ?_
  refine WS.region ?_
  refine WL.v (V.fieldAddr rfl) rfl ?_
  refine WL.r (V.load1 0 rfl rfl rfl) rfl ?_
  refine WL.v (V.ge rfl rfl) rfl ?_
  refine WL.v (V.move rfl) rfl ?_
  (refine WL.gcaseD rfl rfl ?_ ?_) <;> intro h_ <;> try (exfalso; omega)
  refine WL.gy rfl rfl ?_
  refine WL.v (V.fieldAddr rfl) rfl ?_
  refine WL.gy rfl rfl ?_
  refine WL.r (V.load1 0 rfl rfl rfl) rfl ?_
  refine WL.gy rfl rfl ?_
  refine WL.v (V.le rfl rfl) rfl ?_
  refine WL.v (V.pickT rfl rfl) rfl ?_
  refine WL.v (V.move rfl) rfl ?_
  (refine WL.gcaseD rfl rfl ?_ ?_) <;> intro h_ <;> try (exfalso; omega)
  refine WL.gy rfl rfl ?_
  refine WL.v (V.fieldAddr rfl) rfl ?_
  refine WL.gy rfl rfl ?_
  refine WL.r (V.load1 0 rfl rfl rfl) rfl ?_
  refine WL.gy rfl rfl ?_
  refine WL.v (V.ge rfl rfl) rfl ?_
  refine WL.v (V.pickT rfl rfl) rfl ?_
  refine WL.v (V.move rfl) rfl ?_
  (refine WL.gcaseD rfl rfl ?_ ?_) <;> intro h_ <;> try (exfalso; omega)
  refine WL.gy rfl rfl ?_
  refine WL.v (V.fieldAddr rfl) rfl ?_
  refine WL.gy rfl rfl ?_
  refine WL.r (V.load1 0 rfl rfl rfl) rfl ?_
  refine WL.gy rfl rfl ?_
  refine WL.v (V.le rfl rfl) rfl ?_
  refine WL.v (V.pickT rfl rfl) rfl ?_
  refine WL.v (V.move rfl) rfl ?_
  (refine WL.gcaseD rfl rfl ?_ ?_) <;> intro h_ <;> try (exfalso; omega)
  refine WL.gy rfl rfl ?_
  refine WL.v (V.fieldAddr rfl) rfl ?_
  refine WL.gy rfl rfl ?_
  refine WL.r (V.load1 0 rfl rfl rfl) rfl ?_
  refine WL.gy rfl rfl ?_
  refine WL.v (V.bits rfl rfl rfl) rfl ?_
  refine WL.gy rfl rfl ?_
  refine WL.v (V.nei rfl rfl) rfl ?_
  refine WL.v (V.pickT rfl rfl) rfl ?_
  refine WL.v (V.assign rfl) rfl ?_
  refine WL.done ?_
  rotate_left
  refine WL.gn2 rfl rfl rfl rfl ?_
  refine WL.gn2 rfl rfl rfl rfl ?_
  refine WL.gn2 rfl rfl rfl rfl ?_
  refine WL.gn2 rfl rfl rfl rfl ?_
  refine WL.v (V.pickF rfl rfl) rfl ?_
  refine WL.v (V.assign rfl) rfl ?_
  refine WL.done ?_
  rotate_left
  refine WL.gn2 rfl rfl rfl rfl ?_
  refine WL.gn2 rfl rfl rfl rfl ?_
  refine WL.gn2 rfl rfl rfl rfl ?_
  refine WL.v (V.pickF rfl rfl) rfl ?_
  refine WL.v (V.move rfl) rfl ?_
  refine WL.gn2 rfl rfl rfl rfl ?_
  refine WL.gn2 rfl rfl rfl rfl ?_
  refine WL.gn2 rfl rfl rfl rfl ?_
  refine WL.gn2 rfl rfl rfl rfl ?_
  refine WL.v (V.pickF rfl rfl) rfl ?_
  refine WL.v (V.assign rfl) rfl ?_
  refine WL.done ?_
  rotate_left
  refine WL.gn2 rfl rfl rfl rfl ?_
  refine WL.gn2 rfl rfl rfl rfl ?_
  refine WL.gn2 rfl rfl rfl rfl ?_
  refine WL.v (V.pickF rfl rfl) rfl ?_
  refine WL.v (V.move rfl) rfl ?_
  refine WL.gn2 rfl rfl rfl rfl ?_
  refine WL.gn2 rfl rfl rfl rfl ?_
  refine WL.gn2 rfl rfl rfl rfl ?_
  refine WL.v (V.pickF rfl rfl) rfl ?_
  refine WL.v (V.move rfl) rfl ?_
  refine WL.gn2 rfl rfl rfl rfl ?_
  refine WL.gn2 rfl rfl rfl rfl ?_
  refine WL.gn2 rfl rfl rfl rfl ?_
  refine WL.gn2 rfl rfl rfl rfl ?_
  refine WL.v (V.pickF rfl rfl) rfl ?_
  refine WL.v (V.assign rfl) rfl ?_
  refine WL.done ?_
  rotate_left
  refine WL.gn2 rfl rfl rfl rfl ?_
  refine WL.gn2 rfl rfl rfl rfl ?_
  refine WL.gn2 rfl rfl rfl rfl ?_
  refine WL.v (V.pickF rfl rfl) rfl ?_
  refine WL.v (V.move rfl) rfl ?_
  refine WL.gn2 rfl rfl rfl rfl ?_
  refine WL.gn2 rfl rfl rfl rfl ?_
  refine WL.gn2 rfl rfl rfl rfl ?_
  refine WL.v (V.pickF rfl rfl) rfl ?_
  refine WL.v (V.move rfl) rfl ?_
  refine WL.gn2 rfl rfl rfl rfl ?_
  refine WL.gn2 rfl rfl rfl rfl ?_
  refine WL.gn2 rfl rfl rfl rfl ?_
  refine WL.v (V.pickF rfl rfl) rfl ?_
  refine WL.v (V.move rfl) rfl ?_
  refine WL.gn2 rfl rfl rfl rfl ?_
  refine WL.gn2 rfl rfl rfl rfl ?_
  refine WL.gn2 rfl rfl rfl rfl ?_
  refine WL.gn2 rfl rfl rfl rfl ?_
  refine WL.v (V.pickF rfl rfl) rfl ?_
  refine WL.v (V.assign rfl) rfl ?_
  refine WL.done ?_
  rotate_left
  all_goals refine WS.pick [] rfl ?_
  all_goals refine WS.ret rfl ?_
  all_goals refine ⟨?_, rfl⟩
  all_goals simp only [retV]
  all_goals congr 1
  all_goals simp [Sqe.ok, *]

def encU (x : UInt32) : List Value := [U x]
instance : Enc encU 1 := ⟨fun _ => rfl, fun _ => rfl, by omega⟩

theorem ref16_Bytes (e : Sqe) (h : e.ok = true) : Spec Tryz.prog 46 [.agg (encS e).toArray] [] (fun v A => ∃ s : SL encY 1, s.xs = e.bytes ∧ v = s.val ∧ A = [s.ch 5]) := by
  refine Spec.of Tryz.func46 rfl Tryz.call46 rfl (fun R => ?_)
  refine WS.seq ?_
  refine WS.region ?_
  refine WL.box rfl rfl ?_; intro r_
  refine WL.v (V.assign rfl) rfl ?_
  refine WL.done ?_
  refine WS.seq ?_
  refine WS.seq ?_
  refine WS.region ?_
  refine WL.r (V.loadN 0 rfl rfl rfl) rfl ?_
  refine WL.callB (ref16_Check e) [] rfl rfl rfl ?_
  rintro _ _ ⟨rfl, rfl⟩
  rw [h]
  refine WL.v (V.not rfl) rfl ?_
  refine WL.done ?_
  refine WS.condF rfl ?_
  refine WS.skip ?_
  refine WS.seq ?_
  refine WS.region ?_
  refine WL.makeSliceC (l := 32) (m := 32) rfl rfl (by omega) rfl (by omega) (by omega) rfl ?_
  intro zb
  refine WL.v (V.assign rfl) rfl ?_
  refine WL.done ?_
  refine WS.seq ?_
  refine WS.region ?_
  refine WL.v (V.move rfl) rfl ?_
  refine WL.v (V.fieldAddr rfl) rfl ?_
  refine WL.r (V.load1 1 rfl rfl rfl) rfl ?_
  refine WL.v (V.conv rfl) rfl ?_
  refine WL.v (V.indexAddr rfl rfl (by constructor <;> omega)) rfl ?_
  refine WL.store 0 rfl rfl rfl rfl rfl rfl ?_
  refine WL.done ?_
  refine WS.seq ?_
  refine WS.region ?_
  refine WL.v (V.move rfl) rfl ?_
  refine WL.v (V.fieldAddr rfl) rfl ?_
  refine WL.r (V.load1 1 rfl rfl rfl) rfl ?_
  refine WL.v (V.conv rfl) rfl ?_
  refine WL.v (V.indexAddr rfl rfl (by constructor <;> omega)) rfl ?_
  refine WL.store 0 rfl rfl rfl rfl rfl rfl ?_
  refine WL.done ?_
  refine WS.seq ?_
  refine WS.region ?_
  refine WL.v (V.fieldAddr rfl) rfl ?_
  refine WL.r (V.load1 1 rfl rfl rfl) rfl ?_
  refine WL.v (V.fieldAddr rfl) rfl ?_
  refine WL.r (V.load1 1 rfl rfl rfl) rfl ?_
  refine WL.v (V.fieldAddr rfl) rfl ?_
  refine WL.r (V.load1 1 rfl rfl rfl) rfl ?_
  refine WL.v (V.fieldAddr rfl) rfl ?_
  refine WL.r (V.load1 1 rfl rfl rfl) rfl ?_
  refine WL.v (V.fieldAddr rfl) rfl ?_
  refine WL.r (V.load1 1 rfl rfl rfl) rfl ?_
  refine WL.v (V.fieldAddr rfl) rfl ?_
  refine WL.r (V.load1 1 rfl rfl rfl) rfl ?_
  rw [wrapY, wrapY]
  refine WL.sliceK (m := 1) (len := 6) rfl rfl (by omega) (by omega) rfl rfl rfl ?_
  intro lb
  refine WL.v (V.assign rfl) rfl ?_
  refine WL.done ?_
  refine WS.seq ?_
  refine WS.seq ?_
  refine WS.region ?_
  refine WL.v (V.assign rfl) rfl ?_
  refine WL.done ?_
  refine WS.block ?_
  generalize hs6 : (⟨[e.tag, e.cap, e.a, e.b, e.c, e.time], some lb, 6, [], fun h => by simp at h, fun _ => by simp⟩ : SL encU 1) = s6
  have hs6x : s6.xs = [e.tag, e.cap, e.a, e.b, e.c, e.time] := by rw [← hs6]
  have hs6l : s6.xs.length = 6 := by rw [hs6x]; rfl
  rw [show Value.slice (some ⟨lb, 0, none⟩) 6 6 = s6.val from by rw [← hs6]; rfl]
  refine WS.keep [5, 4, 3] rfl ?_
  refine WS.pick [1, 0] rfl ?_
  refine WS.perm (pre' := [blk zb 5 (flat encY e.b0), s6.ch 23]) (by subst hs6; exact List.Perm.refl _) ?_
  refine WS.loop (ι := {p : Nat × SL encY 1 // p.1 ≤ 6 ∧ p.2.xs = e.bt p.1}) (fun p => [(5, I p.1.1), (4, s6.val), (3, p.1.2.val)]) (fun p => [p.1.2.ch 5, s6.ch 23]) (fun p => 6 - p.1.1)
    ⟨(0, ⟨e.b0, some zb, 32, [], by simp, fun _ => by simp [Sqe.b0]⟩), by simp, rfl⟩ ?_
  rintro ⟨⟨i, s⟩, hi, hs⟩ X ih
  simp only at ih hi hs ⊢
  have hsl : s.xs.length = 32 := by rw [hs]; exact e.bt_len i
  refine WS.seq ?_
  refine WS.seq ?_
  refine WS.region ?_
  refine WL.v (V.move rfl) rfl ?_
  refine WL.v (V.move rfl) rfl ?_
  refine WL.v (V.lenSL rfl) rfl ?_
  refine WL.v (V.lt rfl rfl) rfl ?_
  refine WL.done ?_
  (refine WS.condD rfl ?_ ?_) <;> intro h_ <;> try (exfalso; omega)
  refine WS.skip ?_
  refine WS.seq ?_
  refine WS.block ?_
  refine WS.region ?_
  refine WL.v (V.move rfl) rfl ?_
  refine WL.v (V.move rfl) rfl ?_
  refine WL.v (V.mul rfl rfl (fits_i64 (by omega) (by omega))) rfl ?_
  refine WL.v (V.add rfl rfl (fits_i64 (by omega) (by omega))) rfl ?_
  refine WL.v (V.move rfl) rfl ?_
  refine WL.v (V.move rfl) rfl ?_
  rotate_left
  refine WS.exit rfl ?_
  refine WS.seq ?_
  refine WS.region ?_
  refine WL.v (V.move rfl) rfl ?_
  refine WL.v (V.assign rfl) rfl ?_
  refine WL.done ?_
  rotate_left
  · have hx : ∃ w : UInt32, e.ws[i]? = some (4 + 4 * i, w) ∧ s6.xs[i]? = some w := by
      rw [hs6x]
      have : i = 0 ∨ i = 1 ∨ i = 2 ∨ i = 3 ∨ i = 4 ∨ i = 5 := by omega
      rcases this with rfl | rfl | rfl | rfl | rfl | rfl <;> exact ⟨_, rfl, rfl⟩
    obtain ⟨w, hw1, hw2⟩ := hx
    refine WL.v (V.indexSL rfl rfl (by constructor <;> omega)) rfl ?_
    refine WL.r (V.loadSL1 (enc := encU) 1 (i := i) (by simp only [Int.toNat_natCast]; rfl) rfl hw2 rfl) rfl ?_
    skip
    rw [show (4 : Int) + 4 * (i : Int) = ((4 + 4 * i : Nat) : Int) from by omega]
    refine WL.call (ref1_Put32 s (4 + 4 * i) w (by omega) (by omega)) [0] rfl rfl rfl ?_
    rintro _ _ ⟨s', hs', rfl, rfl⟩
    refine WL.v (V.assign rfl) rfl ?_
    refine WL.done ?_
    refine WS.blk ?_
    refine WS.region ?_
    refine WL.v (V.move rfl) rfl ?_
    refine WL.v (V.add rfl rfl (fits_i64 (by omega) (by omega))) rfl ?_
    refine WL.v (V.assign rfl) rfl ?_
    refine WL.done ?_
    refine WS.keep [5, 4, 3] rfl ?_
    refine WS.pick [0, 1] rfl ?_
    exact ih ⟨(i + 1, s'), by omega, by simp only; rw [hs', hs, e.bt_succ i _ hw1]⟩ (by simp only; omega)
  · have : i = 6 := by omega
    subst this
    refine WS.pick [0] rfl ?_
    refine WS.ret rfl ?_
    exact ⟨s, hs, rfl, rfl⟩
end Go.Proofs
