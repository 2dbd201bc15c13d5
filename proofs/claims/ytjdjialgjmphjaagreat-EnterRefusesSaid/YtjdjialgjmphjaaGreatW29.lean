/- Part of the proof: W29. -/
import Derived.Test.YtjdjialgjmphjaaGreatW28
set_option linter.all false
set_option maxRecDepth 100000
set_option maxHeartbeats 32000000
namespace Go.Proofs
open Go Go.Sep
attribute [local irreducible] WS WL WH WHT OpV OpR

/-! ## a thread is made -/

abbrev kB (b : Bool) : Value := .bool b

/-- the state's cells at first -/
def stC (u sq cq mb : Nat) (slV mpV qV : Value) (notB epB repB ringB thB spB prB belB takB : Nat) : List Value :=
  [I 1, I u, I sq, I cq, B false, ptr mb 0, slV, .map none, mpV, qV, .map none, .slice none 0 0, .slice none 0 0,
   .map (some notB), .map (some epB), .map (some repB), .map (some ringB), .map (some thB), .map (some spB), .map (some prB), .map (some belB), .map (some takB), .int .u64 0]

def caps1 (u : Nat) : List Cap := [⟨2, 1, 0, 0, 7⟩, ⟨6, 2, 0, 0, 0⟩, ⟨8, 3, 0, 0, 0⟩, ⟨9, 4, 0, 0, 0⟩, ⟨3, 5, 0, 0, 0⟩, ⟨3, 6, 0, 0, 0⟩, ⟨1, 8, u, 0, 0⟩, ⟨7, 7, 0, 0, 0⟩]

theorem caps1_new (u : Nat) (h1 : 1 ≤ u) (h2 : u ≤ 12) (i : Nat) (c : Cap) (h : (caps1 u)[i]? = some c) : ({ c with rights := 7 } : Cap).new := by
  have hm : c ∈ caps1 u := List.mem_of_getElem? h
  simp only [caps1, List.mem_cons, List.not_mem_nil, or_false] at hm
  rcases hm with rfl | rfl | rfl | rfl | rfl | rfl | rfl | rfl <;> constructor <;> simp <;> omega

def st0 : ST := ⟨none, GMap.empty, fun _ => rfl⟩
def pm0 : PM := ⟨none, GMap.empty, fun _ => rfl⟩

theorem core_thread (sb mb u sq cq : Nat) (behind : Int) (notB epB repB ringB thB spB prB belB takB : Nat) (hu1 : 1 ≤ u) (hu2 : u ≤ 12) (hsq : sq ≤ 3) (hcq : cq ≤ 4) :
    Spec Tryz.prog 141 [ptr sb 0, I 0, I behind]
      [blk sb 260 (stC u sq cq mb (.map none) (.map none) (.slice none 0 0) notB epB repB ringB thB spB prB belB takB), mapC repB kI vP (GMap.empty : GMap Int Nat), mapC ringB kI vP (GMap.empty : GMap Int Nat),
       mapC thB kI vTh (GMap.empty : GMap Int Thr), mapC spB kI kB (GMap.empty : GMap Int Bool), mapC takB kI kI (GMap.empty : GMap Int Int)]
      (fun _ A => ∃ slV mpV qV rb cell, A = [blk sb 260 (stC u sq cq mb slV mpV qV notB epB repB ringB thB spB prB belB takB), mapC repB kI vP ((GMap.empty : GMap Int Nat).put 7 cell), mapC ringB kI vP ((GMap.empty : GMap Int Nat).put 4 rb),
       mapC thB kI vTh ((GMap.empty : GMap Int Thr).put 2 th1), mapC takB kI kI ((GMap.empty : GMap Int Int).put 4 0), blk cell 354 [I 0, I 0, B false], blk rb 341 [ptr mb 0, I 5, I 6, I sq, I cq, U 0, U 0, .slice none 0 0]]) := by
  refine Spec.of Tryz.func141 rfl Tryz.call141 rfl (fun R => ?_)
  refine WS.seq ?_
  refine WS.region ?_
  refine WL.v (V.move rfl) rfl ?_
  refine WL.v (V.move rfl) rfl ?_
  refine WL.v (V.nilCheck rfl) rfl ?_
  refine WL.v (V.fieldAddr rfl) rfl ?_
  refine WL.v (V.fieldAddr rfl) rfl ?_
  refine WL.r (V.load1 0 rfl rfl rfl) rfl ?_
  refine WL.v (V.add rfl rfl (fits_i64 (by omega) (by omega))) rfl ?_
  refine WL.v (V.mul rfl rfl (fits_i64 (by omega) (by omega))) rfl ?_
  refine WL.v (V.add rfl rfl (fits_i64 (by omega) (by omega))) rfl ?_
  refine WL.v (V.assign rfl) rfl ?_
  refine WL.done ?_
  refine WS.seq ?_
  refine WS.region ?_
  refine WL.v (V.move rfl) rfl ?_
  refine WL.v (V.build rfl rfl rfl) rfl ?_
  refine WL.alloc rfl ?_; intro r_
  refine WL.store 0 rfl rfl rfl rfl rfl rfl ?_
  refine WL.done ?_
  refine WS.seq ?_
  refine WS.region ?_
  refine WL.v (V.move rfl) rfl ?_
  refine WL.v (V.add rfl rfl (fits_i64 (by omega) (by omega))) rfl ?_
  refine WL.v (V.move rfl) rfl ?_
  refine WL.v (V.add rfl rfl (fits_i64 (by omega) (by omega))) rfl ?_
  refine WL.v (V.move rfl) rfl ?_
  refine WL.v (V.add rfl rfl (fits_i64 (by omega) (by omega))) rfl ?_
  refine WL.r (V.loadN 0 rfl rfl rfl) rfl ?_
  refine WL.v (V.build rfl rfl rfl) rfl ?_
  refine WL.alloc rfl ?_; intro r_
  refine WL.store 0 rfl rfl rfl rfl rfl rfl ?_
  refine WL.done ?_
  refine WS.seq ?_
  rw [show (1 + 0 * (7 + (u : Int))) = 1 from by omega]
  skip
  refine WS.regionD [] Tryz.mixed rfl ?_
  refine WH.pick rfl ?_
  refine WHT.r (V.loadN 1 rfl rfl rfl) rfl rfl rfl rfl rfl ?_
  refine WH.pick rfl ?_
  refine WHT.v (V.move rfl) rfl rfl rfl rfl ?_
  refine WH.pick rfl ?_
  refine WHT.v (V.add rfl rfl (fits_i64 (by omega) (by omega))) rfl rfl rfl rfl ?_
  refine WH.pick rfl ?_
  refine WHT.v (V.build rfl rfl rfl) rfl rfl rfl rfl ?_
  refine WH.pick rfl ?_
  refine WHT.v (V.move rfl) rfl rfl rfl rfl ?_
  refine WH.pick rfl ?_
  refine WHT.v (V.add rfl rfl (fits_i64 (by omega) (by omega))) rfl rfl rfl rfl ?_
  refine WH.pick rfl ?_
  refine WHT.v (V.build rfl rfl rfl) rfl rfl rfl rfl ?_
  refine WH.pick rfl ?_
  refine WHT.v (V.move rfl) rfl rfl rfl rfl ?_
  refine WH.pick rfl ?_
  refine WHT.v (V.add rfl rfl (fits_i64 (by omega) (by omega))) rfl rfl rfl rfl ?_
  refine WH.pick rfl ?_
  refine WHT.v (V.build rfl rfl rfl) rfl rfl rfl rfl ?_
  refine WH.pick rfl ?_
  refine WHT.v (V.move rfl) rfl rfl rfl rfl ?_
  refine WH.pick rfl ?_
  refine WHT.v (V.add rfl rfl (fits_i64 (by omega) (by omega))) rfl rfl rfl rfl ?_
  refine WH.pick rfl ?_
  refine WHT.v (V.build rfl rfl rfl) rfl rfl rfl rfl ?_
  refine WH.pick rfl ?_
  refine WHT.v (V.move rfl) rfl rfl rfl rfl ?_
  refine WH.pick rfl ?_
  refine WHT.v (V.add rfl rfl (fits_i64 (by omega) (by omega))) rfl rfl rfl rfl ?_
  refine WH.pick rfl ?_
  refine WHT.v (V.build rfl rfl rfl) rfl rfl rfl rfl ?_
  refine WH.pick rfl ?_
  refine WHT.v (V.move rfl) rfl rfl rfl rfl ?_
  refine WH.pick rfl ?_
  refine WHT.v (V.add rfl rfl (fits_i64 (by omega) (by omega))) rfl rfl rfl rfl ?_
  refine WH.pick rfl ?_
  refine WHT.v (V.move rfl) rfl rfl rfl rfl ?_
  refine WH.pick rfl ?_
  refine WHT.v (V.nilCheck rfl) rfl rfl rfl rfl ?_
  refine WH.pick rfl ?_
  refine WHT.v (V.fieldAddr rfl) rfl rfl rfl rfl ?_
  refine WH.pick rfl ?_
  refine WHT.v (V.fieldAddr rfl) rfl rfl rfl rfl ?_
  refine WH.pick rfl ?_
  refine WHT.r (V.load1 2 rfl rfl rfl) rfl rfl rfl rfl rfl ?_
  refine WH.pick rfl ?_
  refine WHT.v (V.build rfl rfl rfl) rfl rfl rfl rfl ?_
  refine WH.pick rfl ?_
  refine WHT.v (V.move rfl) rfl rfl rfl rfl ?_
  refine WH.pick rfl ?_
  refine WHT.v (V.add rfl rfl (fits_i64 (by omega) (by omega))) rfl rfl rfl rfl ?_
  refine WH.pick rfl ?_
  refine WHT.v (V.build rfl rfl rfl) rfl rfl rfl rfl ?_
  refine WH.big rfl rfl rfl ?_; intro _ _
  refine WL.sliceK (m := 5) (len := 8) rfl rfl (by omega) (by omega) rfl rfl rfl ?_
  intro lb
  rename_i rootB thrB
  refine WL.nextH (ok := by assumption) (hns := by assumption) (by simp) ?_
  refine WH.pick rfl ?_
  refine WHT.v (V.assign rfl) rfl rfl rfl rfl ?_
  refine WH.done ?_
  refine WS.seq ?_
  refine WS.seq ?_
  refine WS.region ?_
  refine WL.v (V.move rfl) rfl ?_
  refine WL.v (V.nilCheck rfl) rfl ?_
  refine WL.v (V.fieldAddr rfl) rfl ?_
  refine WL.v (V.fieldAddr rfl) rfl ?_
  refine WL.r (V.load1 3 rfl rfl rfl) rfl ?_
  refine WL.done ?_
  refine WS.condF rfl ?_
  refine WS.skip ?_
  refine WS.seq ?_
  refine WS.seq ?_
  refine WS.region ?_
  refine WL.v (V.move rfl) rfl ?_
  refine WL.v (V.lenS rfl) rfl ?_
  refine WL.v (V.move rfl) rfl ?_
  refine WL.done ?_
  refine WS.block ?_
  generalize hs : (⟨caps1 u, some lb, 8, [], fun h => by simp at h, fun _ => by simp [caps1]⟩ : SL encCap 5) = s
  have hsx : s.xs = caps1 u := by rw [← hs]
  have hsl : s.xs.length = 8 := by rw [hsx]; rfl
  refine WS.keep [90, 89, 88, 0, 6, 8] rfl ?_
  refine WS.pick [3, 0, 0, 1, 1, 1, 1, 1] rfl ?_
  refine WS.perm (pre' := [blk sb 260 (stC u sq cq mb st0.val (.map none) (.slice none 0 0) notB epB repB ringB thB spB prB belB takB), st0.ch kPl vSlt, s.ch 103, blk r_ 179 (encTh th1), mapC repB kI vP (GMap.empty : GMap Int Nat), mapC ringB kI vP (GMap.empty : GMap Int Nat),
       mapC thB kI vTh (GMap.empty : GMap Int Thr), mapC spB kI kB (GMap.empty : GMap Int Bool), mapC takB kI kI (GMap.empty : GMap Int Int)]) (by subst hs; exact List.Perm.refl _) ?_
  generalize r_ = xb
  rw [show Value.slice (some ⟨lb, 0, none⟩) 8 8 = s.val from by rw [← hs]; rfl]
  refine WS.loop (ι := {p : Nat × ST // p.1 ≤ 8 ∧ ∀ j : Int, (p.1 : Int) < j → p.2.get ⟨1, j⟩ = none})
    (fun p => [(90, I p.1.1), (89, I 8), (88, s.val), (0, ptr sb 0), (6, I 1), (8, ptr xb 0)])
    (fun p => [blk sb 260 (stC u sq cq mb p.1.2.val (.map none) (.slice none 0 0) notB epB repB ringB thB spB prB belB takB), p.1.2.ch kPl vSlt, s.ch 103, blk xb 179 (encTh th1), mapC repB kI vP (GMap.empty : GMap Int Nat), mapC ringB kI vP (GMap.empty : GMap Int Nat),
       mapC thB kI vTh (GMap.empty : GMap Int Thr), mapC spB kI kB (GMap.empty : GMap Int Bool), mapC takB kI kI (GMap.empty : GMap Int Int)]) (fun p => 8 - p.1.1) ⟨(0, st0), by omega, fun _ _ => rfl⟩ ?_
  rintro ⟨⟨i, t⟩, hi, ht⟩ X ih
  simp only at ih hi ht ⊢
  refine WS.seq ?_
  refine WS.region ?_
  refine WL.v (V.lt rfl rfl) rfl ?_
  refine WL.done ?_
  refine WS.seq ?_
  (refine WS.condD rfl ?_ ?_) <;> intro h_ <;> try (exfalso; omega)
  refine WS.skip ?_
  refine WS.seq ?_
  refine WS.block ?_
  refine WS.seq ?_
  refine WS.region ?_
  refine WL.v (V.move rfl) rfl ?_
  rotate_left
  refine WS.exit rfl ?_
  refine WS.seq ?_
  refine WS.seq ?_
  refine WS.region ?_
  refine WL.v (V.move rfl) rfl ?_
  refine WL.done ?_
  refine WS.block ?_
  rotate_left
  · have hget : s.xs[i]? = some (s.xs[i]'(by omega)) := by simp
    generalize s.xs[i]'(by omega) = c at hget
    have hcn := caps1_new u hu1 hu2 i c (by rw [← hsx]; exact hget)
    refine WL.v (V.indexSL rfl rfl (by constructor <;> omega)) rfl ?_
    refine WL.r (V.loadSL (enc := encCap) 2 (i := i) (by simp only [Int.toNat_natCast]; rfl) rfl hget) rfl ?_
    refine WL.alloc rfl ?_; intro r_
    refine WL.v (V.assign rfl) rfl ?_
    refine WL.store 0 rfl rfl rfl rfl rfl rfl ?_
    refine WL.done ?_
    refine WS.seq ?_
    refine WS.region ?_
    refine WL.v (V.fieldAddr rfl) rfl ?_
    refine WL.store 0 rfl rfl rfl rfl rfl rfl ?_
    refine WL.done ?_
    refine WS.regionD [] Tryz.mixed rfl ?_
    refine WH.pick rfl ?_
    refine WHT.v (V.move rfl) rfl rfl rfl rfl ?_
    refine WH.pick rfl ?_
    refine WHT.v (V.nilCheck rfl) rfl rfl rfl rfl ?_
    refine WH.pick rfl ?_
    refine WHT.v (V.fieldAddr rfl) rfl rfl rfl rfl ?_
    refine WH.pick rfl ?_
    refine WHT.v (V.move rfl) rfl rfl rfl rfl ?_
    refine WH.pick rfl ?_
    refine WHT.v (V.move rfl) rfl rfl rfl rfl ?_
    refine WH.pick rfl ?_
    refine WHT.v (V.add rfl rfl (fits_i64 (by omega) (by omega))) rfl rfl rfl rfl ?_
    refine WH.pick rfl ?_
    refine WHT.v (V.build rfl rfl rfl) rfl rfl rfl rfl ?_
    refine WH.pick rfl ?_
    refine WHT.r (V.loadN 0 rfl rfl rfl) rfl rfl rfl rfl rfl ?_
    refine WH.pick rfl ?_
    refine WHT.v (V.build rfl rfl rfl) rfl rfl rfl rfl ?_
    refine WH.big rfl rfl rfl ?_; intro _ _
    refine WL.callB (slots_Put_new sb 6 260 (stC u sq cq mb t.val (.map none) (.slice none 0 0) notB epB repB ringB thB spB prB belB takB) t ⟨1, (i : Int) + 1⟩ ⟨c.kind, c.obj, c.size, c.badge, 7⟩ rfl (by show (1 : Int) ≤ 1; omega) (by show (1 : Int) ≤ 64; omega) (by show (0 : Int) ≤ i + 1; omega) (by show (i : Int) + 1 < 16; omega) (ht _ (by omega)) hcn) [1, 1] rfl rfl rfl ?_
    rintro _ _ ⟨t', cells', ⟨b, htb⟩, hset, rfl, rfl⟩
    have hc' : cells' = stC u sq cq mb t'.val (.map none) (.slice none 0 0) notB epB repB ringB thB spB prB belB takB := (Option.some.inj (show some (stC u sq cq mb t'.val (.map none) (.slice none 0 0) notB epB repB ringB thB spB prB belB takB) = some cells' from hset)).symm
    rw [hc']
    refine WL.nextH (ok := by assumption) (hns := by assumption) (by simp) ?_
    refine WH.done ?_
    refine WS.blk ?_
    refine WS.region ?_
    refine WL.v (V.add rfl rfl (fits_i64 (by omega) (by omega))) rfl ?_
    refine WL.v (V.move rfl) rfl ?_
    refine WL.done ?_
    refine WS.keep [90, 89, 88, 0, 6, 8] rfl ?_
    refine WS.pick [8, 8, 1, 1, 1, 1, 1, 1, 1] rfl ?_
    exact ih ⟨(i + 1, t'), by omega, fun j hj => by
      simp only at hj ⊢
      rw [htb, MP.get_put', if_neg (fun e => by simp only [Place.mk.injEq, true_and] at e; omega)]
      exact ht j (by omega)⟩ (by simp only; omega)
  · clear ih
    generalize t.val = slV
    refine WS.keep [107, 0, 6, 8] rfl ?_
    refine WS.pick [0, 2, 2, 2, 2, 2, 2] rfl ?_
    refine WS.perm (pre' := [blk sb 260 (stC u sq cq mb slV pm0.val (.slice none 0 0) notB epB repB ringB thB spB prB belB takB), pm0.ch kPg vM1, blk xb 179 (encTh th1), mapC repB kI vP (GMap.empty : GMap Int Nat), mapC ringB kI vP (GMap.empty : GMap Int Nat),
       mapC thB kI vTh (GMap.empty : GMap Int Thr), mapC spB kI kB (GMap.empty : GMap Int Bool), mapC takB kI kI (GMap.empty : GMap Int Int)]) (List.Perm.refl _) ?_
    refine WS.loop (ι := {p : Nat × PM // p.1 ≤ 2 ∧ ∀ j : Int, (p.1 : Int) ≤ j → p.2.get ⟨3, j⟩ = none})
      (fun p => [(107, I p.1.1), (0, ptr sb 0), (6, I 1), (8, ptr xb 0)])
      (fun p => [blk sb 260 (stC u sq cq mb slV p.1.2.val (.slice none 0 0) notB epB repB ringB thB spB prB belB takB), p.1.2.ch kPg vM1, blk xb 179 (encTh th1), mapC repB kI vP (GMap.empty : GMap Int Nat), mapC ringB kI vP (GMap.empty : GMap Int Nat),
         mapC thB kI vTh (GMap.empty : GMap Int Thr), mapC spB kI kB (GMap.empty : GMap Int Bool), mapC takB kI kI (GMap.empty : GMap Int Int)]) (fun p => 2 - p.1.1) ⟨(0, pm0), by omega, fun _ _ => rfl⟩ ?_
    rintro ⟨⟨i, p⟩, hi, hp⟩ X ih
    simp only at ih hi hp ⊢
    refine WS.seq ?_
    refine WS.region ?_
    refine WL.v (V.lt rfl rfl) rfl ?_
    refine WL.done ?_
    refine WS.seq ?_
    (refine WS.condD rfl ?_ ?_) <;> intro h_ <;> try (exfalso; omega)
    refine WS.skip ?_
    refine WS.seq ?_
    refine WS.block ?_
    refine WS.seq ?_
    refine WS.region ?_
    refine WL.v (V.move rfl) rfl ?_
    refine WL.v (V.assign rfl) rfl ?_
    refine WL.done ?_
    rotate_left
    refine WS.exit rfl ?_
    refine WS.seq ?_
    rotate_left
    · refine WS.regionD [] Tryz.mixed rfl ?_
      refine WH.pick rfl ?_
      refine WHT.v (V.move rfl) rfl rfl rfl rfl ?_
      refine WH.pick rfl ?_
      refine WHT.v (V.nilCheck rfl) rfl rfl rfl rfl ?_
      refine WH.pick rfl ?_
      refine WHT.v (V.fieldAddr rfl) rfl rfl rfl rfl ?_
      refine WH.pick rfl ?_
      refine WHT.v (V.fieldAddr rfl) rfl rfl rfl rfl ?_
      refine WH.pick rfl ?_
      refine WHT.r (V.load1 2 rfl rfl rfl) rfl rfl rfl rfl rfl ?_
      refine WH.pick rfl ?_
      refine WHT.v (V.move rfl) rfl rfl rfl rfl ?_
      refine WH.pick rfl ?_
      refine WHT.v (V.build rfl rfl rfl) rfl rfl rfl rfl ?_
      refine WH.pick rfl ?_
      refine WHT.v (V.move rfl) rfl rfl rfl rfl ?_
      refine WH.pick rfl ?_
      refine WHT.v (V.add rfl rfl (fits_i64 (by omega) (by omega))) rfl rfl rfl rfl ?_
      refine WH.pick rfl ?_
      refine WHT.v (V.move rfl) rfl rfl rfl rfl ?_
      refine WH.pick rfl ?_
      refine WHT.v (V.add rfl rfl (fits_i64 (by omega) (by omega))) rfl rfl rfl rfl ?_
      refine WH.pick rfl ?_
      refine WHT.v (V.build rfl rfl rfl) rfl rfl rfl rfl ?_
      refine WH.big rfl rfl rfl ?_; intro _ _
      refine WL.callB (space_Set_new sb 8 260 (stC u sq cq mb slV p.val (.slice none 0 0) notB epB repB ringB thB spB prB belB takB) p ⟨3, (i : Int)⟩ ⟨1 + 4 + (i : Int), 3⟩ rfl (by show (0 : Int) ≤ i; omega) (by show (i : Int) < 8; omega) (by show (1 : Int) ≤ 3; omega) (by show (3 : Int) ≤ 64; omega) (by show (1 : Int) ≤ 1 + 4 + i; omega) (by show (1 : Int) + 4 + i ≤ 64; omega) (by show (1 : Int) ≤ 3; omega) (by show (3 : Int) ≤ 3; omega) (hp _ (by omega))) [0, 0] rfl rfl rfl ?_
      rintro _ _ ⟨p', cells', ⟨b, hpb⟩, hset, rfl, rfl⟩
      have hc' : cells' = stC u sq cq mb slV p'.val (.slice none 0 0) notB epB repB ringB thB spB prB belB takB := (Option.some.inj (show some (stC u sq cq mb slV p'.val (.slice none 0 0) notB epB repB ringB thB spB prB belB takB) = some cells' from hset)).symm
      rw [hc']
      refine WL.nextH (ok := by assumption) (hns := by assumption) (by simp) ?_
      refine WH.done ?_
      refine WS.blk ?_
      refine WS.region ?_
      refine WL.v (V.add rfl rfl (fits_i64 (by omega) (by omega))) rfl ?_
      refine WL.v (V.move rfl) rfl ?_
      refine WL.done ?_
      refine WS.keep [107, 0, 6, 8] rfl ?_
      refine WS.pick [6, 6, 0, 0, 0, 0, 0, 0] rfl ?_
      exact ih ⟨(i + 1, p'), by omega, fun j hj => by
        simp only at hj ⊢
        rw [hpb, MP.get_put', if_neg (fun e => by simp only [Page.mk.injEq, true_and] at e; omega)]
        exact hp j (by omega)⟩ (by simp only; omega)
    · clear ih
      generalize p.val = mpV
      refine WS.keep [0, 6, 8] rfl ?_
      refine WS.pick [0, 1, 1, 1, 1, 1, 1] rfl ?_
      refine WS.regionM (X := Nat) (fun _ => [(0, ptr sb 0), (6, I 1), (8, ptr xb 0)])
        (fun c => [blk sb 260 (stC u sq cq mb slV mpV (.slice none 0 0) notB epB repB ringB thB spB prB belB takB), blk xb 179 (encTh th1), mapC repB kI vP ((GMap.empty : GMap Int Nat).put 7 c), mapC ringB kI vP (GMap.empty : GMap Int Nat),
          mapC thB kI vTh ((GMap.empty : GMap Int Thr).put 2 th1), mapC spB kI kB ((GMap.empty : GMap Int Bool).put 3 true), mapC takB kI kI (GMap.empty : GMap Int Int), blk c 354 [I 0, I 0, B false]])
        [blk sb 260 (stC u sq cq mb slV mpV (.slice none 0 0) notB epB repB ringB thB spB prB belB takB), blk xb 179 (encTh th1)] Tryz.mixed rfl ?_ ?_
      · refine WH.pick rfl ?_
        refine WHT.v (V.move rfl) rfl rfl rfl rfl ?_
        refine WH.pick rfl ?_
        refine WHT.v (V.nilCheck rfl) rfl rfl rfl rfl ?_
        refine WH.pick rfl ?_
        refine WHT.v (V.fieldAddr rfl) rfl rfl rfl rfl ?_
        refine WH.pick rfl ?_
        refine WHT.rh (V.load1 0 rfl rfl rfl) rfl (by simp) rfl rfl rfl rfl ?_
        refine WH.pick rfl ?_
        refine WHT.v (V.fieldAddr rfl) rfl rfl rfl rfl ?_
        refine WH.pick rfl ?_
        refine WHT.rh (V.load1 1 rfl rfl rfl) rfl (by simp) rfl rfl rfl rfl ?_
        refine WH.pick rfl ?_
        refine WHT.v (V.move rfl) rfl rfl rfl rfl ?_
        refine WH.pick rfl ?_
        refine WHT.v (V.nilCheck rfl) rfl rfl rfl rfl ?_
        refine WH.pick rfl ?_
        refine WHT.v (V.fieldAddr rfl) rfl rfl rfl rfl ?_
        refine WH.pick rfl ?_
        refine WHT.rh (V.load1 0 rfl rfl rfl) rfl (by simp) rfl rfl rfl rfl ?_
        refine WH.pick rfl ?_
        refine WHT.v (V.fieldAddr rfl) rfl rfl rfl rfl ?_
        refine WH.pick rfl ?_
        refine WHT.rh (V.load1 1 rfl rfl rfl) rfl (by simp) rfl rfl rfl rfl ?_
        refine WH.pick rfl ?_
        refine WHT.v (V.move rfl) rfl rfl rfl rfl ?_
        refine WH.pick rfl ?_
        refine WHT.v (V.nilCheck rfl) rfl rfl rfl rfl ?_
        refine WH.pick rfl ?_
        refine WHT.v (V.fieldAddr rfl) rfl rfl rfl rfl ?_
        refine WH.pick rfl ?_
        refine WHT.rh (V.load1 0 rfl rfl rfl) rfl (by simp) rfl rfl rfl rfl ?_
        refine WH.pick rfl ?_
        refine WHT.v (V.move rfl) rfl rfl rfl rfl ?_
        refine WH.pick rfl ?_
        refine WHT.v (V.add rfl rfl (fits_i64 (by omega) (by omega))) rfl rfl rfl rfl ?_
        refine WH.pick rfl ?_
        refine WHT.rh (V.loadN 1 rfl rfl rfl) rfl (by simp) rfl rfl rfl rfl ?_
        refine WH.pick rfl ?_
        refine WHT.v (V.build rfl rfl rfl) rfl rfl rfl rfl ?_
        (refine WH.two rfl rfl rfl rfl rfl ?_ ?_) <;> intro _ _
        refine WL.box rfl rfl ?_; intro r_
        refine WL.nextH (ok := by assumption) (hns := by assumption) (by simp) ?_
        refine WH.big rfl rfl rfl ?_; intro _ _
        rotate_left
        rotate_left
        all_goals first
          | refine WL.mapEntryNew (kenc := kI) (venc := vTh) (k := 2) (m := GMap.empty) 4 rfl rfl rfl rfl rfl ?_
          | refine WL.mapEntryNew (kenc := kI) (venc := vTh) (k := 2) (m := GMap.empty) 5 rfl rfl rfl rfl rfl ?_
        refine WL.nextH (ok := by assumption) (hns := by assumption) (by simp) ?_
        refine WH.pick rfl ?_
        refine WHT.v (V.extractL rfl rfl) rfl rfl rfl rfl ?_
        refine WH.big rfl rfl rfl ?_; intro _ _
        rotate_left
        refine WL.nextH (ok := by assumption) (hns := by assumption) (by simp) ?_
        refine WH.pick rfl ?_
        refine WHT.v (V.extractL rfl rfl) rfl rfl rfl rfl ?_
        (refine WH.two rfl rfl rfl rfl rfl ?_ ?_) <;> intro _ _
        refine WL.box rfl rfl ?_; intro r_
        refine WL.nextH (ok := by assumption) (hns := by assumption) (by simp) ?_
        refine WH.big rfl rfl rfl ?_; intro _ _
        rotate_left
        rotate_left
        all_goals first
          | refine WL.entryStoreNew (kenc := kI) (venc := vTh) (k := 2) (v := th1) (m := GMap.empty) 0 rfl rfl rfl rfl rfl rfl ?_
          | refine WL.entryStoreNew (kenc := kI) (venc := vTh) (k := 2) (v := th1) (m := GMap.empty) 1 rfl rfl rfl rfl rfl rfl ?_
        refine WL.nextH (ok := by assumption) (hns := by assumption) (by simp) ?_
        refine WH.big rfl rfl rfl ?_; intro _ _
        rotate_left
        refine WL.nextH (ok := by assumption) (hns := by assumption) (by simp) ?_
        refine WH.big rfl rfl rfl ?_; intro _ _
        rotate_left
        refine WL.nextH (ok := by assumption) (hns := by assumption) (by simp) ?_
        (refine WH.two rfl rfl rfl rfl rfl ?_ ?_) <;> intro _ _
        refine WL.box rfl rfl ?_; intro r_
        refine WL.nextH (ok := by assumption) (hns := by assumption) (by simp) ?_
        refine WH.big rfl rfl rfl ?_; intro _ _
        rotate_left
        rotate_left
        all_goals first
          | refine WL.mapEntryNew (kenc := kI) (venc := kB) (k := 3) (m := GMap.empty) 6 rfl rfl rfl rfl rfl ?_
          | refine WL.mapEntryNew (kenc := kI) (venc := kB) (k := 3) (m := GMap.empty) 5 rfl rfl rfl rfl rfl ?_
        refine WL.nextH (ok := by assumption) (hns := by assumption) (by simp) ?_
        refine WH.pick rfl ?_
        refine WHT.v (V.extractL rfl rfl) rfl rfl rfl rfl ?_
        refine WH.big rfl rfl rfl ?_; intro _ _
        rotate_left
        refine WL.nextH (ok := by assumption) (hns := by assumption) (by simp) ?_
        refine WH.pick rfl ?_
        refine WHT.v (V.extractL rfl rfl) rfl rfl rfl rfl ?_
        refine WH.big rfl rfl rfl ?_; intro _ _
        rotate_left
        refine WL.nextH (ok := by assumption) (hns := by assumption) (by simp) ?_
        refine WH.pick rfl ?_
        refine WHT.v (V.extractL rfl rfl) rfl rfl rfl rfl ?_
        refine WH.big rfl rfl rfl ?_; intro _ _
        rotate_left
        refine WL.nextH (ok := by assumption) (hns := by assumption) (by simp) ?_
        refine WH.pick rfl ?_
        refine WHT.v (V.extractL rfl rfl) rfl rfl rfl rfl ?_
        (refine WH.two rfl rfl rfl rfl rfl ?_ ?_) <;> intro _ _
        refine WL.box rfl rfl ?_; intro r_
        refine WL.nextH (ok := by assumption) (hns := by assumption) (by simp) ?_
        refine WH.big rfl rfl rfl ?_; intro _ _
        rotate_left
        rotate_left
        all_goals first
          | refine WL.entryStoreNew (kenc := kI) (venc := kB) (k := 3) (v := true) (m := GMap.empty) 0 rfl rfl rfl rfl rfl rfl ?_
          | refine WL.entryStoreNew (kenc := kI) (venc := kB) (k := 3) (v := true) (m := GMap.empty) 1 rfl rfl rfl rfl rfl rfl ?_
        refine WL.nextH (ok := by assumption) (hns := by assumption) (by simp) ?_
        refine WH.big rfl rfl rfl ?_; intro _ _
        rotate_left
        refine WL.nextH (ok := by assumption) (hns := by assumption) (by simp) ?_
        refine WH.big rfl rfl rfl ?_; intro _ _
        rotate_left
        refine WL.nextH (ok := by assumption) (hns := by assumption) (by simp) ?_
        refine WH.big rfl rfl rfl ?_; intro _ _
        rotate_left
        refine WL.nextH (ok := by assumption) (hns := by assumption) (by simp) ?_
        refine WH.big rfl rfl rfl ?_; intro _ _
        rotate_left
        refine WL.nextH (ok := by assumption) (hns := by assumption) (by simp) ?_
        (refine WH.two rfl rfl rfl rfl rfl ?_ ?_) <;> intro _ _
        refine WL.box rfl rfl ?_; intro r_
        refine WL.nextH (ok := by assumption) (hns := by assumption) (by simp) ?_
        refine WH.big rfl rfl rfl ?_; intro _ _
        rotate_left
        rotate_left
        all_goals first
          | refine WL.mapEntryNew (kenc := kI) (venc := vP) (k := 7) (m := GMap.empty) 5 rfl rfl rfl rfl rfl ?_
          | refine WL.mapEntryNew (kenc := kI) (venc := vP) (k := 7) (m := GMap.empty) 4 rfl rfl rfl rfl rfl ?_
        refine WL.nextH (ok := by assumption) (hns := by assumption) (by simp) ?_
        refine WH.pick rfl ?_
        refine WHT.v (V.extractL rfl rfl) rfl rfl rfl rfl ?_
        refine WH.big rfl rfl rfl ?_; intro _ _
        rotate_left
        refine WL.nextH (ok := by assumption) (hns := by assumption) (by simp) ?_
        refine WH.pick rfl ?_
        refine WHT.v (V.extractL rfl rfl) rfl rfl rfl rfl ?_
        refine WH.big rfl rfl rfl ?_; intro _ _
        rotate_left
        refine WL.nextH (ok := by assumption) (hns := by assumption) (by simp) ?_
        refine WH.pick rfl ?_
        refine WHT.v (V.extractL rfl rfl) rfl rfl rfl rfl ?_
        refine WH.big rfl rfl rfl ?_; intro _ _
        rotate_left
        refine WL.nextH (ok := by assumption) (hns := by assumption) (by simp) ?_
        refine WH.pick rfl ?_
        refine WHT.v (V.extractL rfl rfl) rfl rfl rfl rfl ?_
        refine WH.big rfl rfl rfl ?_; intro _ _
        rotate_left
        refine WL.nextH (ok := by assumption) (hns := by assumption) (by simp) ?_
        refine WH.pick rfl ?_
        refine WHT.v (V.extractL rfl rfl) rfl rfl rfl rfl ?_
        refine WH.big rfl rfl rfl ?_; intro _ _
        rotate_left
        refine WL.nextH (ok := by assumption) (hns := by assumption) (by simp) ?_
        refine WH.pick rfl ?_
        refine WHT.v (V.extractL rfl rfl) rfl rfl rfl rfl ?_
        refine WH.big rfl rfl rfl ?_; intro _ _
        refine WL.box rfl rfl ?_; intro r_
        refine WL.nextH (ok := by assumption) (hns := by assumption) (by simp) ?_
        refine WH.big rfl rfl rfl ?_; intro _ _
        rotate_left
        all_goals first
          | refine WL.entryStoreNew (kenc := kI) (venc := vP) (k := 7) (v := r_) (m := GMap.empty) 0 rfl rfl rfl rfl rfl rfl ?_
          | refine WL.entryStoreNew (kenc := kI) (venc := vP) (k := 7) (v := r_) (m := GMap.empty) 1 rfl rfl rfl rfl rfl rfl ?_
        refine WL.nextH (ok := by assumption) (hns := by assumption) (by simp) ?_
        rotate_left
        refine WL.nextH (ok := by assumption) (hns := by assumption) (by simp) ?_
        rotate_left
        refine WL.nextH (ok := by assumption) (hns := by assumption) (by simp) ?_
        rotate_left
        refine WL.nextH (ok := by assumption) (hns := by assumption) (by simp) ?_
        rotate_left
        refine WL.nextH (ok := by assumption) (hns := by assumption) (by simp) ?_
        rotate_left
        refine WL.nextH (ok := by assumption) (hns := by assumption) (by simp) ?_
        rotate_left
        all_goals first
          | exact WH.doneM r_ (subEnv_restr [0, 6, 8] rfl rfl) [4, 4, 0, 3, 1, 0, 1, 0] rfl
          | exact WH.doneM r_ (subEnv_restr [0, 6, 8] rfl rfl) [4, 4, 0, 3, 2, 0, 1, 0] rfl
          | exact WH.doneM r_ (subEnv_restr [0, 6, 8] rfl rfl) [4, 4, 0, 3, 2, 1, 1, 0] rfl
      · intro c
        refine WS.seq ?_
        refine WS.regionK [0,0] rfl Tryz.mixed rfl ?_
        refine WH.pick rfl ?_
        refine WHT.v (V.move rfl) rfl rfl rfl rfl ?_
        refine WH.pick rfl ?_
        refine WHT.v (V.nilCheck rfl) rfl rfl rfl rfl ?_
        refine WH.pick rfl ?_
        refine WHT.v (V.fieldAddr rfl) rfl rfl rfl rfl ?_
        refine WH.pick rfl ?_
        refine WHT.rh (V.load1 0 rfl rfl rfl) rfl (by simp) rfl rfl rfl rfl ?_
        refine WH.pick rfl ?_
        refine WHT.v (V.fieldAddr rfl) rfl rfl rfl rfl ?_
        refine WH.pick rfl ?_
        refine WHT.rh (V.load1 1 rfl rfl rfl) rfl (by simp) rfl rfl rfl rfl ?_
        refine WH.pick rfl ?_
        refine WHT.v (V.move rfl) rfl rfl rfl rfl ?_
        refine WH.pick rfl ?_
        refine WHT.v (V.nilCheck rfl) rfl rfl rfl rfl ?_
        refine WH.pick rfl ?_
        refine WHT.v (V.fieldAddr rfl) rfl rfl rfl rfl ?_
        refine WH.pick rfl ?_
        refine WHT.r (V.load1 0 rfl rfl rfl) rfl rfl rfl rfl rfl ?_
        refine WH.pick rfl ?_
        refine WHT.v (V.move rfl) rfl rfl rfl rfl ?_
        refine WH.pick rfl ?_
        refine WHT.v (V.add rfl rfl (fits_i64 (by omega) (by omega))) rfl rfl rfl rfl ?_
        refine WH.pick rfl ?_
        refine WHT.v (V.move rfl) rfl rfl rfl rfl ?_
        refine WH.pick rfl ?_
        refine WHT.v (V.add rfl rfl (fits_i64 (by omega) (by omega))) rfl rfl rfl rfl ?_
        refine WH.pick rfl ?_
        refine WHT.v (V.move rfl) rfl rfl rfl rfl ?_
        refine WH.pick rfl ?_
        refine WHT.v (V.nilCheck rfl) rfl rfl rfl rfl ?_
        refine WH.pick rfl ?_
        refine WHT.v (V.fieldAddr rfl) rfl rfl rfl rfl ?_
        refine WH.pick rfl ?_
        refine WHT.v (V.fieldAddr rfl) rfl rfl rfl rfl ?_
        refine WH.pick rfl ?_
        refine WHT.r (V.load1 0 rfl rfl rfl) rfl rfl rfl rfl rfl ?_
        refine WH.pick rfl ?_
        refine WHT.v (V.move rfl) rfl rfl rfl rfl ?_
        refine WH.pick rfl ?_
        refine WHT.v (V.nilCheck rfl) rfl rfl rfl rfl ?_
        refine WH.pick rfl ?_
        refine WHT.v (V.fieldAddr rfl) rfl rfl rfl rfl ?_
        refine WH.pick rfl ?_
        refine WHT.v (V.fieldAddr rfl) rfl rfl rfl rfl ?_
        refine WH.pick rfl ?_
        refine WHT.r (V.load1 0 rfl rfl rfl) rfl rfl rfl rfl rfl ?_
        refine WH.big rfl rfl rfl ?_; intro _ _
        refine WL.callB (ring_New mb 5 6 sq cq hsq hcq) [] rfl rfl rfl ?_
        rintro _ _ ⟨rb, rfl, rfl⟩
        refine WL.nextH (ok := by assumption) (hns := by assumption) (by simp) ?_
        refine WH.big rfl rfl rfl ?_; intro _ _
        refine WL.mapUpdate (kenc := kI) (venc := vP) (k := 4) (v := rb) 3 rfl rfl rfl rfl ?_
        refine WL.nextH (ok := by assumption) (hns := by assumption) (by simp) ?_
        refine WH.done ?_
        refine WS.seq ?_
        refine WS.regionD [] Tryz.mixed rfl ?_
        refine WH.pick rfl ?_
        refine WHT.v (V.move rfl) rfl rfl rfl rfl ?_
        refine WH.pick rfl ?_
        refine WHT.v (V.nilCheck rfl) rfl rfl rfl rfl ?_
        refine WH.pick rfl ?_
        refine WHT.v (V.fieldAddr rfl) rfl rfl rfl rfl ?_
        refine WH.pick rfl ?_
        refine WHT.r (V.load1 1 rfl rfl rfl) rfl rfl rfl rfl rfl ?_
        refine WH.pick rfl ?_
        refine WHT.v (V.fieldAddr rfl) rfl rfl rfl rfl ?_
        refine WH.pick rfl ?_
        refine WHT.r (V.load1 2 rfl rfl rfl) rfl rfl rfl rfl rfl ?_
        refine WH.big rfl rfl rfl ?_; intro _ _
        refine WL.mapUpdate (kenc := kI) (venc := kI) (k := 4) (v := 0) 6 rfl rfl rfl rfl ?_
        refine WL.nextH (ok := by assumption) (hns := by assumption) (by simp) ?_
        refine WH.done ?_
        refine WS.regionD [] Tryz.mixed rfl ?_
        refine WH.pick rfl ?_
        refine WHT.v (V.move rfl) rfl rfl rfl rfl ?_
        refine WH.pick rfl ?_
        refine WHT.v (V.nilCheck rfl) rfl rfl rfl rfl ?_
        refine WH.pick rfl ?_
        refine WHT.v (V.fieldAddr rfl) rfl rfl rfl rfl ?_
        refine WH.pick rfl ?_
        refine WHT.v (V.fieldAddr rfl) rfl rfl rfl rfl ?_
        refine WH.pick rfl ?_
        refine WHT.r (V.load1 3 rfl rfl rfl) rfl rfl rfl rfl rfl ?_
        refine WH.big rfl rfl rfl ?_; intro _ _
        refine WL.callB (runq_Add_nil sb 9 260 (stC u sq cq mb slV mpV (.slice none 0 0) notB epB repB ringB thB spB prB belB takB) 2 4 rfl (by omega) (by omega)) [2] rfl rfl rfl ?_
        rintro _ _ ⟨qs, cells', hqs, hset, rfl, rfl⟩
        have hc' : cells' = stC u sq cq mb slV mpV qs.val notB epB repB ringB thB spB prB belB takB := (Option.some.inj (show some (stC u sq cq mb slV mpV qs.val notB epB repB ringB thB spB prB belB takB) = some cells' from hset)).symm
        rw [hc']
        refine WL.nextH (ok := by assumption) (hns := by assumption) (by simp) ?_
        refine WH.done ?_
        refine WS.pick [8, 3, 1, 2, 0, 2, 2] rfl ?_
        refine WS.fin rfl ?_
        exact ⟨slV, mpV, qs.val, rb, c, rfl⟩
end Go.Proofs
