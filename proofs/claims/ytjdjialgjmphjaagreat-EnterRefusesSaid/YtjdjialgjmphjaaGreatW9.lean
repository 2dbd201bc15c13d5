/- Part of the proof: W9. -/
import Derived.Test.YtjdjialgjmphjaaGreatW8
import Derived.Test.YtjdjialgjmphjaaGreatS5
set_option linter.all false
set_option maxRecDepth 100000
set_option maxHeartbeats 8000000
namespace Go.Proofs
open Go Go.Sep
attribute [local irreducible] WS WL WH WHT OpV OpR

/-! ## which request is next -/

def noDrain (flags : Int) : Bool := decide (bitsOf .and .i64 flags 4 = 0)
def RT.may (t : RT) (ring k : Nat) (r : Req) : Bool :=
  !r.started && (r.prev == 0 || (t.find ⟨ring, r.prev⟩).isNone) && (noDrain r.e.flags || k == 0)
def RT.nextFrom (t : RT) (ring : Nat) : Nat → List Req → Option ID
  | _, [] => none
  | k, r :: rs => if t.may ring k r then some r.id else t.nextFrom ring (k + 1) rs
def RT.next (t : RT) (ring : Nat) : Option ID := t.nextFrom ring 0 (t.of ring)
def retID (o : Option ID) : Value := .tuple #[kID (o.getD ⟨0, 0⟩), B o.isSome]

theorem reqs_Next (sb o E0 : Nat) (cells : List Value) (t : RT) (ring : Nat) (hc : getN o 1 cells = some [t.p.val]) (hb : (t.of ring).length ≤ 12) (hk : t.L.length ≤ 1000) :
    Spec Tryz.prog 132 [ptr sb o, I ring] [blk sb E0 cells, t.ch] (fun v A => v = retID (t.next ring) ∧ A = [blk sb E0 cells, t.ch]) := by
  refine Spec.of Tryz.func132 rfl Tryz.call132 rfl (fun R => ?_)
  refine WS.seq ?_
  refine WS.region ?_
  refine WL.alloc rfl ?_; intro r_
  refine WL.v (V.assign rfl) rfl ?_
  refine WL.done ?_
  refine WS.seq ?_
  refine WS.region ?_
  refine WL.v (V.move rfl) rfl ?_
  refine WL.v (V.move rfl) rfl ?_
  refine WL.call (reqs_Of sb o E0 cells t ring hc hb hk) [1, 1] rfl rfl rfl ?_
  rintro _ _ ⟨s, hsx, rfl, rfl⟩
  have hsl : s.xs.length ≤ 12 := by rw [hsx]; exact hb
  refine WL.v (V.assign rfl) rfl ?_
  refine WL.done ?_
  refine WS.seq ?_
  refine WS.seq ?_
  refine WS.region ?_
  refine WL.v (V.move rfl) rfl ?_
  refine WL.v (V.lenSL rfl) rfl ?_
  refine WL.v (V.move rfl) rfl ?_
  refine WL.done ?_
  refine WS.block ?_
  refine WS.keep [15, 14, 13, 0, 1, 4] rfl ?_
  refine WS.loop (ι := {k : Nat // k ≤ s.xs.length ∧ t.next ring = t.nextFrom ring k (s.xs.drop k)}) (fun k => [(15, I k.1), (14, I s.xs.length), (13, s.val), (0, ptr sb o), (1, I ring), (4, ptr r_ 0)])
    (fun k => [s.ch 210, blk sb E0 cells, t.ch, blk r_ 41 [I 0, I 0]]) (fun k => s.xs.length - k.1) ⟨0, by omega, by rw [hsx]; rfl⟩ ?_
  rintro ⟨k, hk1, hk2⟩ X ih
  simp only at ih ⊢
  refine WS.seq ?_
  refine WS.region ?_
  refine WL.v (V.lt rfl rfl) rfl ?_
  refine WL.done ?_
  refine WS.seq ?_
  (refine WS.condD rfl ?_ ?_) <;> intro h_ <;> try (exfalso; omega)
  refine WS.skip ?_
  refine WS.seq ?_
  refine WS.block ?_
  refine WS.seq ?_
  refine WS.region ?_
  refine WL.v (V.move rfl) rfl ?_
  rotate_left
  refine WS.exit rfl ?_
  refine WS.seq ?_
  refine WS.region ?_
  refine WL.v (V.build rfl rfl rfl) rfl ?_
  refine WL.store 3 rfl rfl rfl rfl rfl rfl ?_
  refine WL.v (V.assign rfl) rfl ?_
  refine WL.done ?_
  rotate_left
  · have hlt : k < s.xs.length := by omega
    refine WL.v (V.indexSL rfl rfl (by constructor <;> omega)) rfl ?_
    have hget : s.xs[k]? = some s.xs[k] := by simp
    have hdrop : s.xs.drop k = s.xs[k] :: s.xs.drop (k + 1) := by simp
    generalize s.xs[k] = r at hget hdrop
    refine WL.r (V.loadSL (enc := encR) 0 (i := k) (by simp only [Int.toNat_natCast]; rfl) rfl hget) rfl ?_
    have stop : t.may ring k r = true → t.next ring = some r.id := fun h => by
      rw [hk2, hdrop]; simp only [RT.nextFrom, h, if_true]
    have cont : t.may ring k r = false → t.next ring = t.nextFrom ring (k + 1) (s.xs.drop (k + 1)) := fun h => by
      rw [hk2, hdrop]; simp [RT.nextFrom, h]
    have hhas := reqs_has sb o E0 cells t ⟨ring, r.prev⟩ hc
    by_cases hp : r.prev = 0
    · refine WL.alloc rfl ?_; intro r_
      refine WL.v (V.assign rfl) rfl ?_
      refine WL.store 0 rfl rfl rfl rfl rfl rfl ?_
      refine WL.done ?_
      refine WS.seq ?_
      refine WS.region ?_
      refine WL.v (V.fieldAddr rfl) rfl ?_
      refine WL.r (V.load1 0 rfl rfl rfl) rfl ?_
      refine WL.v (V.eqi rfl rfl) rfl ?_
      refine WL.v (V.move rfl) rfl ?_
      (refine WL.gcaseD rfl rfl ?_ ?_) <;> intro h_ <;> try (exfalso; omega)
      refine WL.gn2 rfl rfl rfl rfl ?_
      refine WL.gn2 rfl rfl rfl rfl ?_
      refine WL.gn2 rfl rfl rfl rfl ?_
      refine WL.gn2 rfl rfl rfl rfl ?_
      refine WL.gn2 rfl rfl rfl rfl ?_
      refine WL.gn2 rfl rfl rfl rfl ?_
      refine WL.gn2 rfl rfl rfl rfl ?_
      refine WL.v (V.pickT rfl rfl) rfl ?_
      refine WL.v (V.assign rfl) rfl ?_
      refine WL.done ?_
      refine WS.seq ?_
      refine WS.region ?_
      refine WL.v (V.fieldAddr rfl) rfl ?_
      refine WL.r (V.load1 0 rfl rfl rfl) rfl ?_
      refine WL.v (V.not rfl) rfl ?_
      refine WL.v (V.move rfl) rfl ?_
      cases hst : r.started
      · refine WL.gy rfl rfl ?_
        refine WL.v (V.move rfl) rfl ?_
        refine WL.v (V.pickT rfl rfl) rfl ?_
        refine WL.v (V.move rfl) rfl ?_
        refine WL.gy rfl rfl ?_
        refine WL.v (V.fieldAddr rfl) rfl ?_
        refine WL.gy rfl rfl ?_
        refine WL.v (V.fieldAddr rfl) rfl ?_
        refine WL.gy rfl rfl ?_
        refine WL.r (V.load1 0 rfl rfl rfl) rfl ?_
        refine WL.gy rfl rfl ?_
        refine WL.v (V.bits rfl rfl rfl) rfl ?_
        refine WL.gy rfl rfl ?_
        refine WL.v (V.eqi rfl rfl) rfl ?_
        refine WL.gy rfl rfl ?_
        refine WL.v (V.move rfl) rfl ?_
        (refine WL.gcaseD rfl rfl ?_ ?_) <;> intro h_ <;> try (exfalso; omega)
        refine WL.gn2 rfl rfl rfl rfl ?_
        refine WL.gn2 rfl rfl rfl rfl ?_
        refine WL.gy rfl rfl ?_
        refine WL.v (V.pickT rfl rfl) rfl ?_
        refine WL.v (V.pickT rfl rfl) rfl ?_
        refine WL.done ?_
        refine WS.condT rfl ?_
        refine WS.seq ?_
        refine WS.region ?_
        refine WL.v (V.fieldAddr rfl) rfl ?_
        refine WL.r (V.loadN 0 rfl rfl rfl) rfl ?_
        refine WL.store 4 rfl rfl rfl rfl rfl rfl ?_
        refine WL.v (V.assign rfl) rfl ?_
        refine WL.done ?_
        rotate_left
        refine WL.gy rfl rfl ?_
        refine WL.v (V.move rfl) rfl ?_
        refine WL.gy rfl rfl ?_
        refine WL.v (V.eqi rfl rfl) rfl ?_
        refine WL.gy rfl rfl ?_
        refine WL.v (V.pickF rfl rfl) rfl ?_
        refine WL.v (V.pickT rfl rfl) rfl ?_
        refine WL.done ?_
        (refine WS.condD rfl ?_ ?_) <;> intro h_ <;> try (exfalso; omega)
        refine WS.seq ?_
        refine WS.region ?_
        refine WL.v (V.fieldAddr rfl) rfl ?_
        refine WL.r (V.loadN 0 rfl rfl rfl) rfl ?_
        refine WL.store 4 rfl rfl rfl rfl rfl rfl ?_
        refine WL.v (V.assign rfl) rfl ?_
        refine WL.done ?_
        rotate_left
        refine WS.skip ?_
        refine WS.blk ?_
        refine WS.region ?_
        refine WL.v (V.add rfl rfl (fits_i64 (by omega) (by omega))) rfl ?_
        refine WL.v (V.move rfl) rfl ?_
        refine WL.done ?_
        rotate_left
        · rw [stop (by simp [RT.may, hst, hp, noDrain, h_])]
          refine WS.retM [3, 3] (.cell rfl (.agg 0 rfl rfl) (.tmp rfl .nil)) rfl ?_
          exact ⟨rfl, rfl⟩
        · rename_i h1
          have hk0 : k = 0 := by omega
          rw [stop (by simp [RT.may, hst, hp, hk0])]
          refine WS.retM [3, 3] (.cell rfl (.agg 0 rfl rfl) (.tmp rfl .nil)) rfl ?_
          exact ⟨rfl, rfl⟩
        · rename_i h1
          have hk0 : k ≠ 0 := by omega
          refine WS.keep [15, 14, 13, 0, 1, 4] rfl ?_
          refine WS.pick [1, 1, 1, 1] rfl ?_
          exact ih ⟨k + 1, by omega, cont (by simp [RT.may, hst, hk0, noDrain, h1])⟩ (by simp only; omega)
      · refine WL.gn2 rfl rfl rfl rfl ?_
        refine WL.v (V.pickF rfl rfl) rfl ?_
        refine WL.v (V.move rfl) rfl ?_
        refine WL.gn2 rfl rfl rfl rfl ?_
        refine WL.gn2 rfl rfl rfl rfl ?_
        refine WL.gn2 rfl rfl rfl rfl ?_
        refine WL.gn2 rfl rfl rfl rfl ?_
        refine WL.gn2 rfl rfl rfl rfl ?_
        refine WL.gn2 rfl rfl rfl rfl ?_
        refine WL.gu rfl rfl rfl ?_
        refine WL.gu rfl rfl rfl ?_
        refine WL.gn2 rfl rfl rfl rfl ?_
        refine WL.v (V.pickF rfl rfl) rfl ?_
        refine WL.done ?_
        refine WS.condF rfl ?_
        refine WS.skip ?_
        refine WS.blk ?_
        refine WS.region ?_
        refine WL.v (V.add rfl rfl (fits_i64 (by omega) (by omega))) rfl ?_
        refine WL.v (V.move rfl) rfl ?_
        refine WL.done ?_
        refine WS.keep [15, 14, 13, 0, 1, 4] rfl ?_
        refine WS.pick [1, 1, 1, 1] rfl ?_
        exact ih ⟨k + 1, by omega, cont (by simp [RT.may, hst])⟩ (by simp only; omega)
    · refine WL.alloc rfl ?_; intro r_
      refine WL.v (V.assign rfl) rfl ?_
      refine WL.store 0 rfl rfl rfl rfl rfl rfl ?_
      refine WL.done ?_
      refine WS.seq ?_
      refine WS.region ?_
      refine WL.v (V.fieldAddr rfl) rfl ?_
      refine WL.r (V.load1 0 rfl rfl rfl) rfl ?_
      refine WL.v (V.eqi rfl rfl) rfl ?_
      refine WL.v (V.move rfl) rfl ?_
      (refine WL.gcaseD rfl rfl ?_ ?_) <;> intro h_ <;> try (exfalso; omega)
      refine WL.gy rfl rfl ?_
      refine WL.v (V.move rfl) rfl ?_
      refine WL.gy rfl rfl ?_
      refine WL.v (V.move rfl) rfl ?_
      refine WL.gy rfl rfl ?_
      refine WL.v (V.fieldAddr rfl) rfl ?_
      refine WL.gy rfl rfl ?_
      refine WL.r (V.load1 0 rfl rfl rfl) rfl ?_
      refine WL.gy rfl rfl ?_
      refine WL.v (V.build rfl rfl rfl) rfl ?_
      refine WL.gy rfl rfl ?_
      refine WL.call hhas [2, 2] rfl rfl rfl ?_
      rintro _ _ ⟨rfl, rfl⟩
      refine WL.gy rfl rfl ?_
      refine WL.v (V.not rfl) rfl ?_
      refine WL.v (V.pickF rfl rfl) rfl ?_
      refine WL.v (V.assign rfl) rfl ?_
      refine WL.done ?_
      refine WS.seq ?_
      refine WS.region ?_
      refine WL.v (V.fieldAddr rfl) rfl ?_
      refine WL.r (V.load1 2 rfl rfl rfl) rfl ?_
      refine WL.v (V.not rfl) rfl ?_
      refine WL.v (V.move rfl) rfl ?_
      cases hst : r.started
      · refine WL.gy rfl rfl ?_
        refine WL.v (V.move rfl) rfl ?_
        refine WL.v (V.pickT rfl rfl) rfl ?_
        refine WL.v (V.move rfl) rfl ?_
        cases hf : (t.find ⟨ring, r.prev⟩).isSome
        · have hn : (t.find ⟨ring, r.prev⟩).isNone = true := by
            cases h : t.find ⟨ring, r.prev⟩ with
            | none => rfl
            | some q => rw [h] at hf; simp at hf
          refine WL.gy rfl rfl ?_
          refine WL.v (V.fieldAddr rfl) rfl ?_
          refine WL.gy rfl rfl ?_
          refine WL.v (V.fieldAddr rfl) rfl ?_
          refine WL.gy rfl rfl ?_
          refine WL.r (V.load1 2 rfl rfl rfl) rfl ?_
          refine WL.gy rfl rfl ?_
          refine WL.v (V.bits rfl rfl rfl) rfl ?_
          refine WL.gy rfl rfl ?_
          refine WL.v (V.eqi rfl rfl) rfl ?_
          refine WL.gy rfl rfl ?_
          refine WL.v (V.move rfl) rfl ?_
          (refine WL.gcaseD rfl rfl ?_ ?_) <;> intro h_ <;> try (exfalso; omega)
          refine WL.gn2 rfl rfl rfl rfl ?_
          refine WL.gn2 rfl rfl rfl rfl ?_
          refine WL.gy rfl rfl ?_
          refine WL.v (V.pickT rfl rfl) rfl ?_
          refine WL.v (V.pickT rfl rfl) rfl ?_
          refine WL.done ?_
          refine WS.condT rfl ?_
          refine WS.seq ?_
          refine WS.region ?_
          refine WL.v (V.fieldAddr rfl) rfl ?_
          refine WL.r (V.loadN 2 rfl rfl rfl) rfl ?_
          refine WL.store 4 rfl rfl rfl rfl rfl rfl ?_
          refine WL.v (V.assign rfl) rfl ?_
          refine WL.done ?_
          rotate_left
          refine WL.gy rfl rfl ?_
          refine WL.v (V.move rfl) rfl ?_
          refine WL.gy rfl rfl ?_
          refine WL.v (V.eqi rfl rfl) rfl ?_
          refine WL.gy rfl rfl ?_
          refine WL.v (V.pickF rfl rfl) rfl ?_
          refine WL.v (V.pickT rfl rfl) rfl ?_
          refine WL.done ?_
          (refine WS.condD rfl ?_ ?_) <;> intro h_ <;> try (exfalso; omega)
          refine WS.seq ?_
          refine WS.region ?_
          refine WL.v (V.fieldAddr rfl) rfl ?_
          refine WL.r (V.loadN 2 rfl rfl rfl) rfl ?_
          refine WL.store 4 rfl rfl rfl rfl rfl rfl ?_
          refine WL.v (V.assign rfl) rfl ?_
          refine WL.done ?_
          rotate_left
          refine WS.skip ?_
          refine WS.blk ?_
          refine WS.region ?_
          refine WL.v (V.add rfl rfl (fits_i64 (by omega) (by omega))) rfl ?_
          refine WL.v (V.move rfl) rfl ?_
          refine WL.done ?_
          rotate_left
          · rw [stop (by simp [RT.may, hst, hn, noDrain, h_])]
            refine WS.retM [1, 1] (.cell rfl (.agg 0 rfl rfl) (.tmp rfl .nil)) rfl ?_
            exact ⟨rfl, rfl⟩
          · rename_i h1
            have hk0 : k = 0 := by omega
            rw [stop (by simp [RT.may, hst, hn, hk0])]
            refine WS.retM [1, 1] (.cell rfl (.agg 0 rfl rfl) (.tmp rfl .nil)) rfl ?_
            exact ⟨rfl, rfl⟩
          · rename_i h1
            have hk0 : k ≠ 0 := by omega
            refine WS.keep [15, 14, 13, 0, 1, 4] rfl ?_
            refine WS.pick [3, 0, 0, 1] rfl ?_
            exact ih ⟨k + 1, by omega, cont (by simp [RT.may, hst, hk0, noDrain, h1])⟩ (by simp only; omega)
        · have hn : (t.find ⟨ring, r.prev⟩).isNone = false := by
            cases h : t.find ⟨ring, r.prev⟩ with
            | none => rw [h] at hf; simp at hf
            | some q => rfl
          refine WL.gn2 rfl rfl rfl rfl ?_
          refine WL.gn2 rfl rfl rfl rfl ?_
          refine WL.gn2 rfl rfl rfl rfl ?_
          refine WL.gn2 rfl rfl rfl rfl ?_
          refine WL.gn2 rfl rfl rfl rfl ?_
          refine WL.gn2 rfl rfl rfl rfl ?_
          refine WL.gu rfl rfl rfl ?_
          refine WL.gu rfl rfl rfl ?_
          refine WL.gn2 rfl rfl rfl rfl ?_
          refine WL.v (V.pickF rfl rfl) rfl ?_
          refine WL.done ?_
          refine WS.condF rfl ?_
          refine WS.skip ?_
          refine WS.blk ?_
          refine WS.region ?_
          refine WL.v (V.add rfl rfl (fits_i64 (by omega) (by omega))) rfl ?_
          refine WL.v (V.move rfl) rfl ?_
          refine WL.done ?_
          refine WS.keep [15, 14, 13, 0, 1, 4] rfl ?_
          refine WS.pick [3, 0, 0, 1] rfl ?_
          exact ih ⟨k + 1, by omega, cont (by simp [RT.may, hp, hn])⟩ (by simp only; omega)
      · refine WL.gn2 rfl rfl rfl rfl ?_
        refine WL.v (V.pickF rfl rfl) rfl ?_
        refine WL.v (V.move rfl) rfl ?_
        refine WL.gn2 rfl rfl rfl rfl ?_
        refine WL.gn2 rfl rfl rfl rfl ?_
        refine WL.gn2 rfl rfl rfl rfl ?_
        refine WL.gn2 rfl rfl rfl rfl ?_
        refine WL.gn2 rfl rfl rfl rfl ?_
        refine WL.gn2 rfl rfl rfl rfl ?_
        refine WL.gu rfl rfl rfl ?_
        refine WL.gu rfl rfl rfl ?_
        refine WL.gn2 rfl rfl rfl rfl ?_
        refine WL.v (V.pickF rfl rfl) rfl ?_
        refine WL.done ?_
        refine WS.condF rfl ?_
        refine WS.skip ?_
        refine WS.blk ?_
        refine WS.region ?_
        refine WL.v (V.add rfl rfl (fits_i64 (by omega) (by omega))) rfl ?_
        refine WL.v (V.move rfl) rfl ?_
        refine WL.done ?_
        refine WS.keep [15, 14, 13, 0, 1, 4] rfl ?_
        refine WS.pick [3, 0, 0, 1] rfl ?_
        exact ih ⟨k + 1, by omega, cont (by simp [RT.may, hst])⟩ (by simp only; omega)
  · have hend : t.next ring = none := by
      rw [hk2, List.drop_of_length_le (by omega)]; rfl
    rw [hend]
    skip
    refine WS.retM [2, 2] (.cell rfl (.agg 0 rfl rfl) (.tmp rfl .nil)) rfl ?_
    exact ⟨rfl, rfl⟩

def RT.after (t : RT) (id : ID) : Option Req := (t.of id.ring).find? (fun r => decide (r.prev = id.seq))

theorem reqs_After (sb o E0 : Nat) (cells : List Value) (t : RT) (id : ID) (hc : getN o 1 cells = some [t.p.val]) (hb : (t.of id.ring).length ≤ 12) (hk : t.L.length ≤ 1000) :
    Spec Tryz.prog 288 [ptr sb o, kID id] [blk sb E0 cells, t.ch]
      (fun v A => v = .tuple #[vR ((t.after id).getD zR), B (t.after id).isSome] ∧ A = [blk sb E0 cells, t.ch]) := by
  refine Spec.of Tryz.func288 rfl Tryz.call288 rfl (fun R => ?_)
  refine WS.seq ?_
  refine WS.region ?_
  refine WL.box rfl rfl ?_; intro r_
  refine WL.alloc rfl ?_; intro r_
  refine WL.v (V.assign rfl) rfl ?_
  refine WL.done ?_
  refine WS.seq ?_
  refine WS.seq ?_
  refine WS.region ?_
  refine WL.v (V.move rfl) rfl ?_
  refine WL.v (V.fieldAddr rfl) rfl ?_
  refine WL.r (V.load1 1 rfl rfl rfl) rfl ?_
  refine WL.call (reqs_Of sb o E0 cells t id.ring hc hb hk) [2, 2] rfl rfl rfl ?_
  rintro _ _ ⟨s, hsx, rfl, rfl⟩
  have hsl : s.xs.length ≤ 12 := by rw [hsx]; exact hb
  rename_i tb
  refine WL.v (V.lenSL rfl) rfl ?_
  refine WL.v (V.move rfl) rfl ?_
  refine WL.done ?_
  refine WS.block ?_
  refine WS.keep [13, 12, 11, 3, 4] rfl ?_
  refine WS.loop (ι := {k : Nat // k ≤ s.xs.length ∧ t.after id = (s.xs.drop k).find? (fun r => decide (r.prev = id.seq))}) (fun k => [(13, I k.1), (12, I s.xs.length), (11, s.val), (3, ptr tb 0), (4, ptr r_ 0)])
    (fun k => [s.ch 210, blk sb E0 cells, t.ch, blk r_ 210 (encR zR), blk tb 41 [I id.ring, I id.seq]]) (fun k => s.xs.length - k.1) ⟨0, by omega, by rw [hsx]; rfl⟩ ?_
  rintro ⟨k, hk1, hk2⟩ X ih
  simp only at ih ⊢
  refine WS.seq ?_
  refine WS.region ?_
  refine WL.v (V.lt rfl rfl) rfl ?_
  refine WL.done ?_
  refine WS.seq ?_
  (refine WS.condD rfl ?_ ?_) <;> intro h_ <;> try (exfalso; omega)
  refine WS.skip ?_
  refine WS.seq ?_
  refine WS.block ?_
  refine WS.seq ?_
  refine WS.region ?_
  rotate_left
  refine WS.exit rfl ?_
  refine WS.seq ?_
  refine WS.region ?_
  refine WL.v (V.build rfl rfl rfl) rfl ?_
  refine WL.store 3 rfl rfl rfl rfl rfl rfl ?_
  refine WL.v (V.assign rfl) rfl ?_
  refine WL.done ?_
  rotate_left
  · have hlt : k < s.xs.length := by omega
    refine WL.v (V.indexSL rfl rfl (by constructor <;> omega)) rfl ?_
    have hget : s.xs[k]? = some s.xs[k] := by simp
    have hdrop : s.xs.drop k = s.xs[k] :: s.xs.drop (k + 1) := by simp
    generalize s.xs[k] = r at hget hdrop
    refine WL.r (V.loadSL (enc := encR) 0 (i := k) (by simp only [Int.toNat_natCast]; rfl) rfl hget) rfl ?_
    refine WL.alloc rfl ?_; intro r_
    refine WL.store 0 rfl rfl rfl rfl rfl rfl ?_
    refine WL.done ?_
    refine WS.seq ?_
    refine WS.region ?_
    refine WL.v (V.fieldAddr rfl) rfl ?_
    refine WL.r (V.load1 0 rfl rfl rfl) rfl ?_
    refine WL.v (V.fieldAddr rfl) rfl ?_
    refine WL.r (V.load1 5 rfl rfl rfl) rfl ?_
    refine WL.v (V.eqi rfl rfl) rfl ?_
    refine WL.done ?_
    (refine WS.condD rfl ?_ ?_) <;> intro h_ <;> try (exfalso; omega)
    refine WS.seq ?_
    refine WS.region ?_
    refine WL.r (V.loadN 0 rfl rfl rfl) rfl ?_
    refine WL.store 4 rfl rfl rfl rfl rfl rfl ?_
    refine WL.v (V.assign rfl) rfl ?_
    refine WL.done ?_
    rotate_left
    refine WS.skip ?_
    refine WS.blk ?_
    refine WS.region ?_
    refine WL.v (V.add rfl rfl (fits_i64 (by omega) (by omega))) rfl ?_
    refine WL.v (V.move rfl) rfl ?_
    refine WL.done ?_
    rotate_left
    · rw [hk2, hdrop, List.find?_cons_of_pos (by simp; omega)]
      refine WS.retM [3, 3] (.cell rfl (.agg 0 rfl rfl) (.tmp rfl .nil)) rfl ?_
      exact ⟨rfl, rfl⟩
    · refine WS.keep [13, 12, 11, 3, 4] rfl ?_
      refine WS.pick [1, 1, 1, 1, 1] rfl ?_
      exact ih ⟨k + 1, by omega, by rw [hk2, hdrop, List.find?_cons_of_neg (by simp; omega)]⟩ (by simp only; omega)
  · have hend : t.after id = none := by
      rw [hk2, List.drop_of_length_le (by omega)]; rfl
    rw [hend]
    skip
    refine WS.retM [2, 2] (.cell rfl (.agg 0 rfl rfl) (.tmp rfl .nil)) rfl ?_
    exact ⟨rfl, rfl⟩
end Go.Proofs
