/- Part of the proof: W21. -/
import Derived.Test.YtjdjialgjmphjaaGreatW16
set_option linter.all false
set_option maxRecDepth 100000
set_option maxHeartbeats 8000000
namespace Go.Proofs
open Go Go.Sep
attribute [local irreducible] WS WL WH WHT OpV OpR

/-! ## cancelling -/

def tagIs (tag : UInt32) (but : Nat) (r : Req) : Bool := decide (r.e.tag = tag) && !decide (r.id.seq = but)
def RT.tagged (t : RT) (ring : Nat) (tag : UInt32) (but : Nat) : Option ID := ((t.of ring).find? (tagIs tag but)).map (·.id)

theorem reqs_Tagged (sb o E0 : Nat) (cells : List Value) (t : RT) (ring but : Nat) (tag : UInt32) (hc : getN o 1 cells = some [t.p.val]) (hb : (t.of ring).length ≤ 12) (hk : t.L.length ≤ 1000) :
    Spec Tryz.prog 429 [ptr sb o, I ring, U tag, I but] [blk sb E0 cells, t.ch] (fun v A => v = retID (t.tagged ring tag but) ∧ A = [blk sb E0 cells, t.ch]) := by
  refine Spec.of Tryz.func429 rfl Tryz.call429 rfl (fun R => ?_)
  refine WS.seq ?_
  refine WS.region ?_
  refine WL.alloc rfl ?_; intro r_
  refine WL.v (V.assign rfl) rfl ?_
  refine WL.done ?_
  refine WS.seq ?_
  refine WS.seq ?_
  refine WS.region ?_
  refine WL.v (V.move rfl) rfl ?_
  refine WL.v (V.move rfl) rfl ?_
  refine WL.call (reqs_Of sb o E0 cells t ring hc hb hk) [1, 1] rfl rfl rfl ?_
  rintro _ _ ⟨s, hsx, rfl, rfl⟩
  have hsl : s.xs.length ≤ 12 := by rw [hsx]; exact hb
  refine WL.v (V.lenSL rfl) rfl ?_
  refine WL.v (V.move rfl) rfl ?_
  refine WL.done ?_
  refine WS.block ?_
  refine WS.keep [16, 15, 14, 2, 3, 8] rfl ?_
  refine WS.loop (ι := {k : Nat // k ≤ s.xs.length ∧ t.tagged ring tag but = ((s.xs.drop k).find? (tagIs tag but)).map (·.id)}) (fun k => [(16, I k.1), (15, I s.xs.length), (14, s.val), (2, U tag), (3, I but), (8, ptr r_ 0)])
    (fun k => [s.ch 210, blk sb E0 cells, t.ch, blk r_ 41 [I 0, I 0]]) (fun k => s.xs.length - k.1) ⟨0, by omega, by rw [hsx]; rfl⟩ ?_
  rintro ⟨k, hk1, hk2⟩ X ih
  simp only at ih ⊢
  refine WS.seq ?_
  refine WS.region ?_
  refine WL.v (V.lt rfl rfl) rfl ?_
  refine WL.done ?_
  refine WS.seq ?_
  (refine WS.condD rfl ?_ ?_) <;> intro h_ <;> try (exfalso; omega)
  refine WS.skip ?_
  refine WS.seq ?_
  refine WS.block ?_
  refine WS.seq ?_
  refine WS.region ?_
  rotate_left
  refine WS.exit rfl ?_
  refine WS.seq ?_
  refine WS.region ?_
  refine WL.v (V.build rfl rfl rfl) rfl ?_
  refine WL.store 3 rfl rfl rfl rfl rfl rfl ?_
  refine WL.v (V.assign rfl) rfl ?_
  refine WL.done ?_
  rotate_left
  · have hlt : k < s.xs.length := by omega
    refine WL.v (V.indexSL rfl rfl (by constructor <;> omega)) rfl ?_
    have hget : s.xs[k]? = some s.xs[k] := by simp
    have hdrop : s.xs.drop k = s.xs[k] :: s.xs.drop (k + 1) := by simp
    generalize s.xs[k] = r at hget hdrop
    refine WL.r (V.loadSL (enc := encR) 0 (i := k) (by simp only [Int.toNat_natCast]; rfl) rfl hget) rfl ?_
    have stop : tagIs tag but r = true → t.tagged ring tag but = some r.id := fun h => by
      rw [hk2, hdrop, List.find?_cons_of_pos h]; rfl
    have cont : tagIs tag but r = false → t.tagged ring tag but = ((s.xs.drop (k + 1)).find? (tagIs tag but)).map (·.id) := fun h => by
      rw [hk2, hdrop, List.find?_cons_of_neg (by simp [h])]
    by_cases h1 : r.e.tag = tag
    · have h1' : ((r.e.tag.toNat : Nat) : Int) = (tag.toNat : Nat) := by rw [h1]
      by_cases h2 : r.id.seq = but
      · have h2' : ((r.id.seq : Nat) : Int) = (but : Nat) := by rw [h2]
        refine WL.alloc rfl ?_; intro r_
        refine WL.store 0 rfl rfl rfl rfl rfl rfl ?_
        refine WL.done ?_
        refine WS.seq ?_
        refine WS.region ?_
        refine WL.v (V.fieldAddr rfl) rfl ?_
        refine WL.v (V.fieldAddr rfl) rfl ?_
        refine WL.r (V.load1 0 rfl rfl rfl) rfl ?_
        refine WL.v (V.move rfl) rfl ?_
        refine WL.v (V.eqi rfl rfl) rfl ?_
        refine WL.v (V.move rfl) rfl ?_
        (refine WL.gcaseD rfl rfl ?_ ?_) <;> intro h_ <;> try (exfalso; omega)
        refine WL.gy rfl rfl ?_
        refine WL.v (V.fieldAddr rfl) rfl ?_
        refine WL.gy rfl rfl ?_
        refine WL.v (V.fieldAddr rfl) rfl ?_
        refine WL.gy rfl rfl ?_
        refine WL.r (V.load1 0 rfl rfl rfl) rfl ?_
        refine WL.gy rfl rfl ?_
        refine WL.v (V.move rfl) rfl ?_
        refine WL.gy rfl rfl ?_
        refine WL.v (V.nei rfl rfl) rfl ?_
        refine WL.v (V.pickT rfl rfl) rfl ?_
        refine WL.done ?_
        (refine WS.condN rfl ?_ ?_) <;> intro h_ <;> try (exfalso; omega)
        refine WS.skip ?_
        refine WS.blk ?_
        refine WS.region ?_
        refine WL.v (V.add rfl rfl (fits_i64 (by omega) (by omega))) rfl ?_
        refine WL.v (V.move rfl) rfl ?_
        refine WL.done ?_
        refine WS.keep [16, 15, 14, 2, 3, 8] rfl ?_
        refine WS.pick [1, 1, 1, 1] rfl ?_
        exact ih ⟨k + 1, by omega, cont (by simp [tagIs, h2])⟩ (by simp only; omega)
      · have h2' : ¬ ((r.id.seq : Nat) : Int) = (but : Nat) := by omega
        refine WL.alloc rfl ?_; intro r_
        refine WL.store 0 rfl rfl rfl rfl rfl rfl ?_
        refine WL.done ?_
        refine WS.seq ?_
        refine WS.region ?_
        refine WL.v (V.fieldAddr rfl) rfl ?_
        refine WL.v (V.fieldAddr rfl) rfl ?_
        refine WL.r (V.load1 0 rfl rfl rfl) rfl ?_
        refine WL.v (V.move rfl) rfl ?_
        refine WL.v (V.eqi rfl rfl) rfl ?_
        refine WL.v (V.move rfl) rfl ?_
        (refine WL.gcaseD rfl rfl ?_ ?_) <;> intro h_ <;> try (exfalso; omega)
        refine WL.gy rfl rfl ?_
        refine WL.v (V.fieldAddr rfl) rfl ?_
        refine WL.gy rfl rfl ?_
        refine WL.v (V.fieldAddr rfl) rfl ?_
        refine WL.gy rfl rfl ?_
        refine WL.r (V.load1 0 rfl rfl rfl) rfl ?_
        refine WL.gy rfl rfl ?_
        refine WL.v (V.move rfl) rfl ?_
        refine WL.gy rfl rfl ?_
        refine WL.v (V.nei rfl rfl) rfl ?_
        refine WL.v (V.pickT rfl rfl) rfl ?_
        refine WL.done ?_
        (refine WS.condN rfl ?_ ?_) <;> intro h_ <;> try (exfalso; omega)
        refine WS.seq ?_
        refine WS.region ?_
        refine WL.v (V.fieldAddr rfl) rfl ?_
        refine WL.r (V.loadN 0 rfl rfl rfl) rfl ?_
        refine WL.store 4 rfl rfl rfl rfl rfl rfl ?_
        refine WL.v (V.assign rfl) rfl ?_
        refine WL.done ?_
        rw [stop (by simp [tagIs, h1, h2])]
        refine WS.retM [3, 3] (.cell rfl (.agg 0 rfl rfl) (.tmp rfl .nil)) rfl ?_
        exact ⟨rfl, rfl⟩
    · have h1' : ¬ ((r.e.tag.toNat : Nat) : Int) = (tag.toNat : Nat) := fun e => h1 (UInt32.toNat_inj.1 (by omega))
      refine WL.alloc rfl ?_; intro r_
      refine WL.store 0 rfl rfl rfl rfl rfl rfl ?_
      refine WL.done ?_
      refine WS.seq ?_
      refine WS.region ?_
      refine WL.v (V.fieldAddr rfl) rfl ?_
      refine WL.v (V.fieldAddr rfl) rfl ?_
      refine WL.r (V.load1 0 rfl rfl rfl) rfl ?_
      refine WL.v (V.move rfl) rfl ?_
      refine WL.v (V.eqi rfl rfl) rfl ?_
      refine WL.v (V.move rfl) rfl ?_
      (refine WL.gcaseD rfl rfl ?_ ?_) <;> intro h_ <;> try (exfalso; omega)
      refine WL.gn2 rfl rfl rfl rfl ?_
      refine WL.gn2 rfl rfl rfl rfl ?_
      refine WL.gn2 rfl rfl rfl rfl ?_
      refine WL.gn2 rfl rfl rfl rfl ?_
      refine WL.gn2 rfl rfl rfl rfl ?_
      refine WL.v (V.pickF rfl rfl) rfl ?_
      refine WL.done ?_
      refine WS.condF rfl ?_
      refine WS.skip ?_
      refine WS.blk ?_
      refine WS.region ?_
      refine WL.v (V.add rfl rfl (fits_i64 (by omega) (by omega))) rfl ?_
      refine WL.v (V.move rfl) rfl ?_
      refine WL.done ?_
      refine WS.keep [16, 15, 14, 2, 3, 8] rfl ?_
      refine WS.pick [1, 1, 1, 1] rfl ?_
      exact ih ⟨k + 1, by omega, cont (by simp [tagIs, h1])⟩ (by simp only; omega)
  · have hend : t.tagged ring tag but = none := by
      rw [hk2, List.drop_of_length_le (by omega)]; rfl
    rw [hend]
    skip
    refine WS.retM [2, 2] (.cell rfl (.agg 0 rfl rfl) (.tmp rfl .nil)) rfl ?_
    exact ⟨rfl, rfl⟩

theorem KW.Tagged (k : KW) (tag : UInt32) (but : Nat) (hb : (k.t.of 4).length ≤ 12) (hk : k.t.L.length ≤ 1000) :
    Spec Tryz.prog 429 [ptr k.x.sb 10, I 4, U tag, I but] k.chs (fun v A => v = retID (k.t.tagged 4 tag but) ∧ A = k.chs) :=
  Spec.lift (reqs_Tagged k.x.sb 10 260 k.cells k.t 4 but tag rfl hb hk) [0, 0] rfl (by rintro _ _ ⟨rfl, rfl⟩; exact ⟨k.chs, rfl, rfl, rfl⟩)

theorem act_fails (c : Int) (h1 : 0 ≤ c) (h2 : c ≤ 100) : Spec Tryz.prog 303 [I c] [] (fun v A => v = .agg (encE ⟨-c, 0, false⟩).toArray ∧ A = []) := by
  refine Spec.of Tryz.func303 rfl Tryz.call303 rfl (fun R => ?_)
  refine WS.seq ?_
  refine WS.region ?_
  refine WL.alloc rfl ?_; intro r_
  refine WL.done ?_
  refine WS.seq ?_
  refine WS.region ?_
  refine WL.v (V.move rfl) rfl ?_
  refine WL.v (V.neg rfl (fits_i64 (by omega) (by omega))) rfl ?_
  refine WL.v (V.build rfl rfl rfl) rfl ?_
  refine WL.store 0 rfl rfl rfl rfl rfl rfl ?_
  refine WL.done ?_
  refine WS.retM [] (.cell rfl (.agg 0 rfl rfl) .nil) rfl ?_
  exact ⟨rfl, rfl⟩

theorem actor_cancels_no (k : KW) (q : Req) (id : ID) (ab : Nat) (hr : id.ring = 4) (hT : k.t.tagged 4 q.e.a id.seq = none) (hb : (k.t.of 4).length ≤ 12) (hk : k.t.L.length ≤ 1000) :
    Spec Tryz.prog 302 [ptr ab 0] (blk ab 311 (actorC k q id) :: k.chs) (fun v A => v = .agg (encE ⟨-11, 0, false⟩).toArray ∧ A = blk ab 311 (actorC k q id) :: k.chs) := by
  have htag : Spec Tryz.prog 429 [ptr k.x.sb 10, I id.ring, U q.e.a, I id.seq] k.chs (fun v A => v = retID none ∧ A = k.chs) := by
    have := k.Tagged q.e.a id.seq hb hk
    rw [hT] at this
    rw [hr]
    exact this
  refine Spec.of Tryz.func302 rfl Tryz.call302 rfl (fun R => ?_)
  refine WS.seq ?_
  refine WS.region ?_
  refine WL.alloc rfl ?_
  intro bx
  refine WL.done ?_
  refine WS.seq ?_
  refine WS.regionM (X := Nat) (fun r => [(4, B false), (3, ptr r 0), (2, ptr bx 0), (0, ptr ab 0)])
    (fun r => blk r 41 [I 0, I 0] :: blk bx 308 (encE ⟨0, 0, false⟩) :: blk ab 311 (actorC k q id) :: k.chs) [blk ab 311 (actorC k q id)] Tryz.mixed rfl ?_ ?_
  · refine WH.pick rfl ?_
    refine WHT.v (V.move rfl) rfl rfl rfl rfl ?_
    refine WH.pick rfl ?_
    refine WHT.v (V.nilCheck rfl) rfl rfl rfl rfl ?_
    refine WH.pick rfl ?_
    refine WHT.v (V.fieldAddr rfl) rfl rfl rfl rfl ?_
    refine WH.pick rfl ?_
    refine WHT.rh (V.load1 0 rfl rfl rfl) rfl (by simp) rfl rfl rfl rfl ?_
    refine WH.pick rfl ?_
    refine WHT.v (V.move rfl) rfl rfl rfl rfl ?_
    refine WH.pick rfl ?_
    refine WHT.v (V.nilCheck rfl) rfl rfl rfl rfl ?_
    refine WH.pick rfl ?_
    refine WHT.v (V.fieldAddr rfl) rfl rfl rfl rfl ?_
    refine WH.pick rfl ?_
    refine WHT.v (V.fieldAddr rfl) rfl rfl rfl rfl ?_
    refine WH.pick rfl ?_
    refine WHT.rh (V.load1 0 rfl rfl rfl) rfl (by simp) rfl rfl rfl rfl ?_
    refine WH.pick rfl ?_
    refine WHT.v (V.move rfl) rfl rfl rfl rfl ?_
    refine WH.pick rfl ?_
    refine WHT.v (V.nilCheck rfl) rfl rfl rfl rfl ?_
    refine WH.pick rfl ?_
    refine WHT.v (V.fieldAddr rfl) rfl rfl rfl rfl ?_
    refine WH.pick rfl ?_
    refine WHT.v (V.fieldAddr rfl) rfl rfl rfl rfl ?_
    refine WH.pick rfl ?_
    refine WHT.v (V.fieldAddr rfl) rfl rfl rfl rfl ?_
    refine WH.pick rfl ?_
    refine WHT.rh (V.load1 0 rfl rfl rfl) rfl (by simp) rfl rfl rfl rfl ?_
    refine WH.pick rfl ?_
    refine WHT.v (V.move rfl) rfl rfl rfl rfl ?_
    refine WH.pick rfl ?_
    refine WHT.v (V.nilCheck rfl) rfl rfl rfl rfl ?_
    refine WH.pick rfl ?_
    refine WHT.v (V.fieldAddr rfl) rfl rfl rfl rfl ?_
    refine WH.pick rfl ?_
    refine WHT.v (V.fieldAddr rfl) rfl rfl rfl rfl ?_
    refine WH.pick rfl ?_
    refine WHT.rh (V.load1 0 rfl rfl rfl) rfl (by simp) rfl rfl rfl rfl ?_
    (refine WH.two rfl rfl rfl rfl rfl ?_ ?_) <;> intro _ _
    rotate_left
    refine WL.alloc rfl ?_; intro r_
    refine WL.nextH (ok := by assumption) (hns := by assumption) (by simp) ?_
    refine WH.big rfl rfl rfl ?_; intro _ _
    rotate_left
    · refine WL.callB k.Reqs (wk 2) rfl rfl rfl ?_
      rintro _ _ ⟨rfl, rfl⟩
      refine WL.nextH (ok := by assumption) (hns := by assumption) (by simp) ?_
      (refine WH.two rfl rfl rfl rfl rfl ?_ ?_) <;> intro _ _
      rotate_left
      refine WL.alloc rfl ?_; intro r_
      refine WL.nextH (ok := by assumption) (hns := by assumption) (by simp) ?_
      refine WH.big rfl rfl rfl ?_; intro _ _
      rotate_left
      · refine WL.callB htag (wk 2) rfl rfl rfl ?_
        rintro _ _ ⟨rfl, rfl⟩
        refine WL.nextH (ok := by assumption) (hns := by assumption) (by simp) ?_
        refine WH.pick rfl ?_
        refine WHT.v (V.move rfl) rfl rfl rfl rfl ?_
        refine WH.pick rfl ?_
        refine WHT.v (V.extractL rfl rfl) rfl rfl rfl rfl ?_
        refine WH.pick rfl ?_
        refine WHT.v (V.extractL rfl rfl) rfl rfl rfl rfl ?_
        refine WH.big rfl rfl rfl ?_; intro _ _
        refine WL.alloc rfl ?_; intro r_
        refine WL.nextH (ok := by assumption) (hns := by assumption) (by simp) ?_
        refine WH.bigSt rfl rfl rfl ?_; intro _ _
        refine WL.store 0 rfl rfl rfl rfl rfl rfl ?_
        refine WL.nextH (ok := by assumption) (hns := by assumption) (by simp) ?_
        refine WH.pick rfl ?_
        refine WHT.v (V.assign rfl) rfl rfl rfl rfl ?_
        exact WH.doneM r_ (subEnv_restr [4, 3, 2, 0] rfl rfl) (0 :: 0 :: 0 :: wk 0) rfl
      · refine WL.callB htag (wk 3) rfl rfl rfl ?_
        rintro _ _ ⟨rfl, rfl⟩
        refine WL.nextH (ok := by assumption) (hns := by assumption) (by simp) ?_
        refine WH.pick rfl ?_
        refine WHT.v (V.move rfl) rfl rfl rfl rfl ?_
        refine WH.pick rfl ?_
        refine WHT.v (V.extractL rfl rfl) rfl rfl rfl rfl ?_
        refine WH.pick rfl ?_
        refine WHT.v (V.extractL rfl rfl) rfl rfl rfl rfl ?_
        refine WH.bigSt rfl rfl rfl ?_; intro _ _
        refine WL.store 0 rfl rfl rfl rfl rfl rfl ?_
        refine WL.nextH (ok := by assumption) (hns := by assumption) (by simp) ?_
        refine WH.pick rfl ?_
        refine WHT.v (V.assign rfl) rfl rfl rfl rfl ?_
        exact WH.doneM r_ (subEnv_restr [4, 3, 2, 0] rfl rfl) (0 :: 0 :: 0 :: wk 0) rfl
    · refine WL.callB k.Reqs (wk 3) rfl rfl rfl ?_
      rintro _ _ ⟨rfl, rfl⟩
      refine WL.nextH (ok := by assumption) (hns := by assumption) (by simp) ?_
      refine WH.big rfl rfl rfl ?_; intro _ _
      refine WL.callB htag (wk 3) rfl rfl rfl ?_
      rintro _ _ ⟨rfl, rfl⟩
      refine WL.nextH (ok := by assumption) (hns := by assumption) (by simp) ?_
      refine WH.pick rfl ?_
      refine WHT.v (V.move rfl) rfl rfl rfl rfl ?_
      refine WH.pick rfl ?_
      refine WHT.v (V.extractL rfl rfl) rfl rfl rfl rfl ?_
      refine WH.pick rfl ?_
      refine WHT.v (V.extractL rfl rfl) rfl rfl rfl rfl ?_
      refine WH.bigSt rfl rfl rfl ?_; intro _ _
      refine WL.store 0 rfl rfl rfl rfl rfl rfl ?_
      refine WL.nextH (ok := by assumption) (hns := by assumption) (by simp) ?_
      refine WH.pick rfl ?_
      refine WHT.v (V.assign rfl) rfl rfl rfl rfl ?_
      exact WH.doneM r_ (subEnv_restr [4, 3, 2, 0] rfl rfl) (0 :: 0 :: 0 :: wk 0) rfl
  · intro r1
    refine WS.seq ?_
    refine WS.seq ?_
    refine WS.region ?_
    refine WL.v (V.move rfl) rfl ?_
    refine WL.v (V.not rfl) rfl ?_
    refine WL.done ?_
    refine WS.condT rfl ?_
    refine WS.seq ?_
    refine WS.region ?_
    refine WL.call (act_fails 11 (by omega) (by omega)) [] rfl rfl rfl ?_
    rintro _ _ ⟨rfl, rfl⟩
    refine WL.store 1 rfl rfl rfl rfl rfl rfl ?_
    refine WL.done ?_
    refine WS.retM (2 :: wk 2) (.cell rfl (.agg 0 rfl rfl) .nil) rfl ?_
    exact ⟨rfl, rfl⟩

theorem Does.cancelNo (k : KW) (q : Req) (id : ID) (h : q.e.op = 20) (hr : id.ring = 4) (hT : k.t.tagged 4 q.e.a id.seq = none) (hb : (k.t.of 4).length ≤ 12) (hk : k.t.L.length ≤ 1000) : Does k q id k.view ⟨-11, 0, false⟩ := by
  intro ab
  refine Spec.of Tryz.func158 rfl Tryz.call158 rfl (fun R => ?_)
  refine WS.seq ?_
  refine WS.region ?_
  refine WL.alloc rfl ?_; intro r_
  refine WL.done ?_
  refine WS.seq ?_
  refine WS.seq ?_
  refine WS.region ?_
  refine WL.v (V.move rfl) rfl ?_
  refine WL.v (V.nilCheck rfl) rfl ?_
  refine WL.v (V.fieldAddr rfl) rfl ?_
  refine WL.v (V.fieldAddr rfl) rfl ?_
  refine WL.v (V.fieldAddr rfl) rfl ?_
  refine WL.r (V.load1 1 rfl rfl rfl) rfl ?_
  refine WL.v (V.assign rfl) rfl ?_
  refine WL.done ?_
  refine WS.seq ?_
  refine WS.region ?_
  refine WL.v (V.move rfl) rfl ?_
  refine WL.done ?_
  refine WS.block ?_
  refine WS.seq ?_
  refine WS.region ?_
  refine WL.v (V.eqi rfl rfl) rfl ?_
  refine WL.v (V.assign rfl) rfl ?_
  refine WL.done ?_
  (refine WS.condD rfl ?_ ?_) <;> intro h_ <;> try (exfalso; omega)
  refine WS.seq ?_
  refine WS.seq ?_
  refine WS.region ?_
  refine WL.v (V.eqi rfl rfl) rfl ?_
  refine WL.v (V.assign rfl) rfl ?_
  refine WL.done ?_
  (refine WS.condD rfl ?_ ?_) <;> intro h_ <;> try (exfalso; omega)
  refine WS.seq ?_
  refine WS.region ?_
  refine WL.v (V.eqi rfl rfl) rfl ?_
  refine WL.v (V.assign rfl) rfl ?_
  refine WL.done ?_
  (refine WS.condD rfl ?_ ?_) <;> intro h_ <;> try (exfalso; omega)
  refine WS.seq ?_
  refine WS.region ?_
  refine WL.v (V.eqi rfl rfl) rfl ?_
  refine WL.v (V.assign rfl) rfl ?_
  refine WL.done ?_
  (refine WS.condD rfl ?_ ?_) <;> intro h_ <;> try (exfalso; omega)
  refine WS.seq ?_
  refine WS.region ?_
  refine WL.v (V.eqi rfl rfl) rfl ?_
  refine WL.v (V.assign rfl) rfl ?_
  refine WL.done ?_
  (refine WS.condD rfl ?_ ?_) <;> intro h_ <;> try (exfalso; omega)
  refine WS.region ?_
  refine WL.v (V.eqi rfl rfl) rfl ?_
  refine WL.v (V.assign rfl) rfl ?_
  refine WL.done ?_
  (refine WS.condD rfl ?_ ?_) <;> intro h_ <;> try (exfalso; omega)
  refine WS.seq ?_
  refine WS.region ?_
  refine WL.v (V.eqi rfl rfl) rfl ?_
  refine WL.v (V.assign rfl) rfl ?_
  refine WL.done ?_
  (refine WS.condD rfl ?_ ?_) <;> intro h_ <;> try (exfalso; omega)
  refine WS.seq ?_
  refine WS.region ?_
  refine WL.v (V.eqi rfl rfl) rfl ?_
  refine WL.v (V.assign rfl) rfl ?_
  refine WL.done ?_
  (refine WS.condD rfl ?_ ?_) <;> intro h_ <;> try (exfalso; omega)
  refine WS.seq ?_
  refine WS.region ?_
  refine WL.v (V.eqi rfl rfl) rfl ?_
  refine WL.v (V.assign rfl) rfl ?_
  refine WL.done ?_
  (refine WS.condD rfl ?_ ?_) <;> intro h_ <;> try (exfalso; omega)
  refine WS.seq ?_
  refine WS.seq ?_
  refine WS.region ?_
  refine WL.v (V.eqi rfl rfl) rfl ?_
  refine WL.v (V.assign rfl) rfl ?_
  refine WL.done ?_
  (refine WS.condD rfl ?_ ?_) <;> intro h_ <;> try (exfalso; omega)
  refine WS.region ?_
  refine WL.v (V.eqi rfl rfl) rfl ?_
  refine WL.v (V.assign rfl) rfl ?_
  refine WL.done ?_
  (refine WS.condD rfl ?_ ?_) <;> intro h_ <;> try (exfalso; omega)
  refine WS.seq ?_
  refine WS.region ?_
  refine WL.v (V.eqi rfl rfl) rfl ?_
  refine WL.v (V.assign rfl) rfl ?_
  refine WL.done ?_
  (refine WS.condD rfl ?_ ?_) <;> intro h_ <;> try (exfalso; omega)
  refine WS.seq ?_
  refine WS.region ?_
  refine WL.v (V.eqi rfl rfl) rfl ?_
  refine WL.v (V.assign rfl) rfl ?_
  refine WL.done ?_
  (refine WS.condD rfl ?_ ?_) <;> intro h_ <;> try (exfalso; omega)
  refine WS.seq ?_
  refine WS.region ?_
  refine WL.v (V.eqi rfl rfl) rfl ?_
  refine WL.v (V.assign rfl) rfl ?_
  refine WL.done ?_
  (refine WS.condD rfl ?_ ?_) <;> intro h_ <;> try (exfalso; omega)
  refine WS.seq ?_
  refine WS.region ?_
  refine WL.v (V.eqi rfl rfl) rfl ?_
  refine WL.v (V.assign rfl) rfl ?_
  refine WL.done ?_
  (refine WS.condD rfl ?_ ?_) <;> intro h_ <;> try (exfalso; omega)
  refine WS.seq ?_
  refine WS.seq ?_
  refine WS.region ?_
  refine WL.v (V.eqi rfl rfl) rfl ?_
  refine WL.v (V.assign rfl) rfl ?_
  refine WL.done ?_
  (refine WS.condD rfl ?_ ?_) <;> intro h_ <;> try (exfalso; omega)
  refine WS.seq ?_
  refine WS.region ?_
  refine WL.v (V.eqi rfl rfl) rfl ?_
  refine WL.v (V.assign rfl) rfl ?_
  refine WL.done ?_
  (refine WS.condD rfl ?_ ?_) <;> intro h_ <;> try (exfalso; omega)
  refine WS.region ?_
  refine WL.v (V.eqi rfl rfl) rfl ?_
  refine WL.v (V.assign rfl) rfl ?_
  refine WL.done ?_
  (refine WS.condD rfl ?_ ?_) <;> intro h_ <;> try (exfalso; omega)
  refine WS.seq ?_
  refine WS.region ?_
  refine WL.v (V.eqi rfl rfl) rfl ?_
  refine WL.v (V.assign rfl) rfl ?_
  refine WL.done ?_
  (refine WS.condD rfl ?_ ?_) <;> intro h_ <;> try (exfalso; omega)
  refine WS.seq ?_
  refine WS.region ?_
  refine WL.v (V.eqi rfl rfl) rfl ?_
  refine WL.v (V.assign rfl) rfl ?_
  refine WL.done ?_
  (refine WS.condD rfl ?_ ?_) <;> intro h_ <;> try (exfalso; omega)
  refine WS.seq ?_
  refine WS.region ?_
  refine WL.v (V.move rfl) rfl ?_
  refine WL.callB (actor_cancels_no k q id ab hr hT hb hk) (1 :: wk 1) rfl rfl rfl ?_
  rintro _ _ ⟨rfl, rfl⟩
  refine WL.store 0 rfl rfl rfl rfl rfl rfl ?_
  refine WL.done ?_
  refine WS.retM (1 :: wk 1) (.cell rfl (.agg 0 rfl rfl) .nil) rfl ?_
  exact ⟨k, rfl, rfl, rfl, rfl⟩
end Go.Proofs
