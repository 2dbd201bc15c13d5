/- Part of the proof: W20. -/
import Derived.Test.YtjdjialgjmphjaaGreatW19
set_option linter.all false
set_option maxRecDepth 100000
set_option maxHeartbeats 8000000
namespace Go.Proofs
open Go Go.Sep
attribute [local irreducible] WS WL WH WHT OpV OpR

/-- an entry that has no deadline -/
def Sqe.noDead (e : Sqe) : Bool := decide (bitsOf .and .i64 e.flags 8 = 0) && decide (e.time = 0)

theorem entry_Deadline_no (e : Sqe) (now : Value) (h : e.noDead = true) : Spec Tryz.prog 216 [.agg (encS e).toArray, now] [] (fun v A => v = .tuple #[.int .u64 0, B false] ∧ A = []) := by
  simp [Sqe.noDead] at h
  obtain ⟨h1, h2⟩ := h
  have ht : ((e.time.toNat : Nat) : Int) = 0 := by rw [h2]; rfl
  refine Spec.of Tryz.func216 rfl Tryz.call216 rfl (fun R => ?_)
  refine WS.seq ?_
  refine WS.region ?_
  refine WL.box rfl rfl ?_; intro r_
  refine WL.v (V.assign rfl) rfl ?_
  refine WL.v (V.assign rfl) rfl ?_
  refine WL.done ?_
  refine WS.seq ?_
  refine WS.block ?_
  refine WS.seq ?_
  refine WS.region ?_
  refine WL.v (V.fieldAddr rfl) rfl ?_
  refine WL.r (V.load1 0 rfl rfl rfl) rfl ?_
  refine WL.v (V.bits rfl rfl rfl) rfl ?_
  refine WL.v (V.nei rfl rfl) rfl ?_
  refine WL.v (V.assign rfl) rfl ?_
  refine WL.done ?_
  (refine WS.condN rfl ?_ ?_) <;> intro h_ <;> try (exfalso; omega)
  refine WS.seq ?_
  refine WS.region ?_
  refine WL.v (V.fieldAddr rfl) rfl ?_
  refine WL.r (V.load1 0 rfl rfl rfl) rfl ?_
  refine WL.v (V.nei rfl rfl) rfl ?_
  refine WL.v (V.assign rfl) rfl ?_
  refine WL.done ?_
  (refine WS.condN rfl ?_ ?_) <;> intro h_ <;> try (exfalso; omega)
  refine WS.skip ?_
  refine WS.blk ?_
  refine WS.seq ?_
  refine WS.region ?_
  refine WL.v (V.assign rfl) rfl ?_
  refine WL.v (V.assign rfl) rfl ?_
  refine WL.done ?_
  refine WS.pick [] rfl ?_
  refine WS.ret rfl ?_
  exact ⟨rfl, rfl⟩

/-! ## the plan of a chain -/

def encB (b : Bool) : List Value := [B b]
instance : Enc encB 1 := ⟨fun _ => rfl, fun _ => rfl, by omega⟩
instance : Enc encS 8 := ⟨fun _ => rfl, fun _ => rfl, by omega⟩

def rightAt (good : List Bool) (z : Int) : Bool := decide (0 ≤ z) && (good[z.toNat]?).getD true

theorem plan_right (gb : Nat) (g : SL encB 1) (z : Int) (h1 : -1 ≤ z) (h2 : z < g.xs.length) :
    Spec Tryz.prog 355 [I z, ptr gb 0] [blk gb 55 [g.val], g.ch 4] (fun v A => v = B (rightAt g.xs z) ∧ A = [blk gb 55 [g.val], g.ch 4]) := by
  refine Spec.of Tryz.func355 rfl Tryz.call355 rfl (fun R => ?_)
  refine WS.seq ?_
  refine WS.region ?_
  refine WL.v (V.assign rfl) rfl ?_
  refine WL.done ?_
  refine WS.seq ?_
  refine WS.region ?_
  refine WL.v (V.move rfl) rfl ?_
  refine WL.v (V.ge rfl rfl) rfl ?_
  refine WL.v (V.move rfl) rfl ?_
  (refine WL.gcaseD rfl rfl ?_ ?_) <;> intro h_ <;> try (exfalso; omega)
  refine WL.gy rfl rfl ?_
  refine WL.v (V.move rfl) rfl ?_
  refine WL.gy rfl rfl ?_
  refine WL.r (V.load1 0 rfl rfl rfl) rfl ?_
  refine WL.gy rfl rfl ?_
  refine WL.v (V.lenSL rfl) rfl ?_
  refine WL.gy rfl rfl ?_
  refine WL.v (V.ge rfl rfl) rfl ?_
  refine WL.gy rfl rfl ?_
  refine WL.v (V.move rfl) rfl ?_
  (refine WL.gcaseD rfl rfl ?_ ?_) <;> intro h_ <;> try (exfalso; omega)
  refine WL.gy rfl rfl ?_
  refine WL.r (V.load1 0 rfl rfl rfl) rfl ?_
  refine WL.gy rfl rfl ?_
  refine WL.v (V.move rfl) rfl ?_
  refine WL.gy rfl rfl ?_
  rotate_left
  refine WL.gn2 rfl rfl rfl rfl ?_
  refine WL.gn2 rfl rfl rfl rfl ?_
  refine WL.gn2 rfl rfl rfl rfl ?_
  refine WL.gn2 rfl rfl rfl rfl ?_
  refine WL.gn2 rfl rfl rfl rfl ?_
  refine WL.gu rfl rfl rfl ?_
  refine WL.gu rfl rfl rfl ?_
  refine WL.gu rfl rfl rfl ?_
  refine WL.gu rfl rfl rfl ?_
  refine WL.gn2 rfl rfl rfl rfl ?_
  refine WL.v (V.pickF rfl rfl) rfl ?_
  refine WL.v (V.assign rfl) rfl ?_
  refine WL.done ?_
  rotate_left
  · have hz : g.xs[z.toNat]? = some (g.xs[z.toNat]'(by omega)) := by simp
    have hr : rightAt g.xs z = g.xs[z.toNat]'(by omega) := by
      have h0 : 0 ≤ z := by omega
      simp [rightAt, h0, hz]
    rw [hr]
    generalize g.xs[z.toNat]'(by omega) = b at hz
    refine WL.v (V.indexSL rfl rfl (by constructor <;> omega)) rfl ?_
    refine WL.gy rfl rfl ?_
    refine WL.r (V.loadSL1 (enc := encB) 1 (i := z.toNat) rfl rfl hz rfl) rfl ?_
    refine WL.gy rfl rfl ?_
    refine WL.v (V.pickF rfl rfl) rfl ?_
    refine WL.v (V.pickT rfl rfl) rfl ?_
    refine WL.v (V.assign rfl) rfl ?_
    refine WL.done ?_
    refine WS.ret rfl ?_
    exact ⟨rfl, rfl⟩
  · refine WS.ret rfl ?_
    refine ⟨?_, rfl⟩
    simp [retV, rightAt, h_]

theorem getN_one_some (l : List Value) (i : Nat) (v : Value) (h : getN i 1 l = some [v]) : l[i]? = some v := by
  have := (getN_get h).2 0 (by omega)
  simpa using this

/-- a field of an element -/
theorem V.loadField {P : Program} {env : List (Nat × Value)} {pre : List Chunk} {T E F : TypeId} {x : Operand} {α : Type} {enc : α → List Value} {sz : Nat} (kp : Nat) {s : SL enc sz} {i j : Nat} {a : α} {v : Value} [hE : Enc enc sz] [ht : TyS P F 1 false]
    (hx : ev env x = some (.pointer (some ⟨s.b.getD 0, i * sz + j, none⟩))) (hc : nthC kp pre = some (s.ch E)) (ha : s.xs[i]? = some a) (hj : getN j 1 (enc a) = some [v]) : OpR P (.load F x) T env pre v := by
  cases hb : s.b with
  | none => have := s.nil hb; rw [this] at ha; simp at ha
  | some b =>
    refine V.load1 kp (b := b) (o := i * sz + j) (Tb := E) (l := flat enc s.xs ++ s.junk) (by rw [hx, hb]; rfl) (by rw [hc]; simp only [SL.ch, hb]) ?_
    refine getN_one _ _ _ ?_
    have h1 := (getN_get (flat_get (enc := enc) (sz := sz) s.xs s.junk i a ha)).2 j (by
      have := getN_one_some _ _ _ hj
      have h2 := (List.getElem?_eq_some_iff.1 this).1
      rw [hE.len] at h2; exact h2)
    rw [h1]
    exact getN_one_some _ _ _ hj

def planAt (ring seq : Nat) (good : List Bool) (es : List Sqe) (k : Nat) : Option Req :=
  match es[k]? with
  | none => none
  | some e => match rightAt good k with
    | false => none
    | true => match rightAt good ((k : Int) - 1) with
      | false => some ⟨⟨ring, seq + k⟩, e, 0, false, false⟩
      | true =>
        let fl := ((es[k - 1]?).map (·.flags)).getD 0
        some ⟨⟨ring, seq + k⟩, e, if bitsOf .and .i64 fl 3 = 0 then 0 else seq + k - 1, !decide (bitsOf .and .i64 fl 1 = 0), false⟩
def planL (ring seq : Nat) (good : List Bool) (es : List Sqe) (n : Nat) : List Req := (List.range n).filterMap (planAt ring seq good es)

theorem chain_Plan (ring seq : Nat) (g : SL encB 1) (l : SL encS 8) (hl : l.xs.length = g.xs.length) (hb : l.xs.length ≤ 100) (hs : seq ≤ 1000000) :
    Spec Tryz.prog 213 [I ring, I seq, g.val, l.val] [g.ch 4, l.ch 25] (fun v A => ∃ s : SL encR 13, s.xs = planL ring seq g.xs l.xs l.xs.length ∧ v = s.val ∧ A = [s.ch 210, g.ch 4, l.ch 25]) := by
  refine Spec.of Tryz.func213 rfl Tryz.call213 rfl (fun R => ?_)
  refine WS.seq ?_
  refine WS.region ?_
  refine WL.box rfl rfl ?_; intro r_
  refine WL.v (V.assign rfl) rfl ?_
  refine WL.done ?_
  refine WS.seq ?_
  refine WS.region ?_
  refine WL.v (V.mkClo rfl) rfl ?_
  refine WL.v (V.assign rfl) rfl ?_
  refine WL.done ?_
  refine WS.seq ?_
  refine WS.region ?_
  refine WL.v (V.assign rfl) rfl ?_
  refine WL.done ?_
  refine WS.seq ?_
  refine WS.seq ?_
  refine WS.region ?_
  refine WL.v (V.move rfl) rfl ?_
  refine WL.v (V.lenSL rfl) rfl ?_
  refine WL.v (V.move rfl) rfl ?_
  refine WL.done ?_
  refine WS.block ?_
  rw [show cellsV g.val = [g.val] from by rw [g.val_len]; rfl]
  generalize r_ = gb
  refine WS.keep [18, 17, 16, 9, 10, 0, 1, 3] rfl ?_
  refine WS.perm (pre' := [(SL.empty : SL encR 13).ch 210, blk gb 55 [g.val], g.ch 4, l.ch 25]) (by simp) ?_
  refine WS.loop (ι := {p : Nat × SL encR 13 // p.1 ≤ l.xs.length ∧ p.2.xs = planL ring seq g.xs l.xs p.1})
    (fun p => [(18, I p.1.1), (17, I l.xs.length), (16, l.val), (9, .func (.func 355) #[] #[ptr gb 0]), (10, p.1.2.val), (0, I ring), (1, I seq), (3, l.val)])
    (fun p => [p.1.2.ch 210, blk gb 55 [g.val], g.ch 4, l.ch 25]) (fun p => l.xs.length - p.1.1) ⟨(0, SL.empty), by simp, rfl⟩ ?_
  rintro ⟨⟨k, out⟩, hk, hout⟩ X ih
  simp only at ih hk hout ⊢
  have hol : out.xs.length ≤ 100 := by
    rw [hout]
    refine Nat.le_trans (List.length_filterMap_le _ _) ?_
    simp; omega
  have hsucc : planL ring seq g.xs l.xs (k + 1) = planL ring seq g.xs l.xs k ++ (planAt ring seq g.xs l.xs k).toList := by
    unfold planL
    rw [List.range_succ, List.filterMap_append]
    congr 1
  refine WS.seq ?_
  refine WS.region ?_
  refine WL.v (V.lt rfl rfl) rfl ?_
  refine WL.done ?_
  refine WS.seq ?_
  (refine WS.condD rfl ?_ ?_) <;> intro h_ <;> try (exfalso; omega)
  refine WS.skip ?_
  refine WS.seq ?_
  refine WS.block ?_
  refine WS.seq ?_
  refine WS.region ?_
  refine WL.v (V.move rfl) rfl ?_
  rotate_left
  refine WS.exit rfl ?_
  refine WS.seq ?_
  refine WS.region ?_
  refine WL.v (V.move rfl) rfl ?_
  refine WL.v (V.assign rfl) rfl ?_
  refine WL.done ?_
  rotate_left
  · have hlt : k < l.xs.length := by omega
    have hget : l.xs[k]? = some (l.xs[k]'hlt) := by simp
    generalize l.xs[k]'hlt = e at hget
    refine WL.v (V.indexSL rfl rfl (by constructor <;> omega)) rfl ?_
    refine WL.r (V.loadSL (enc := encS) 3 (i := k) (by simp only [Int.toNat_natCast]; rfl) rfl hget) rfl ?_
    refine WL.alloc rfl ?_; intro r_
    refine WL.v (V.assign rfl) rfl ?_
    refine WL.store 0 rfl rfl rfl rfl rfl rfl ?_
    refine WL.done ?_
    refine WS.seq ?_
    refine WS.seq ?_
    refine WS.region ?_
    refine WL.v (V.move rfl) rfl ?_
    refine WL.v (V.move rfl) rfl ?_
    refine WL.callv (plan_right gb g k (by omega) (by omega)) [2, 2] rfl rfl rfl rfl rfl ?_
    rintro _ _ ⟨rfl, rfl⟩
    cases hr : rightAt g.xs k
    · refine WL.v (V.not rfl) rfl ?_
      refine WL.done ?_
      refine WS.condT rfl ?_
      refine WS.exit rfl ?_
      refine WS.region ?_
      refine WL.v (V.add rfl rfl (fits_i64 (by omega) (by omega))) rfl ?_
      refine WL.v (V.move rfl) rfl ?_
      refine WL.done ?_
      refine WS.keep [18, 17, 16, 9, 10, 0, 1, 3] rfl ?_
      refine WS.pick [3, 0, 0, 1] rfl ?_
      exact ih ⟨(k + 1, out), by simp only; omega, by simp only; rw [hsucc, hout]; simp [planAt, hget, hr]⟩ (by simp only; omega)
    · refine WL.v (V.not rfl) rfl ?_
      refine WL.done ?_
      refine WS.condF rfl ?_
      refine WS.skip ?_
      refine WS.seq ?_
      refine WS.region ?_
      refine WL.v (V.move rfl) rfl ?_
      refine WL.v (V.move rfl) rfl ?_
      refine WL.v (V.move rfl) rfl ?_
      refine WL.v (V.add rfl rfl (fits_i64 (by omega) (by omega))) rfl ?_
      refine WL.v (V.build rfl rfl rfl) rfl ?_
      refine WL.r (V.loadN 2 rfl rfl rfl) rfl ?_
      refine WL.v (V.build rfl rfl rfl) rfl ?_
      refine WL.alloc rfl ?_; intro r_
      refine WL.store 0 rfl rfl rfl rfl rfl rfl ?_
      refine WL.done ?_
      refine WS.seq ?_
      refine WS.seq ?_
      refine WS.region ?_
      refine WL.v (V.move rfl) rfl ?_
      refine WL.v (V.move rfl) rfl ?_
      refine WL.v (V.sub rfl rfl (fits_i64 (by omega) (by omega))) rfl ?_
      refine WL.callv (plan_right gb g ((k : Int) - 1) (by omega) (by omega)) [1, 1] rfl rfl rfl rfl rfl ?_
      rintro _ _ ⟨rfl, rfl⟩
      cases hr2 : rightAt g.xs ((k : Int) - 1)
      · refine WL.done ?_
        refine WS.condF rfl ?_
        refine WS.skip ?_
        refine WS.region ?_
        refine WL.v (V.move rfl) rfl ?_
        refine WL.r (V.loadN 2 rfl rfl rfl) rfl ?_
        refine WL.slice1 (m := 13) rfl rfl rfl (by omega) (by omega) rfl ?_
        intro nb
        skip
        refine WL.append (enc := encR) [⟨⟨ring, seq + k⟩, e, 0, false, false⟩] 5 out rfl rfl rfl rfl (.inr ⟨nb, 0, 1, 0, 210, _, rfl, rfl, rfl⟩) (by simp only [List.length_cons, List.length_nil]; omega) rfl ?_
        intro s' hs'
        refine WL.v (V.assign rfl) rfl ?_
        refine WL.done ?_
        refine WS.blk ?_
        refine WS.region ?_
        refine WL.v (V.add rfl rfl (fits_i64 (by omega) (by omega))) rfl ?_
        refine WL.v (V.move rfl) rfl ?_
        refine WL.done ?_
        refine WS.keep [18, 17, 16, 9, 10, 0, 1, 3] rfl ?_
        refine WS.pick [0, 1, 1, 3] rfl ?_
        refine ih ⟨(k + 1, s'), by simp only; omega, by simp only; rw [hs', hsucc, hout]; simp [planAt, hget, hr, hr2]⟩ (by simp only; omega)
      · have hk1 : 1 ≤ k := by
          unfold rightAt at hr2
          simp at hr2
          omega
        have hgp : l.xs[k - 1]? = some (l.xs[k - 1]'(by omega)) := by simp
        generalize l.xs[k - 1]'(by omega) = ep at hgp
        refine WL.done ?_
        refine WS.condT rfl ?_
        refine WS.seq ?_
        refine WS.region ?_
        refine WL.v (V.move rfl) rfl ?_
        refine WL.v (V.move rfl) rfl ?_
        refine WL.v (V.sub rfl rfl (fits_i64 (by omega) (by omega))) rfl ?_
        refine WL.v (V.indexSL rfl rfl (by constructor <;> omega)) rfl ?_
        refine WL.v (V.fieldAddr rfl) rfl ?_
        refine WL.r (V.loadField (enc := encS) (E := 25) 5 (i := k - 1) (j := 1) (by rw [show ((k : Int) - 1).toNat = k - 1 from by omega]; rfl) rfl hgp rfl) rfl ?_
        refine WL.v (V.assign rfl) rfl ?_
        refine WL.done ?_
        refine WS.seq ?_
        refine WS.region ?_
        refine WL.v (V.move rfl) rfl ?_
        refine WL.v (V.bits rfl rfl rfl) rfl ?_
        refine WL.v (V.nei rfl rfl) rfl ?_
        refine WL.v (V.fieldAddr rfl) rfl ?_
        refine WL.store 2 rfl rfl rfl rfl rfl rfl ?_
        refine WL.done ?_
        refine WS.seq ?_
        refine WS.region ?_
        refine WL.v (V.move rfl) rfl ?_
        refine WL.v (V.bits rfl rfl rfl) rfl ?_
        refine WL.v (V.nei rfl rfl) rfl ?_
        refine WL.done ?_
        (refine WS.condN rfl ?_ ?_) <;> intro h_ <;> try (exfalso; omega)
        refine WS.region ?_
        refine WL.v (V.move rfl) rfl ?_
        refine WL.v (V.move rfl) rfl ?_
        refine WL.v (V.add rfl rfl (fits_i64 (by omega) (by omega))) rfl ?_
        refine WL.v (V.sub rfl rfl (fits_i64 (by omega) (by omega))) rfl ?_
        refine WL.v (V.fieldAddr rfl) rfl ?_
        refine WL.store 0 rfl rfl rfl rfl rfl rfl ?_
        refine WL.done ?_
        refine WS.region ?_
        refine WL.v (V.move rfl) rfl ?_
        refine WL.r (V.loadN 0 rfl rfl rfl) rfl ?_
        rotate_left
        refine WS.skip ?_
        refine WS.region ?_
        refine WL.v (V.move rfl) rfl ?_
        refine WL.r (V.loadN 0 rfl rfl rfl) rfl ?_
        rotate_left
        · have hp : ((seq : Int) + k - 1) = ((seq + k - 1 : Nat) : Int) := by omega
          rw [hp]
          refine WL.slice1 (m := 13) rfl rfl rfl (by omega) (by omega) rfl ?_
          intro nb
          skip
          refine WL.append (enc := encR) [⟨⟨ring, seq + k⟩, e, seq + k - 1, !decide (bitsOf .and .i64 ep.flags 1 = 0), false⟩] 5 out rfl rfl rfl rfl (.inr ⟨nb, 0, 1, 0, 210, _, rfl, rfl, rfl⟩) (by simp only [List.length_cons, List.length_nil]; omega) rfl ?_
          intro s' hs'
          refine WL.v (V.assign rfl) rfl ?_
          refine WL.done ?_
          refine WS.blk ?_
          refine WS.region ?_
          refine WL.v (V.add rfl rfl (fits_i64 (by omega) (by omega))) rfl ?_
          refine WL.v (V.move rfl) rfl ?_
          refine WL.done ?_
          refine WS.keep [18, 17, 16, 9, 10, 0, 1, 3] rfl ?_
          refine WS.pick [0, 2, 2, 3] rfl ?_
          exact ih ⟨(k + 1, s'), by simp only; omega, by simp only; rw [hs', hsucc, hout]; simp [planAt, hget, hr, hr2, hgp, h_]⟩ (by simp only; omega)
        · refine WL.slice1 (m := 13) rfl rfl rfl (by omega) (by omega) rfl ?_
          intro nb
          skip
          refine WL.append (enc := encR) [⟨⟨ring, seq + k⟩, e, 0, !decide (bitsOf .and .i64 ep.flags 1 = 0), false⟩] 5 out rfl rfl rfl rfl (.inr ⟨nb, 0, 1, 0, 210, _, rfl, rfl, rfl⟩) (by simp only [List.length_cons, List.length_nil]; omega) rfl ?_
          intro s' hs'
          refine WL.v (V.assign rfl) rfl ?_
          refine WL.done ?_
          refine WS.blk ?_
          refine WS.region ?_
          refine WL.v (V.add rfl rfl (fits_i64 (by omega) (by omega))) rfl ?_
          refine WL.v (V.move rfl) rfl ?_
          refine WL.done ?_
          refine WS.keep [18, 17, 16, 9, 10, 0, 1, 3] rfl ?_
          refine WS.pick [0, 2, 2, 3] rfl ?_
          exact ih ⟨(k + 1, s'), by simp only; omega, by simp only; rw [hs', hsucc, hout]; simp [planAt, hget, hr, hr2, hgp, h_]⟩ (by simp only; omega)
  · have : k = l.xs.length := by omega
    subst this
    refine WS.pick [0, 1, 1] rfl ?_
    refine WS.ret rfl ?_
    exact ⟨out, hout, rfl, rfl⟩
end Go.Proofs
