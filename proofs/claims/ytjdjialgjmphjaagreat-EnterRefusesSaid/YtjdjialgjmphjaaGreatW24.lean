/- Part of the proof: W24. -/
import Derived.Test.YtjdjialgjmphjaaGreatW23
import Derived.Test.YtjdjialgjmphjaaGreatW20
set_option linter.all false
set_option maxRecDepth 100000
set_option maxHeartbeats 16000000
namespace Go.Proofs
open Go Go.Sep
attribute [local irreducible] WS WL WH WHT OpV OpR

/-! ## taking -/

def entOf (l : List UInt8) : Sqe := if isEntry l then Sqe.parse l else Sqe.zero
def AS.takeN (sb most : Nat) (a : AS) : Nat := min (min ((a.waiting sb).getD 0) most) (16 - (a.of 4).length)
def AS.tk1 (cb first : Nat) (goods : List Bool) (es : List Sqe) (raws : List (List UInt8)) (a : AS) (k : Nat) : AS :=
  match planAt 4 first goods es k with
  | some r => { a with L := a.L ++ [r] }
  | none => a.tell cb ⟨4, first + k, u32At (raws.getD k []) 4, 0, -1, 0, false⟩
def AS.raws (sb : Nat) (a : AS) (n : Nat) : List (List UInt8) := (List.range n).map (a.raw sb)
def AS.takeFrom (cb first : Nat) (raws : List (List UInt8)) (a : AS) (k : Nat) : AS :=
  (List.range k).foldl (AS.tk1 cb first (raws.map isEntry) (raws.map entOf) raws) a
def AS.take (sb cb most : Nat) (a : AS) : AS :=
  AS.takeFrom cb (a.taken + 1) (a.raws sb (a.takeN sb most)) { a.adv (a.takeN sb most) with taken := a.taken + a.takeN sb most } (a.takeN sb most)

theorem planAt_some {ring seq : Nat} {good : List Bool} {es : List Sqe} {k : Nat} {e : Sqe} (he : es[k]? = some e) (hg : rightAt good k = true) :
    ∃ r, planAt ring seq good es k = some r ∧ r.id = ⟨ring, seq + k⟩ ∧ r.e = e ∧ r.started = false := by
  simp only [planAt, he, hg]
  split <;> exact ⟨_, rfl, rfl, rfl, rfl⟩
theorem planAt_none {ring seq : Nat} {good : List Bool} {es : List Sqe} {k : Nat} (hg : rightAt good k = false) : planAt ring seq good es k = none := by
  simp only [planAt, hg]
  split <;> rfl

theorem takeFrom_succ (cb first : Nat) (raws : List (List UInt8)) (a : AS) (k : Nat) :
    AS.takeFrom cb first raws a (k + 1) = AS.tk1 cb first (raws.map isEntry) (raws.map entOf) raws (AS.takeFrom cb first raws a k) k := by
  simp [AS.takeFrom, List.range_succ, List.foldl_append]

/-- what is left of a plan -/
def planV (s : SL encR 13) (j : Nat) : Value := match s.b with
  | none => .slice none 0 0
  | some b => .slice (some ⟨b, min j (s.cap - 1) * 13, none⟩) (s.xs.length - j) (s.cap - j)

theorem planV_zero (s : SL encR 13) : planV s 0 = s.val := by
  cases h : s.b <;> simp [planV, SL.val, h]

theorem planV_at (s : SL encR 13) (j : Nat) (hj : j < s.xs.length) : ∃ b, s.b = some b ∧ j < s.cap ∧ planV s j = .slice (some ⟨b, j * 13, none⟩) (s.xs.length - j) (s.cap - j) := by
  cases hb : s.b with
  | none => have := s.nil hb; rw [this] at hj; simp at hj
  | some b =>
    have hf := s.fit (by rw [hb]; simp)
    have : s.xs.length * 13 ≤ s.cap * 13 := by omega
    refine ⟨b, rfl, by omega, ?_⟩
    simp only [planV, hb]
    rw [Nat.min_eq_left (by omega)]

theorem planV_next (s : SL encR 13) (j : Nat) (b : Nat) (hb : s.b = some b) (hj : j < s.cap) :
    Value.slice (if s.cap - j = 1 then some ⟨b, j * 13, none⟩ else (some (⟨b, j * 13, none⟩ : Addr)).map (·.add (1 * 13))) (s.xs.length - j - 1) (s.cap - j - 1) = planV s (j + 1) := by
  simp only [planV, hb, Option.map_some, addr_add]
  by_cases h : s.cap - j = 1
  · rw [if_pos h, Nat.min_eq_right (by omega), show s.cap - 1 = j from by omega, Nat.sub_sub, Nat.sub_sub]
  · rw [if_neg h, Nat.min_eq_left (by omega), Nat.sub_sub, Nat.sub_sub, show j * 13 + 1 * 13 = (j + 1) * 13 from by omega]

theorem KW.Take4 (k : KW) (most : Nat) (hm : most ≤ 64) (hw : (k.view.waiting k.x.sqb).isSome = true) (hr : (k.view.room k.x.cqb).isSome = true)
    (hL : k.view.L.length ≤ 4) (hring : ∀ q ∈ k.view.L, q.id.ring = 4 ∧ q.id.seq ≤ k.taken) (htk : k.taken ≤ 900000) (ho : k.view.over.length ≤ 1000) (hj : k.view.J.length ≤ 1000)
    (hnd : ∀ i, i < k.view.takeN k.x.sqb most → isEntry (k.view.raw k.x.sqb i) = true → (Sqe.parse (k.view.raw k.x.sqb i)).noDead = true) :
    Spec Tryz.prog 79 [k.p, I 4, I most] k.chs (fun v A => ∃ k' : KW, k'.x = k.x ∧ k'.view = k.view.take k.x.sqb k.x.cqb most ∧ v = I (k.view.takeN k.x.sqb most : Nat) ∧ A = k'.chs) := by
  have hN : ∃ N, k.view.waiting k.x.sqb = some N ∧ N ≤ 8 := by
    obtain ⟨N, hN⟩ := Option.isSome_iff_exists.1 hw
    refine ⟨N, hN, ?_⟩
    unfold AS.waiting at hN
    split at hN
    · rename_i h
      simp at hN
      have h3 := k.r.sb3
      rw [k.hsb] at h3
      have := Nat.pow_le_pow_right (n := 2) (by omega) h3
      simp at this; omega
    · simp at hN
  obtain ⟨N, hN, hN8⟩ := hN
  have hof : k.t.of 4 = k.view.of 4 := rfl
  have hofl : (k.view.of 4).length ≤ 4 := Nat.le_trans (List.length_filter_le _ _) hL
  refine Spec.of Tryz.func79 rfl Tryz.call79 rfl (fun R => ?_)
  refine WS.seq ?_
  refine WS.region ?_
  refine WL.v (V.assign rfl) rfl ?_
  refine WL.done ?_
  refine WS.seq ?_
  refine WS.region ?_
  refine WL.v (V.move rfl) rfl ?_
  refine WL.v (V.move rfl) rfl ?_
  refine WL.callB (k.Ring 4) (wk 0) rfl rfl rfl ?_
  rintro _ _ ⟨rfl, rfl⟩
  rw [if_pos rfl]
  refine WL.v (V.assign rfl) rfl ?_
  refine WL.done ?_
  refine WS.seq ?_
  refine WS.seq ?_
  refine WS.region ?_
  refine WL.v (V.move rfl) rfl ?_
  refine WL.v (V.eqNilP rfl rfl) rfl ?_
  refine WL.v (V.move rfl) rfl ?_
  refine WL.gy rfl rfl ?_
  refine WL.v (V.move rfl) rfl ?_
  refine WL.gy rfl rfl ?_
  refine WL.callB k.RValid (wk 0) rfl rfl rfl ?_
  rintro _ _ ⟨rfl, rfl⟩
  rw [hw, hr]
  refine WL.gy rfl rfl ?_
  refine WL.v (V.not rfl) rfl ?_
  refine WL.v (V.pickF rfl rfl) rfl ?_
  refine WL.done ?_
  refine WS.condF rfl ?_
  refine WS.skip ?_
  refine WS.seq ?_
  refine WS.region ?_
  refine WL.v (V.move rfl) rfl ?_
  refine WL.callB k.RWaiting (wk 0) rfl rfl rfl ?_
  rintro _ _ ⟨rfl, rfl⟩
  rw [hN]
  refine WL.v (V.move rfl) rfl ?_
  refine WL.v (V.extractL rfl rfl) rfl ?_
  refine WL.v (V.extractL rfl rfl) rfl ?_
  refine WL.v (V.assign rfl) rfl ?_
  refine WL.v (V.assign rfl) rfl ?_
  refine WL.done ?_
  refine WS.seq ?_
  refine WS.region ?_
  refine WL.v (V.move rfl) rfl ?_
  refine WL.v (V.move rfl) rfl ?_
  refine WL.v (V.move rfl) rfl ?_
  refine WL.callB k.Reqs (wk 0) rfl rfl rfl ?_
  rintro _ _ ⟨rfl, rfl⟩
  refine WL.v (V.move rfl) rfl ?_
  refine WL.callB (k.Of (by rw [hof]; omega) (by have : k.t.L.length ≤ 4 := hL; omega)) (wk 0) rfl rfl rfl ?_
  rintro _ _ ⟨so, hso, rfl, rfl⟩
  have hsol : so.xs.length ≤ 4 := by rw [hso, hof]; exact hofl
  refine WL.v (V.lenSL rfl) rfl ?_
  refine WL.v (V.sub rfl rfl (fits_i64 (by omega) (by omega))) rfl ?_
  refine WL.v (V.min3 rfl rfl rfl) rfl ?_
  refine WL.v (V.max2 rfl rfl) rfl ?_
  refine WL.v (V.assign rfl) rfl ?_
  refine WL.done ?_
  refine WS.seq ?_
  refine WS.region ?_
  refine WL.v (V.assign rfl) rfl ?_
  refine WL.done ?_
  refine WS.seq ?_
  refine WS.seq ?_
  refine WS.region ?_
  refine WL.v (V.move rfl) rfl ?_
  refine WL.v (V.move rfl) rfl ?_
  refine WL.done ?_
  refine WS.block ?_
  generalize hn : k.view.takeN k.x.sqb most = n
  have hn8 : n ≤ 8 := by rw [← hn]; simp only [AS.takeN, hN, Option.getD_some]; omega
  rw [show max (min (min (((some N).getD 0 : Nat) : Int) (most : Int)) (16 - (so.xs.length : Int))) 0 = (n : Int) from by
    rw [← hn]; simp only [AS.takeN, hN, Option.getD_some, ← hof, ← hso]; omega]
  refine WS.keep [50, 49, 10, 0, 1, 7, 8] rfl ?_
  refine WS.pick (wk 1) rfl ?_
  refine WS.perm (pre' := [(SL.empty : SL encRaw 1).ch 57, rawC []] ++ k.chs) (by show ([[], []] ++ k.chs).flatten.Perm k.chs.flatten; simp) ?_
  refine WS.loop (ι := {p : Nat × List (SL encY 1) × SL encRaw 1 // p.1 ≤ n ∧ p.2.2.xs = p.2.1 ∧ p.2.1.map (·.xs) = k.view.raws k.x.sqb p.1})
    (fun p => [(50, I p.1.1), (49, I n), (10, p.1.2.2.val), (0, k.p), (1, I 4), (7, ptr k.r.rb 0), (8, I n)])
    (fun p => [p.1.2.2.ch 57, rawC p.1.2.1] ++ k.chs) (fun p => n - p.1.1) ⟨(0, [], SL.empty), by simp [AS.raws]⟩ ?_
  rintro ⟨⟨i, raws, row⟩, hi, hrow, hraws⟩ X ih
  simp only at ih hi hrow hraws ⊢
  have hrl : raws.length = i := by
    have := congrArg List.length hraws
    simpa [AS.raws] using this
  refine WS.seq ?_
  refine WS.region ?_
  refine WL.v (V.lt rfl rfl) rfl ?_
  refine WL.done ?_
  refine WS.seq ?_
  (refine WS.condD rfl ?_ ?_) <;> intro h_ <;> try (exfalso; omega)
  refine WS.skip ?_
  refine WS.seq ?_
  refine WS.block ?_
  refine WS.seq ?_
  refine WS.region ?_
  refine WL.v (V.move rfl) rfl ?_
  refine WL.v (V.assign rfl) rfl ?_
  refine WL.done ?_
  refine WS.region ?_
  refine WL.v (V.move rfl) rfl ?_
  refine WL.v (V.move rfl) rfl ?_
  refine WL.v (V.move rfl) rfl ?_
  rotate_left
  refine WS.exit rfl ?_
  refine WS.seq ?_
  refine WS.region ?_
  refine WL.v (V.move rfl) rfl ?_
  refine WL.v (V.move rfl) rfl ?_
  rotate_left
  · refine WL.callB (k.RFetch i (by omega)) (wk 2) rfl rfl rfl ?_
    rintro _ _ ⟨s, hs, rfl, rfl⟩
    skip
    refine WL.slice1 (m := 1) rfl (by rw [s.val_len]; rfl) rfl (by omega) (by omega) rfl ?_
    intro nb
    rw [show cellsV s.val = [s.val] from by rw [s.val_len]; rfl]
    refine WL.append (enc := encRaw) [s] 1 row rfl rfl rfl rfl (.inr ⟨nb, 0, 1, 0, 57, _, rfl, rfl, rfl⟩) (by simp only [List.length_cons, List.length_nil]; rw [hrow]; omega) rfl ?_
    intro row' hrow'
    refine WL.v (V.assign rfl) rfl ?_
    refine WL.done ?_
    refine WS.blk ?_
    refine WS.region ?_
    refine WL.v (V.add rfl rfl (fits_i64 (by omega) (by omega))) rfl ?_
    refine WL.v (V.move rfl) rfl ?_
    refine WL.done ?_
    refine WS.keep [50, 49, 10, 0, 1, 7, 8] rfl ?_
    refine WS.pick (0 :: 1 :: 1 :: wk 1) rfl ?_
    refine WS.perm (pre' := [row'.ch 57, rawC (raws ++ [s])] ++ k.chs) (by rw [rawC_append]; show ([row'.ch 57, rawC raws ++ rawC [s]] ++ k.chs).flatten.Perm ([row'.ch 57, rawC raws, s.ch 5] ++ k.chs).flatten; simp [rawC]) ?_
    refine ih ⟨(i + 1, raws ++ [s], row'), by omega, by simp only; rw [hrow', hrow], ?_⟩ (by simp only; omega)
    simp only [List.map_append, hraws, AS.raws, List.range_succ, List.map_cons, List.map_nil, hs]
  · have hin : i = n := by omega
    subst hin
    clear ih
    refine WL.callB (k.RAdvance i (by omega)) (wk 2) rfl rfl rfl ?_
    rintro _ _ ⟨k1, hx1, hv1, rfl⟩
    rw [show k.p = k1.p from by rw [KW.p, KW.p, hx1]]
    have ht1 : k1.taken = k.taken := congrArg AS.taken hv1
    refine WL.done ?_
    refine WS.seq ?_
    refine WS.region ?_
    refine WL.v (V.move rfl) rfl ?_
    refine WL.v (V.move rfl) rfl ?_
    refine WL.v (V.move rfl) rfl ?_
    refine WL.callB (k1.Take i (by omega) (by omega)) (wk 2) rfl rfl rfl ?_
    rintro _ _ ⟨rfl, rfl⟩
    generalize hk2 : k1.tk i = k2
    have hx2 : k2.x = k.x := by rw [← hk2]; exact hx1
    have hv2 : k2.view = { k.view.adv i with taken := k.taken + i } := by
      rw [← hk2, ← hv1, ← ht1]; rfl
    rw [show k1.p = k2.p from by rw [KW.p, KW.p, hx1, hx2]]
    rw [ht1]
    refine WL.v (V.assign rfl) rfl ?_
    refine WL.done ?_
    refine WS.seq ?_
    refine WS.region ?_
    refine WL.v (V.assign rfl) rfl ?_
    refine WL.done ?_
    refine WS.seq ?_
    refine WS.region ?_
    refine WL.v (V.assign rfl) rfl ?_
    refine WL.done ?_
    refine WS.seq ?_
    refine WS.seq ?_
    refine WS.region ?_
    refine WL.v (V.move rfl) rfl ?_
    refine WL.v (V.lenSL rfl) rfl ?_
    refine WL.v (V.move rfl) rfl ?_
    refine WL.done ?_
    refine WS.block ?_
    refine WS.keep [69, 68, 67, 10, 13, 14, 0, 1, 8, 12] rfl ?_
    refine WS.perm (pre' := [(SL.empty : SL encS 8).ch 25, (SL.empty : SL encB 1).ch 4, row.ch 57, rawC raws] ++ k2.chs) (by simp) ?_
    have hrl' : row.xs.length = i := by rw [hrow, hrl]
    rw [hrl']
    refine WS.loop (ι := {p : Nat × SL encS 8 × SL encB 1 // p.1 ≤ i ∧ p.2.1.xs = (raws.take p.1).map (fun s => entOf s.xs) ∧ p.2.2.xs = (raws.take p.1).map (fun s => isEntry s.xs)})
      (fun p => [(69, I p.1.1), (68, I i), (67, row.val), (10, row.val), (13, p.1.2.1.val), (14, p.1.2.2.val), (0, k2.p), (1, I 4), (8, I i), (12, I ((k.taken + 1 : Nat) : Int))])
      (fun p => [p.1.2.1.ch 25, p.1.2.2.ch 4, row.ch 57, rawC raws] ++ k2.chs) (fun p => i - p.1.1) ⟨(0, SL.empty, SL.empty), by simp⟩ ?_
    rintro ⟨⟨m, es, gs⟩, hmi, hes, hgs⟩ X ih
    simp only at ih hmi hes hgs ⊢
    have hesl : es.xs.length = m := by rw [hes]; simp; omega
    have hgsl : gs.xs.length = m := by rw [hgs]; simp; omega
    refine WS.seq ?_
    refine WS.region ?_
    refine WL.v (V.lt rfl rfl) rfl ?_
    refine WL.done ?_
    refine WS.seq ?_
    (refine WS.condD rfl ?_ ?_) <;> intro h_ <;> try (exfalso; omega)
    refine WS.skip ?_
    refine WS.seq ?_
    refine WS.block ?_
    refine WS.seq ?_
    refine WS.region ?_
    rotate_left
    refine WS.exit rfl ?_
    refine WS.seq ?_
    refine WS.region ?_
    refine WL.v (V.move rfl) rfl ?_
    refine WL.v (V.move rfl) rfl ?_
    refine WL.v (V.move rfl) rfl ?_
    refine WL.v (V.move rfl) rfl ?_
    rotate_left
    · have hmlt : m < raws.length := by omega
      have hget : raws[m]? = some raws[m] := by simp
      have hgetr : row.xs[m]? = some raws[m] := by rw [hrow]; exact hget
      have htk1 : raws.take (m + 1) = raws.take m ++ [raws[m]] := by simp
      have hs32 : raws[m].xs.length = 32 := by
        have h1 : (raws.map (·.xs))[m]? = some raws[m].xs := by rw [List.getElem?_map, hget]; rfl
        rw [hraws] at h1
        simp only [AS.raws, List.getElem?_map] at h1
        rw [List.getElem?_range (by omega)] at h1
        simp only [Option.map_some, Option.some.injEq] at h1
        rw [← h1]
        have h2 : (k.view.at_ 5).length = 512 := by rw [← k.at_view]; exact k.m.at_len 5 (by omega) (by omega)
        have h3 := k.r.sb3
        rw [k.hsb] at h3
        have h4 : 2 ^ k.x.sqb ≤ 8 := by
          have := Nat.pow_le_pow_right (n := 2) (by omega) h3
          simpa using this
        have h5 := Nat.mod_lt (k.view.hd + UInt32.ofNat m).toNat (Nat.two_pow_pos k.x.sqb)
        simp only [AS.raw, List.length_take, List.length_drop, h2]
        omega
      generalize raws[m] = s at hget hgetr htk1 hs32
      refine WL.v (V.indexSL rfl rfl (by constructor <;> omega)) rfl ?_
      refine WL.r (V.loadSL1 (enc := encRaw) 2 (i := m) (by simp only [Int.toNat_natCast]; rfl) rfl hgetr rfl) rfl ?_
      refine WL.v (V.assign rfl) rfl ?_
      refine WL.done ?_
      refine WS.seq ?_
      refine WS.region ?_
      refine WL.v (V.move rfl) rfl ?_
      refine WL.call (Spec.raw raws m s hget (entry_Read s hs32)) [3] rfl rfl rfl ?_
      rintro _ _ ⟨rfl, rfl⟩
      rw [show (if isEntry s.xs = true then Sqe.parse s.xs else Sqe.zero) = entOf s.xs from rfl]
      refine WL.v (V.move rfl) rfl ?_
      refine WL.v (V.extractL rfl rfl) rfl ?_
      refine WL.v (V.extractL rfl rfl) rfl ?_
      refine WL.alloc rfl ?_; intro r_
      refine WL.store 0 rfl rfl rfl rfl rfl rfl ?_
      refine WL.v (V.assign rfl) rfl ?_
      refine WL.done ?_
      refine WS.region ?_
      refine WL.v (V.move rfl) rfl ?_
      refine WL.r (V.loadN 0 rfl rfl rfl) rfl ?_
      refine WL.slice1 (m := 8) rfl rfl rfl (by omega) (by omega) rfl ?_
      intro n1
      refine WL.append (enc := encS) [entOf s.xs] 3 es rfl rfl rfl rfl (.inr ⟨n1, 0, 1, 0, 25, _, rfl, rfl, rfl⟩) (by simp only [List.length_cons, List.length_nil]; omega) rfl ?_
      intro es' hes'
      refine WL.v (V.move rfl) rfl ?_
      refine WL.v (V.move rfl) rfl ?_
      refine WL.slice1 (m := 1) rfl rfl rfl (by omega) (by omega) rfl ?_
      intro n2
      refine WL.append (enc := encB) [isEntry s.xs] 5 gs rfl rfl rfl rfl (.inr ⟨n2, 0, 1, 0, 4, _, rfl, rfl, rfl⟩) (by simp only [List.length_cons, List.length_nil]; omega) rfl ?_
      intro gs' hgs'
      refine WL.v (V.assign rfl) rfl ?_
      refine WL.v (V.assign rfl) rfl ?_
      refine WL.done ?_
      refine WS.blk ?_
      refine WS.region ?_
      refine WL.v (V.add rfl rfl (fits_i64 (by omega) (by omega))) rfl ?_
      refine WL.v (V.move rfl) rfl ?_
      refine WL.done ?_
      refine WS.keep [69, 68, 67, 10, 13, 14, 0, 1, 8, 12] rfl ?_
      refine WS.pick (2 :: 0 :: 4 :: 3 :: wk 3) rfl ?_
      refine ih ⟨(m + 1, es', gs'), by omega, ?_, ?_⟩ (by simp only; omega)
      · simp only; rw [hes', hes, htk1]; simp
      · simp only; rw [hgs', hgs, htk1]; simp
    · have hmi' : m = i := by omega
      subst hmi'
      clear ih
      have hes2 : es.xs = (k.view.raws k.x.sqb m).map entOf := by
        rw [hes, ← hraws, List.take_of_length_le (by omega)]; simp [Function.comp_def]
      have hgs2 : gs.xs = (k.view.raws k.x.sqb m).map isEntry := by
        rw [hgs, ← hraws, List.take_of_length_le (by omega)]; simp [Function.comp_def]
      refine WL.call (chain_Plan 4 (k.taken + 1) gs es (by omega) (by omega) (by omega)) [1, 0] rfl rfl rfl ?_
      rintro _ _ ⟨pl, hpl, rfl, rfl⟩
      refine WL.v (V.assign rfl) rfl ?_
      refine WL.done ?_
      refine WS.seq ?_
      refine WS.seq ?_
      refine WS.region ?_
      refine WL.v (V.move rfl) rfl ?_
      refine WL.v (V.lenSL rfl) rfl ?_
      refine WL.v (V.move rfl) rfl ?_
      refine WL.done ?_
      refine WS.block ?_
      rw [hrl', ← planV_zero pl]
      refine WS.keep [94, 93, 92, 14, 13, 12, 19, 0, 1, 8] rfl ?_
      rw [show k2.p = k.p from by rw [KW.p, KW.p, hx2]]
      generalize hrs : k.view.raws k.x.sqb m = rs at hraws hes2 hgs2
      have hrsl : rs.length = m := by rw [← hrs]; simp [AS.raws]
      have hpl2 : pl.xs = (List.range m).filterMap (planAt 4 (k.taken + 1) (rs.map isEntry) (rs.map entOf)) := by
        rw [hpl, planL, hesl, hes2, hgs2]
      refine WS.loop (ι := {p : Nat × Nat × KW // p.1 ≤ m ∧ p.2.2.x = k.x ∧ p.2.1 ≤ pl.xs.length ∧ pl.xs.drop p.2.1 = ((List.range m).drop p.1).filterMap (planAt 4 (k.taken + 1) (rs.map isEntry) (rs.map entOf))
          ∧ p.2.2.view = AS.takeFrom k.x.cqb (k.taken + 1) rs { k.view.adv m with taken := k.taken + m } p.1 ∧ p.2.2.view.over.length ≤ 1000 + p.1 ∧ p.2.2.view.J.length ≤ 1000 + p.1 ∧ p.2.2.view.L.length ≤ 4 + p.1
          ∧ ∀ q ∈ p.2.2.view.L, q.id.ring = 4 ∧ q.id.seq < k.taken + 1 + p.1})
        (fun p => [(94, I p.1.1), (93, I m), (92, row.val), (14, gs.val), (13, es.val), (12, I ((k.taken + 1 : Nat) : Int)), (19, planV pl p.1.2.1), (0, k.p), (1, I 4), (8, I m)])
        (fun p => [pl.ch 210, gs.ch 4, es.ch 25, row.ch 57, rawC raws] ++ p.1.2.2.chs) (fun p => m - p.1.1)
        ⟨(0, 0, k2), by
          refine ⟨by omega, hx2, by simp, by simp only [List.drop_zero]; exact hpl2, ?_, ?_, ?_, ?_, ?_⟩
          · simp only; rw [hv2]; rfl
          · simp only; rw [hv2]; exact ho
          · simp only; rw [hv2]; exact hj
          · simp only; rw [hv2]; exact hL
          · simp only; rw [hv2]; intro q hq; have := hring q hq; omega⟩ ?_
      rintro ⟨⟨c, j, k3⟩, hcm, hx3, hjl, hdrop, hv3, ho3, hj3, hL3, hq3⟩ X ih
      simp only at ih hcm hx3 hjl hdrop hv3 ho3 hj3 hL3 hq3 ⊢
      rw [show k.p = k3.p from by rw [KW.p, KW.p, hx3]]
      refine WS.seq ?_
      refine WS.region ?_
      refine WL.v (V.lt rfl rfl) rfl ?_
      refine WL.done ?_
      refine WS.seq ?_
      (refine WS.condD rfl ?_ ?_) <;> intro h_ <;> try (exfalso; omega)
      refine WS.skip ?_
      refine WS.seq ?_
      refine WS.block ?_
      refine WS.seq ?_
      refine WS.region ?_
      refine WL.v (V.move rfl) rfl ?_
      rotate_left
      refine WS.exit rfl ?_
      refine WS.seq ?_
      refine WS.region ?_
      refine WL.v (V.move rfl) rfl ?_
      refine WL.v (V.assign rfl) rfl ?_
      refine WL.done ?_
      rotate_left
      · have hclt : c < raws.length := by omega
        have hget : raws[c]? = some raws[c] := by simp
        have hgetr : row.xs[c]? = some raws[c] := by rw [hrow]; exact hget
        have hrsc : rs[c]? = some raws[c].xs := by rw [← hraws, List.getElem?_map, hget]; rfl
        generalize raws[c] = s at hget hgetr hrsc
        have hgg : gs.xs[c]? = some (isEntry s.xs) := by rw [hgs2, List.getElem?_map, hrsc]; rfl
        have hee : es.xs[c]? = some (entOf s.xs) := by rw [hes2, List.getElem?_map, hrsc]; rfl
        have hs32 : s.xs.length = 32 := by
          have hcm' : c < m := by omega
          rw [← hrs] at hrsc
          simp only [AS.raws, List.getElem?_map] at hrsc
          rw [List.getElem?_range (by omega)] at hrsc
          simp only [Option.map_some, Option.some.injEq] at hrsc
          rw [← hrsc]
          have h2 : (k.view.at_ 5).length = 512 := by rw [← k.at_view]; exact k.m.at_len 5 (by omega) (by omega)
          have h3 := k.r.sb3
          rw [k.hsb] at h3
          have h4 : 2 ^ k.x.sqb ≤ 8 := by
            have := Nat.pow_le_pow_right (n := 2) (by omega) h3
            simpa using this
          have h5 := Nat.mod_lt (k.view.hd + UInt32.ofNat c).toNat (Nat.two_pow_pos k.x.sqb)
          simp only [AS.raw, List.length_take, List.length_drop, h2]
          omega
        have hsc : s.xs = k.view.raw k.x.sqb c := by
          have hcm' : c < m := by omega
          rw [← hrs] at hrsc
          simp only [AS.raws, List.getElem?_map] at hrsc
          rw [List.getElem?_range (by omega)] at hrsc
          simp only [Option.map_some, Option.some.injEq] at hrsc
          exact hrsc.symm
        have hrc : (List.range m).drop c = c :: (List.range m).drop (c + 1) := by
          rw [List.drop_eq_getElem_cons (by simp; omega)]; simp
        have hgm : (rs.map isEntry)[c]? = some (isEntry s.xs) := by rw [List.getElem?_map, hrsc]; rfl
        have hem : (rs.map entOf)[c]? = some (entOf s.xs) := by rw [List.getElem?_map, hrsc]; rfl
        have hsum : (((k.taken + 1 : Nat) : Int) + (c : Int)) = ((k.taken + 1 + c : Nat) : Int) := by omega
        refine WL.v (V.indexSL rfl rfl (by constructor <;> omega)) rfl ?_
        refine WL.r (V.loadSL1 (enc := encRaw) 3 (i := c) (by simp only [Int.toNat_natCast]; rfl) rfl hgetr rfl) rfl ?_
        refine WL.v (V.assign rfl) rfl ?_
        refine WL.v (V.assign rfl) rfl ?_
        refine WL.done ?_
        refine WS.seq ?_
        refine WS.seq ?_
        refine WS.region ?_
        refine WL.v (V.move rfl) rfl ?_
        refine WL.v (V.move rfl) rfl ?_
        refine WL.v (V.indexSL rfl rfl (by constructor <;> omega)) rfl ?_
        refine WL.r (V.loadSL1 (enc := encB) 1 (i := c) (by simp only [Int.toNat_natCast]; rfl) rfl hgg rfl) rfl ?_
        cases hgood : isEntry s.xs
        · refine WL.v (V.not rfl) rfl ?_
          refine WL.done ?_
          refine WS.condT rfl ?_
          refine WS.seq ?_
          refine WS.region ?_
          refine WL.v (V.move rfl) rfl ?_
          refine WL.v (V.move rfl) rfl ?_
          refine WL.v (V.move rfl) rfl ?_
          refine WL.v (V.move rfl) rfl ?_
          refine WL.v (V.add rfl rfl (fits_i64 (by omega) (by omega))) rfl ?_
          refine WL.v (V.build rfl rfl rfl) rfl ?_
          refine WL.v (V.move rfl) rfl ?_
          rw [hsum]
          refine WL.call (Spec.raw raws c s hget (u32_SL s 4 (by omega) (by omega))) [4] rfl rfl rfl ?_
          rintro _ _ ⟨rfl, rfl⟩
          refine WL.v (V.build rfl rfl rfl) rfl ?_
          refine WL.callB (k3.Tell ⟨4, k.taken + 1 + c, u32At s.xs 4, 0, -1, 0, false⟩ rfl (by have : k3.r.over.xs.length ≤ 1000 + c := ho3; omega) (by have : k3.j.xs.length ≤ 1000 + c := hj3; omega)) (wk 5) rfl rfl rfl ?_
          rintro _ _ ⟨k4, hx4, hv4, rfl⟩
          refine WL.done ?_
          refine WS.exit rfl ?_
          refine WS.region ?_
          refine WL.v (V.add rfl rfl (fits_i64 (by omega) (by omega))) rfl ?_
          refine WL.v (V.move rfl) rfl ?_
          refine WL.done ?_
          refine WS.keep [94, 93, 92, 14, 13, 12, 19, 0, 1, 8] rfl ?_
          refine WS.pick (1 :: 1 :: 1 :: 1 :: 0 :: wk 0) rfl ?_
          rw [show k3.p = k.p from by rw [KW.p, KW.p, hx3]]
          have hr0 : rightAt (rs.map isEntry) (c : Int) = false := by simp [rightAt, hrsc, hgood]
          have hpo := AS.post_over k3.x.cqb { k3.view with J := k3.view.J ++ [⟨4, k.taken + 1 + c, u32At s.xs 4, 0, -1, 0, false⟩] } (Cqe.of ⟨4, k.taken + 1 + c, u32At s.xs 4, 0, -1, 0, false⟩)
          have hv4' : k4.view = AS.post k3.x.cqb { k3.view with J := k3.view.J ++ [⟨4, k.taken + 1 + c, u32At s.xs 4, 0, -1, 0, false⟩] } (Cqe.of ⟨4, k.taken + 1 + c, u32At s.xs 4, 0, -1, 0, false⟩) := hv4
          rw [← hv4'] at hpo
          obtain ⟨hp1, hp2, hp3⟩ := hpo
          simp only at hp1 hp2 hp3
          refine ih ⟨(c + 1, j, k4), by omega, hx4.trans hx3, hjl, ?_, ?_, ?_, ?_, ?_, ?_⟩ (by simp only; omega)
          · simp only; rw [hdrop, hrc, List.filterMap_cons_none (planAt_none hr0)]
          · simp only
            rw [takeFrom_succ, ← hv3, AS.tk1, planAt_none hr0]
            simp only
            rw [hv4, hx3]
            congr 3
            simp [hrsc]
          · simp only; omega
          · simp only; rw [hp3]; simp; omega
          · simp only; rw [hp2]; omega
          · simp only; rw [hp2]; intro q hq; have := hq3 q hq; omega
        · obtain ⟨r, hr1, hr2, hr3, hr4⟩ := planAt_some (ring := 4) (seq := k.taken + 1) hem (by simp [rightAt, hrsc, hgood] : rightAt (rs.map isEntry) (c : Int) = true)
          have hdr : pl.xs.drop j = r :: ((List.range m).drop (c + 1)).filterMap (planAt 4 (k.taken + 1) (rs.map isEntry) (rs.map entOf)) := by
            rw [hdrop, hrc, List.filterMap_cons_some hr1]
          have hjlt : j < pl.xs.length := by
            rcases Nat.lt_or_ge j pl.xs.length with h | h
            · exact h
            · rw [List.drop_of_length_le h] at hdr; simp at hdr
          have hrj : pl.xs[j]? = some r := by
            have := congrArg (fun l => l[0]?) hdr
            simpa using this
          obtain ⟨b, hb, hjc, hpv⟩ := planV_at pl j hjlt
          have hch : nthC 0 [pl.ch 210] = some (blk b 210 (flat encR pl.xs ++ pl.junk)) := by simp only [nthC, SL.ch, hb]
          have hgr : getN (j * 13 + (0 : Int).toNat * 13) 13 (flat encR pl.xs ++ pl.junk) = some (encR r) := by
            have := flat_get (enc := encR) (sz := 13) pl.xs pl.junk j r hrj
            simpa using this
          have hdead : (entOf s.xs).noDead = true := by
            have : entOf s.xs = Sqe.parse s.xs := by simp [entOf, hgood]
            rw [this, hsc]
            exact hnd c (by omega) (by rw [← hsc]; exact hgood)
          rw [hpv]
          refine WL.v (V.not rfl) rfl ?_
          refine WL.done ?_
          refine WS.condF rfl ?_
          refine WS.skip ?_
          refine WS.seq ?_
          refine WS.regionK [0] rfl Tryz.mixed rfl ?_
          refine WH.pick rfl ?_
          refine WHT.v (V.move rfl) rfl rfl rfl rfl ?_
          refine WH.pick rfl ?_
          refine WHT.v (V.move rfl) rfl rfl rfl rfl ?_
          refine WH.pick rfl ?_
          refine WHT.v (V.indexAddr rfl rfl (by constructor <;> omega)) rfl rfl rfl rfl ?_
          refine WH.pick rfl ?_
          refine WHT.rh (V.loadN 0 rfl hch hgr) rfl (by simp) rfl rfl rfl rfl ?_
          refine WH.big rfl rfl rfl ?_; intro _ _
          refine WL.callB k3.Reqs (wk 5) rfl rfl rfl ?_
          rintro _ _ ⟨rfl, rfl⟩
          refine WL.nextH (ok := by assumption) (hns := by assumption) (by simp) ?_
          refine WH.big rfl rfl rfl ?_; intro _ _
          refine WL.callB (k3.Add r ?_ ?_ ?_ ?_) (wk 5) rfl rfl rfl ?_
          · unfold RT.find
            rw [List.find?_eq_none]
            intro q hq
            have := hq3 q hq
            simp only [decide_eq_true_eq]
            intro e
            rw [e, hr2] at this
            have h2 : k.taken + 1 + c < k.taken + 1 + c := this.2
            omega
          · intro q hq _
            have := hq3 q hq
            rw [hr2]
            exact this.2
          · exact Nat.le_trans (List.length_filter_le _ _) (by have : k3.t.L.length ≤ 4 + c := hL3; omega)
          · have : k3.t.L.length ≤ 4 + c := hL3; omega
          rintro _ _ ⟨t', ht', rfl, rfl⟩
          generalize hk4 : ({ k3 with t := t' } : KW) = k4
          have hx4 : k4.x = k3.x := by rw [← hk4]
          have hv4 : k4.view = { k3.view with L := k3.view.L ++ [r] } := by rw [← hk4]; simp only [KW.view, ht']
          rw [show k3.p = k4.p from by rw [KW.p, KW.p, hx4]]
          refine WL.nextH (ok := by assumption) (hns := by assumption) (by simp) ?_
          refine WH.done ?_
          refine WS.seq ?_
          refine WS.seq ?_
          refine WS.regionK [2] rfl Tryz.mixed rfl ?_
          refine WH.pick rfl ?_
          refine WHT.v (V.move rfl) rfl rfl rfl rfl ?_
          refine WH.pick rfl ?_
          refine WHT.v (V.move rfl) rfl rfl rfl rfl ?_
          refine WH.pick rfl ?_
          refine WHT.v (V.indexSL rfl rfl (by constructor <;> omega)) rfl rfl rfl rfl ?_
          refine WH.pick rfl ?_
          refine WHT.rh (V.loadSL (enc := encS) 0 (i := c) (by simp only [Int.toNat_natCast]; rfl) rfl hee) rfl (by simp) rfl rfl rfl rfl ?_
          refine WH.pick rfl ?_
          refine WHT.v (V.move rfl) rfl rfl rfl rfl ?_
          refine WH.big rfl rfl rfl ?_; intro _ _
          refine WL.callB k4.Now (wk 5) rfl rfl rfl ?_
          rintro _ _ ⟨rfl, rfl⟩
          refine WL.nextH (ok := by assumption) (hns := by assumption) (by simp) ?_
          refine WH.big rfl rfl rfl ?_; intro _ _
          refine WL.callB (entry_Deadline_no (entOf s.xs) _ hdead) [] rfl rfl rfl ?_
          rintro _ _ ⟨rfl, rfl⟩
          refine WL.nextH (ok := by assumption) (hns := by assumption) (by simp) ?_
          refine WH.pick rfl ?_
          refine WHT.v (V.move rfl) rfl rfl rfl rfl ?_
          refine WH.pick rfl ?_
          refine WHT.v (V.extractL rfl rfl) rfl rfl rfl rfl ?_
          refine WH.pick rfl ?_
          refine WHT.v (V.extractL rfl rfl) rfl rfl rfl rfl ?_
          refine WH.pick rfl ?_
          refine WHT.v (V.assign rfl) rfl rfl rfl rfl ?_
          refine WH.pick rfl ?_
          refine WHT.v (V.assign rfl) rfl rfl rfl rfl ?_
          refine WH.done ?_
          refine WS.seq ?_
          refine WS.region ?_
          refine WL.v (V.move rfl) rfl ?_
          refine WL.done ?_
          refine WS.condF rfl ?_
          refine WS.skip ?_
          refine WS.region ?_
          refine WL.v (V.move rfl) rfl ?_
          refine WL.v (V.slice (i := 1) (j := pl.xs.length - j) rfl ⟨_, 1, rfl, by omega, rfl⟩ rfl (by omega) (by have := pl.fit (by rw [hb]; simp); omega)) rfl ?_
          rw [planV_next pl j b hb hjc]
          refine WL.v (V.assign rfl) rfl ?_
          refine WL.done ?_
          refine WS.blk ?_
          refine WS.region ?_
          refine WL.v (V.add rfl rfl (fits_i64 (by omega) (by omega))) rfl ?_
          refine WL.v (V.move rfl) rfl ?_
          refine WL.done ?_
          refine WS.keep [94, 93, 92, 14, 13, 12, 19, 0, 1, 8] rfl ?_
          rw [show k4.p = k.p from by rw [KW.p, KW.p, hx4, hx3]]
          refine ih ⟨(c + 1, j + 1, k4), by omega, hx4.trans hx3, by simp only; omega, ?_, ?_, ?_, ?_, ?_, ?_⟩ (by simp only; omega)
          · simp only
            have := congrArg List.tail hdr
            simpa [List.tail_drop] using this
          · simp only
            rw [takeFrom_succ, ← hv3, AS.tk1, hr1]
            simp only
            rw [hv4]
          · simp only; rw [hv4]; simp only; omega
          · simp only; rw [hv4]; simp only; omega
          · simp only; rw [hv4]; simp only [List.length_append, List.length_singleton]; omega
          · simp only; rw [hv4]; intro q hq
            simp only [List.mem_append, List.mem_singleton] at hq
            rcases hq with hq | rfl
            · have := hq3 q hq; omega
            · rw [hr2]; exact ⟨rfl, by simp only; omega⟩
      · have hcm' : c = m := by omega
        subst hcm'
        refine WS.pick (wk 5) rfl ?_
        refine WS.ret rfl ?_
        refine ⟨k3, hx3, ?_, rfl, rfl⟩
        rw [hv3]
        simp only [AS.take, hn, hrs]
        rfl
end Go.Proofs
