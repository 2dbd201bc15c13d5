/- Part of the proof: P12. -/
import Derived.Test.YtjdjialgjmphjaaGreatPD
set_option linter.all false
namespace Go.Proofs
open Go Go.Sep

/-- an entry of a chain: kk says whether it fails, and how the next hangs on it -/
def chainE (kk i : Nat) : Sqe := ⟨if kk % 2 = 1 then 20 else 1, ((kk / 2 : Nat) : Int), UInt32.ofNat i, 0, if kk % 2 = 1 then 999 else 0, 0, 0, 0⟩

theorem six {kk : Nat} (h : kk < 6) : kk = 0 ∨ kk = 1 ∨ kk = 2 ∨ kk = 3 ∨ kk = 4 ∨ kk = 5 := by omega
theorem and_b (p q : Nat) (m : Nat) (h : BitVec.ofInt 64 (p : Int) &&& BitVec.ofInt 64 (q : Int) = BitVec.ofNat 64 m) (hm : m < 1000) : bitsOf .and .i64 (p : Int) (q : Int) = m := and_eq _ _ m h hm

theorem chain_ok (kk i : Nat) (h : kk < 6) : (chainE kk i).ok = true := by
  rcases six h with rfl | rfl | rfl | rfl | rfl | rfl
  · unfold Sqe.ok
    rw [show (chainE 0 i).flags = 0 from rfl, show (chainE 0 i).op = 1 from rfl, and_eq 0 3 0 (by decide) (by omega)]; rfl
  · unfold Sqe.ok
    rw [show (chainE 1 i).flags = 0 from rfl, show (chainE 1 i).op = 20 from rfl, and_eq 0 3 0 (by decide) (by omega)]; rfl
  · unfold Sqe.ok
    rw [show (chainE 2 i).flags = 1 from rfl, show (chainE 2 i).op = 1 from rfl, and_eq 1 3 1 (by decide) (by omega)]; rfl
  · unfold Sqe.ok
    rw [show (chainE 3 i).flags = 1 from rfl, show (chainE 3 i).op = 20 from rfl, and_eq 1 3 1 (by decide) (by omega)]; rfl
  · unfold Sqe.ok
    rw [show (chainE 4 i).flags = 2 from rfl, show (chainE 4 i).op = 1 from rfl, and_eq 2 3 2 (by decide) (by omega)]; rfl
  · unfold Sqe.ok
    rw [show (chainE 5 i).flags = 2 from rfl, show (chainE 5 i).op = 20 from rfl, and_eq 2 3 2 (by decide) (by omega)]; rfl

theorem chain_fl (kk i : Nat) (h : kk < 6) : (chainE kk i).flags = 0 ∨ (chainE kk i).flags = 1 ∨ (chainE kk i).flags = 2 := by
  rcases six h with rfl | rfl | rfl | rfl | rfl | rfl
  all_goals simp [chainE]

theorem chain_drain (kk i : Nat) (h : kk < 6) : noDrain (chainE kk i).flags = true := by
  unfold noDrain
  rcases chain_fl kk i h with e | e | e
  · rw [e, and_eq 0 4 0 (by decide) (by omega)]; rfl
  · rw [e, and_eq 1 4 0 (by decide) (by omega)]; rfl
  · rw [e, and_eq 2 4 0 (by decide) (by omega)]; rfl
theorem chain_dead (kk i : Nat) (h : kk < 6) : (chainE kk i).noDead = true := by
  unfold Sqe.noDead
  rcases chain_fl kk i h with e | e | e
  · rw [e, and_eq 0 8 0 (by decide) (by omega)]; rfl
  · rw [e, and_eq 1 8 0 (by decide) (by omega)]; rfl
  · rw [e, and_eq 2 8 0 (by decide) (by omega)]; rfl

/-- what each comes to -/
def chRes (ks : Nat → Nat) : Nat → Int
  | 0 => if ks 0 % 2 = 1 then -11 else 0
  | k + 1 => if ks k / 2 = 1 ∧ chRes ks k < 0 then -9 else if ks (k + 1) % 2 = 1 then -11 else 0

/-- the request -/
def chR (ks : Nat → Nat) (k : Nat) : Req :=
  ⟨⟨4, 1 + k⟩, chainE (ks k) k, if 1 ≤ k ∧ ks (k - 1) / 2 ≠ 0 then k else 0, decide (1 ≤ k ∧ ks (k - 1) / 2 = 1), false⟩

theorem chR_act (ks : Nat → Nat) (k : Nat) : actRes (chR ks k) = if ks k % 2 = 1 then -11 else 0 := by
  unfold actRes chR chainE
  simp only
  by_cases h : ks k % 2 = 1
  · simp [h]
  · simp [h]

theorem outs_chain (ks : Nat → Nat) : ∀ (m k : Nat), outs k (match k with | 0 => 0 | q + 1 => chRes ks q) ((List.range' k m).map (chR ks)) = (List.range' k m).map (fun j => dd (chR ks j) (chRes ks j))
  | 0, _ => rfl
  | m + 1, k => by
    rw [List.range'_succ, List.map_cons, List.map_cons]
    simp only [outs]
    have hres : (if (chR ks k).prev = k ∧ (chR ks k).soft = true ∧ (match k with | 0 => (0 : Int) | q + 1 => chRes ks q) < 0 then (-9 : Int) else actRes (chR ks k)) = chRes ks k := by
      rw [chR_act]
      cases k with
      | zero => rw [if_neg (by simp [chR])]; rfl
      | succ q =>
        simp only [chRes]
        by_cases h : ks q / 2 = 1 ∧ chRes ks q < 0
        · rw [if_pos h, if_pos ⟨by simp only [chR]; rw [if_pos ⟨by omega, by simp only [Nat.add_sub_cancel]; omega⟩], by simp [chR, h.1], h.2⟩]
        · rw [if_neg h, if_neg (fun e => h ⟨by have := e.2.1; simp [chR] at this; exact this, e.2.2⟩)]
    rw [hres]
    have hs : (chR ks k).id.seq = k + 1 := by simp only [chR]; omega
    rw [hs]
    congr 1
    exact outs_chain ks m (k + 1)

structure ChainOut (ks : Nat → Nat) (n : Nat) (a' : AS) : Prop where
  L : a'.L = []
  J : a'.J = (List.range n).map (fun j => dd (chR ks j) (chRes ks j))

theorem ChainOut.jl {ks : Nat → Nat} {n : Nat} {a' : AS} (h : ChainOut ks n a') : a'.J.length = n := by rw [h.J]; simp
theorem ChainOut.get {ks : Nat → Nat} {n : Nat} {a' : AS} (h : ChainOut ks n a') {i : Nat} (hi : i < n) : a'.J[i]? = some (dd (chR ks i) (chRes ks i)) := by
  rw [h.J, List.getElem?_map, List.getElem?_range hi]; rfl
theorem ChainOut.at_ {ks : Nat → Nat} {n : Nat} {a' : AS} (h : ChainOut ks n a') {i : Nat} (hi : i < n) : atD a'.J ⟨4, i + 1⟩ = some i := by
  obtain ⟨k, d, h1, h2, h3, _, h5⟩ := atD_of (J := a'.J) (id := ⟨4, i + 1⟩) ⟨_, List.mem_of_getElem? (h.get hi), rfl, by simp only [dd, chR]; omega⟩
  have hk : k < n := by
    have := (List.getElem?_eq_some_iff.1 h2).1
    rw [h.jl] at this; exact this
  rw [h.get hk] at h2
  simp only [Option.some.injEq] at h2
  rw [← h2] at h5
  simp only [dd, chR] at h5
  rw [h1]
  congr 1
  omega

section
variable {ks : Nat → Nat} {n : Nat} {a a' : AS}

def chEs (ks : Nat → Nat) (n : Nat) : List Sqe := (List.range n).map (fun i => chainE (ks i) i)

theorem chain_raw (h : Rdy a (chEs ks n) 4) (hk : ∀ i, ks i < 6) (i : Nat) (hi : i < n) : isEntry (a.raw 3 i) = true ∧ entOf (a.raw 3 i) = chainE (ks i) i ∧ Sqe.parse (a.raw 3 i) = chainE (ks i) i :=
  entOf_bytes _ _ (chain_ok _ _ (hk i)) (h.raw i (by simpa [chEs] using hi) _ (by simp only [chEs]; rw [List.getElem?_map, List.getElem?_range hi]; rfl))

theorem chain_in (h : Rdy a (chEs ks n) 4) (hk : ∀ i, ks i < 6) (hn : n ≤ 8) (b : Int) : EIn 3 4 b a n 16 := by
  refine ⟨h.wf, h.over, h.L, by rw [h.wait]; simp [chEs], hn, h.room, by omega, by rw [h.tk0]; omega, by rw [h.J0]; simp, ?_⟩
  intro i hi _
  obtain ⟨_, h2, h3⟩ := chain_raw h hk i hi
  rw [h2, h3]
  refine ⟨chain_drain _ _ (hk i), chain_dead _ _ (hk i), ?_⟩
  by_cases ho : ks i % 2 = 1
  · right
    refine ⟨by simp [chainE, ho], fun j hj => ?_⟩
    rw [(chain_raw h hk j hj).2.1]
    simp only [chainE, if_pos ho]
    intro e
    have e2 := congrArg UInt32.toNat e
    simp at e2
    omega
  · left
    simp [chainE, ho]

theorem chain_at (h : Rdy a (chEs ks n) 4) (hk : ∀ i, ks i < 6) (k : Nat) (hkn : k < n) : planAt 4 (a.taken + 1) (a.goods 3 n) (a.ents 3 n) k = some (chR ks k) := by
  have hg : ∀ j, j < n → (a.goods 3 n)[j]? = some true := fun j hj => by rw [goods_get 3 a n j hj, (chain_raw h hk j hj).1]
  have he : ∀ j, j < n → (a.ents 3 n)[j]? = some (chainE (ks j) j) := fun j hj => by rw [ents_get 3 a n j hj, (chain_raw h hk j hj).2.1]
  have hr : ∀ j, j < n → rightAt (a.goods 3 n) ((j : Nat) : Int) = true := fun j hj => by
    unfold rightAt
    rw [Int.toNat_natCast, hg j hj]
    simp
  unfold planAt
  rw [he k hkn]
  simp only
  rw [hr k hkn, h.tk0]
  simp only
  cases k with
  | zero =>
    rw [show rightAt (a.goods 3 n) (((0 : Nat) : Int) - 1) = false from by unfold rightAt; simp]
    simp [chR]
  | succ q =>
    rw [show (((q + 1 : Nat) : Int) - 1) = ((q : Nat) : Int) from by omega, hr q (by omega)]
    simp only [Nat.add_sub_cancel]
    rw [he q (by omega)]
    simp only [Option.map_some, Option.getD_some]
    unfold chR
    simp only [Nat.add_sub_cancel]
    rcases six (hk q) with e | e | e | e | e | e
    all_goals simp only [chainE, e]
    · rw [show (((0 / 2 : Nat)) : Int) = 0 from rfl, and_eq 0 3 0 (by decide) (by omega), and_eq 0 1 0 (by decide) (by omega)]; simp
    · rw [show (((1 / 2 : Nat)) : Int) = 0 from rfl, and_eq 0 3 0 (by decide) (by omega), and_eq 0 1 0 (by decide) (by omega)]; simp
    · rw [show (((2 / 2 : Nat)) : Int) = 1 from rfl, and_eq 1 3 1 (by decide) (by omega), and_eq 1 1 1 (by decide) (by omega)]; simp
    · rw [show (((3 / 2 : Nat)) : Int) = 1 from rfl, and_eq 1 3 1 (by decide) (by omega), and_eq 1 1 1 (by decide) (by omega)]; simp
    · rw [show (((4 / 2 : Nat)) : Int) = 2 from rfl, and_eq 2 3 2 (by decide) (by omega), and_eq 2 1 0 (by decide) (by omega)]; simp
    · rw [show (((5 / 2 : Nat)) : Int) = 2 from rfl, and_eq 2 3 2 (by decide) (by omega), and_eq 2 1 0 (by decide) (by omega)]; simp

theorem filterMap_all {α β : Type} {f : α → Option β} {g : α → β} : ∀ (l : List α), (∀ x ∈ l, f x = some (g x)) → l.filterMap f = l.map g
  | [], _ => rfl
  | x :: l, h => by
    rw [List.filterMap_cons_some (h x (by simp)), List.map_cons, filterMap_all l (fun y hy => h y (by simp [hy]))]

theorem chain_out (h : Rdy a (chEs ks n) 4) (hk : ∀ i, ks i < 6) (o : EOut 3 4 a n 16 (a.bad 3 n ++ outs 0 0 (a.plan 3 n)) a') : ChainOut ks n a' := by
  refine ⟨o.L, ?_⟩
  rw [o.J, h.J0]
  have hp : a.plan 3 n = (List.range' 0 n).map (chR ks) := by
    rw [← List.range_eq_range']
    unfold AS.plan planL
    exact filterMap_all _ (fun k hkn => chain_at h hk k (List.mem_range.1 hkn))
  have hb : a.bad 3 n = [] := by
    unfold AS.bad bads
    rw [List.filterMap_eq_nil_iff]
    intro k hkn
    have := chain_at h hk k (List.mem_range.1 hkn)
    unfold AS.goods AS.ents at this
    rw [this]
  rw [hb, hp, List.nil_append, List.nil_append]
  have := outs_chain ks n 0
  simp only at this
  rw [this, List.range_eq_range']
end
end Go.Proofs
