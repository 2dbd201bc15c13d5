/- For every slice of truth values the law EnterMixed returns true, and its argument reads as it did. No condition. -/
import Derived.Test.YtjdjialgjmphjaaGreatRows
import Derived.Test.YtjdjialgjmphjaaGreatS7
import Derived.Deep.Grids
import Derived.Test.YtjdjialgjmphjaaGreatW36
import Derived.Test.YtjdjialgjmphjaaGreatFactA
import Derived.Test.YtjdjialgjmphjaaGreatFactB
import Derived.Test.YtjdjialgjmphjaaGreatFactC
import Derived.Test.YtjdjialgjmphjaaGreatFact36a
import Derived.Test.YtjdjialgjmphjaaGreatFact36b
set_option linter.all false
namespace Go.Proofs.YtjdjialgjmphjaaGreat.enterMixedDone
open Go Go.Sep
open Go.ChangeShapes Go.WideShapes Go.ChangeAt Go.RowKit

theorem own : ownKnob Tryz.prog.godebug = none := by kernel_rfl

/-- a slice of truth values that came in: it is nil; or it leads to a row of them -/
def IsRowB (w : World) (a : Option Addr) (len cap : Nat) (zs : Nat → Bool) : Prop :=
  (a = none ∧ len = 0 ∧ cap = 0) ∨
  ∃ x, a = some x ∧ len ≤ cap ∧ cap ≤ maxLen ∧ ∀ i, i < cap → w.cell? (x.add i) = some (.bool (zs i))

theorem IsRowB.arg {w : World} {a : Option Addr} {len cap : Nat} {zs : Nat → Bool} (h : IsRowB w a len cap zs) :
    ∃ ch : Chunk, ArgB a len cap ch zs ∧ Has w [ch] ∧ (([ch] : List Chunk).flatten.map Prod.fst).Nodup := by
  rcases h with ⟨rfl, rfl, rfl⟩ | ⟨x, rfl, hl, hm, hcell⟩
  · exact ⟨[], ⟨fun _ => rfl, fun h => by omega⟩, fun x hx => by simp at hx, by simp⟩
  · by_cases h0 : len = 0
    · exact ⟨[], ⟨fun h => by simp at h, fun h => by omega⟩, fun x hx => by simp at hx, by simp⟩
    · obtain ⟨b, o, s⟩ := x
      have hc0 := hcell 0 (by omega)
      have hsp : s = none ∧ ∃ c T fr, w.heap[b]? = some (.cells c T fr) := by
        have : (⟨b, o, s⟩ : Addr).add 0 = ⟨b, o, s⟩ := by
          unfold Addr.add; simp
        rw [this] at hc0
        obtain ⟨h1, c, T, fr, h2, _⟩ := cell?_cells hc0
        exact ⟨h1, c, T, fr, h2⟩
      obtain ⟨rfl, c, T, fr, hb⟩ := hsp
      refine ⟨[(b, .cells c T fr)], ⟨fun h => by simp at h, fun _ => ⟨b, o, c, T, fr, rfl, rfl, ?_⟩⟩, ?_, by simp⟩
      · intro i hi
        have hci := hcell i (by omega)
        rw [addr_add] at hci
        obtain ⟨_, c', T', fr', hb', hv⟩ := cell?_cells hci
        rw [hb] at hb'
        simp only [Option.some.injEq, Obj.cells.injEq] at hb'
        rw [hb'.1]; exact hv
      · intro x hx
        simp at hx
        subst hx
        exact hb

theorem walk (a0 : Option Addr) (len0 cap0 : Nat) (z0 : Nat → Bool) (w : World) (w0 : IsRowB w a0 len0 cap0 z0) :
    Calls Tryz.prog 4 #[.slice a0 len0 cap0] w fun e w' => e = .returned (.bool true) ∧ Below w.heap.size w w' := by
  obtain ⟨ch, h1, h2, h3⟩ := w0.arg
  exact (Go.Proofs.law_EnterMixed a0 len0 cap0 ch _ h1).law w h3 h2

set_option maxRecDepth 100000 in
theorem lifted (os : Os) (started : os.Started) (H : Type) (enc : TypeId × Value → H) :
    ReturnsInHanded {} Tryz.checked os 4 .any (Rows.enterMixedSpec.pre6 enc Tryz.prog Tryz.f4 Rows.enterMixedRow.domain false) (Rows.enterMixedSpec.post enc Tryz.prog Tryz.f4 false true false false) := by
  refine returnsInHanded_of_change (C := Tryz.checked) own started (by kernel_rfl) Tryz.func4
    (ChangeSpec.witness6 (enc := enc) (C := Tryz.checked) false ⟨#[], #[.slice none 0 0], []⟩ 8 (by kernel_rfl) (by kernel_rfl) (by kernel_rfl) (by kernel_rfl)) ?_
  intro W base args ds gs before hval0 hW hcnd _
  have hval : ∀ (j : Nat) t v, Tryz.f4.params[j]? = some t → args[j]? = some v → Value.okWide Tryz.prog W .any base t v := hval0
  have hW' := hW
  obtain ⟨p, q, hA0, hV, rfl, hfz, hnd⟩ := hW
  have hA : DataW.TrodAll enc Tryz.prog W 0 (fun _ => true) true Tryz.f4.params.toList args.toList ds p := hA0
  rw [Tryz.params4] at hA hval
  obtain ⟨v0, vs0, d0, ds0, p0, q0, hargs, rfl, rfl, h0, r0⟩ := trodAll_cons hA
  obtain ⟨rfl, rfl, rfl⟩ := trodAll_nil r0
  obtain rfl : args = #[v0] := by cases args; simp_all
  obtain ⟨rfl, rfl⟩ := trodVars_none hV
  obtain ⟨a0, len0, cap0, rfl⟩ := okWide_slice Tryz.underlying55 (hval 0 55 v0 rfl rfl)
  have k0 := h0
  have lt0 : ∀ x ∈ p0, x.block < W.heap.size := by obtain ⟨m, hm⟩ := k0; exact DataW.trod_lt m _ _ _ hm
  obtain ⟨z0, w0⟩ : ∃ zs, IsRowB W a0 len0 cap0 zs := by
    obtain ⟨fuel, hf⟩ := h0
    rcases Go.Deep.open_bools Tryz.underlying55 Tryz.underlying4 (by kernel_rfl) hf with ⟨hcs, _⟩ | ⟨x, l, c, zs, hcs, _, hl, hm, _, hcell⟩
    · simp [Value.cells] at hcs
      obtain ⟨rfl, rfl, rfl⟩ := hcs
      exact ⟨fun _ => false, .inl ⟨rfl, rfl, rfl⟩⟩
    · simp [Value.cells] at hcs
      obtain ⟨rfl, rfl, rfl⟩ := hcs
      exact ⟨zs, .inr ⟨_, rfl, hl, hm, hcell⟩⟩
  clear hA0 hval0
  refine (walk a0 len0 cap0 z0 W w0).mono fun e W' ⟨he, bel⟩ => ?_
  subst he
  exact ⟨_, rfl, _, _, _, [], _, [], hW', trodAll_mk1 (shut_bool Tryz.underlying4 _), (trodAll_cons_mk (Below.trod laidOut (by kernel_rfl) (of_decide_eq_true (by kernel_rfl)) k0 bel lt0) trodAll_mk0), rfl, bel.frame _, fun h => by cases h⟩

theorem closed : joinedFacts Tryz.prog 4 Tryz.f4 Rows.enterMixedSpec Rows.enterMixedRow = true :=
  joined_of (by kernel_rfl) laidOut rowed (by kernel_rfl) (by kernel_rfl) (by kernel_rfl) stops (by kernel_rfl) stopKnobs enterMixed_k9 enterMixed_k10 enterMixed_k11 enterMixed_k12 (by kernel_rfl) (by kernel_rfl) (by kernel_rfl) (by kernel_rfl) (by kernel_rfl) (by kernel_rfl) (by kernel_rfl) (by kernel_rfl) (by kernel_rfl) (by rw [plainKeys]; kernel_rfl) (by kernel_rfl) stopsHeard entered (by rw [liftsFinal]; kernel_rfl) (by rw [make]; kernel_rfl) (by kernel_rfl) (by kernel_rfl) (by kernel_rfl) (by kernel_rfl)

theorem wraps : Tryz.f4.isWrapper Tryz.prog Rows.enterMixedRow.wrapper Rows.enterMixedRow.mainSum := by
  unfold Func.isWrapper; first | (rw [if_pos (by decide +kernel)]; kernel_rfl) | (rw [if_neg (by decide +kernel)]; exact ⟨rfl, rfl⟩)

theorem inst : Tryz.f4.isInstance Tryz.prog Rows.enterMixedRow.origin Rows.enterMixedRow.targs := of_decide_eq_true (by kernel_rfl)

theorem over : Rows.enterMixedRow.holds Tryz.pinned (OpenSpec.ofChange Rows.enterMixedSpec) :=
  OpenClaim.holds_of_wide 4 Tryz.f4 rfl rfl rfl rfl rfl rfl rfl ⟨rfl, rfl, rfl, rfl, rfl⟩ rfl rfl rfl rfl rfl enterMixed_fn Tryz.func4 closed inst wraps
    (fun os started H enc _ => lifted os started H enc)

theorem proved : Rows.EnterMixedSaid := over
end Go.Proofs.YtjdjialgjmphjaaGreat.enterMixedDone
