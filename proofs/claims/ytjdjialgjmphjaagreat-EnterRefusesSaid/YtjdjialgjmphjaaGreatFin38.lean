/- For every tail, every head and every budget the law EnterRefuses returns true, and its arguments read as they did. No condition. -/
import Derived.Test.YtjdjialgjmphjaaGreatRows
import Derived.Test.YtjdjialgjmphjaaGreatS7
import Derived.Test.YtjdjialgjmphjaaGreatW38
import Derived.Test.YtjdjialgjmphjaaGreatFactA
import Derived.Test.YtjdjialgjmphjaaGreatFactB
import Derived.Test.YtjdjialgjmphjaaGreatFactC
import Derived.Test.YtjdjialgjmphjaaGreatFact38a
import Derived.Test.YtjdjialgjmphjaaGreatFact38b
set_option linter.all false
namespace Go.Proofs.YtjdjialgjmphjaaGreat.enterRefusesDone
open Go Go.Sep
open Go.ChangeShapes Go.WideShapes Go.ChangeAt Go.RowKit

theorem own : ownKnob Tryz.prog.godebug = none := by kernel_rfl

theorem u32_of (a : Int) (w : (Lit.int .u32 a).wf = true) : ∃ t : UInt32, a = ((t.toNat : Nat) : Int) := by
  have h : 0 ≤ a ∧ a < 4294967296 := by
    simp [Lit.wf, IntKind.min, IntKind.max, IntKind.bits, IntKind.signed] at w
    omega
  refine ⟨UInt32.ofNat a.toNat, ?_⟩
  rw [UInt32.toNat_ofNat']
  omega

theorem walk (a0 : Int) (a1 : Int) (a2 : Int) (w0 : (Lit.int .u32 a0).wf = true) (w1 : (Lit.int .u32 a1).wf = true) (w : World) :
    Calls Tryz.prog 8 #[.int .u32 a0, .int .u32 a1, .int .i64 a2] w fun e w' => e = .returned (.bool true) ∧ Below w.heap.size w w' := by
  obtain ⟨t, rfl⟩ := u32_of a0 w0
  obtain ⟨h, rfl⟩ := u32_of a1 w1
  exact (Go.Proofs.law_EnterRefuses t h a2).law w (by simp) (fun x hx => by simp at hx)

set_option maxRecDepth 100000 in
theorem lifted (os : Os) (started : os.Started) (H : Type) (enc : TypeId × Value → H) :
    ReturnsInHanded {} Tryz.checked os 8 .any (Rows.enterRefusesSpec.pre6 enc Tryz.prog Tryz.f8 Rows.enterRefusesRow.domain false) (Rows.enterRefusesSpec.post enc Tryz.prog Tryz.f8 false true false false) := by
  refine returnsInHanded_of_change (C := Tryz.checked) own started (by kernel_rfl) Tryz.func8
    (ChangeSpec.witness6 (enc := enc) (C := Tryz.checked) false ⟨#[], #[.int .u32 0, .int .u32 0, .int .i64 0], []⟩ 8 (by kernel_rfl) (by kernel_rfl) (by kernel_rfl) (by kernel_rfl)) ?_
  intro W base args ds gs before hval0 hW hcnd _
  have hval : ∀ (j : Nat) t v, Tryz.f8.params[j]? = some t → args[j]? = some v → Value.okWide Tryz.prog W .any base t v := hval0
  have hW' := hW
  obtain ⟨p, q, hA0, hV, rfl, hfz, hnd⟩ := hW
  have hA : DataW.TrodAll enc Tryz.prog W 0 (fun _ => true) true Tryz.f8.params.toList args.toList ds p := hA0
  rw [Tryz.params8] at hA hval
  obtain ⟨v0, vs0, d0, ds0, p0, q0, hargs, rfl, rfl, h0, r0⟩ := trodAll_cons hA
  obtain ⟨v1, vs1, d1, ds1, p1, q1, rfl, rfl, rfl, h1, r1⟩ := trodAll_cons r0
  obtain ⟨v2, vs2, d2, ds2, p2, q2, rfl, rfl, rfl, h2, r2⟩ := trodAll_cons r1
  obtain ⟨rfl, rfl, rfl⟩ := trodAll_nil r2
  obtain rfl : args = #[v0, v1, v2] := by cases args; simp_all
  obtain ⟨rfl, rfl⟩ := trodVars_none hV
  obtain ⟨a0, rfl, rfl, rfl, w0⟩ := open_int Tryz.underlying23 (hval 0 23 v0 rfl rfl) h0
  obtain ⟨a1, rfl, rfl, rfl, w1⟩ := open_int Tryz.underlying23 (hval 1 23 v1 rfl rfl) h1
  obtain ⟨a2, rfl, rfl, rfl, w2⟩ := open_int Tryz.underlying3 (hval 2 3 v2 rfl rfl) h2
  clear hA0 hval0
  refine (walk a0 a1 a2 w0 w1 W).mono fun e W' ⟨he, bel⟩ => ?_
  subst he
  exact ⟨_, rfl, _, _, _, [], _, [], hW', trodAll_mk1 (shut_bool Tryz.underlying4 _), (trodAll_cons_mk (shut_int Tryz.underlying23 w0) (trodAll_cons_mk (shut_int Tryz.underlying23 w1) (trodAll_cons_mk (shut_int Tryz.underlying3 w2) trodAll_mk0))), rfl, bel.frame _, fun h => by cases h⟩

theorem closed : joinedFacts Tryz.prog 8 Tryz.f8 Rows.enterRefusesSpec Rows.enterRefusesRow = true :=
  joined_of (by kernel_rfl) laidOut rowed (by kernel_rfl) (by kernel_rfl) (by kernel_rfl) stops (by kernel_rfl) stopKnobs enterRefuses_k9 enterRefuses_k10 enterRefuses_k11 enterRefuses_k12 (by kernel_rfl) (by kernel_rfl) (by kernel_rfl) (by kernel_rfl) (by kernel_rfl) (by kernel_rfl) (by kernel_rfl) (by kernel_rfl) (by kernel_rfl) (by rw [plainKeys]; kernel_rfl) (by kernel_rfl) stopsHeard entered (by rw [liftsFinal]; kernel_rfl) (by rw [make]; kernel_rfl) (by kernel_rfl) (by kernel_rfl) (by kernel_rfl) (by kernel_rfl)

theorem wraps : Tryz.f8.isWrapper Tryz.prog Rows.enterRefusesRow.wrapper Rows.enterRefusesRow.mainSum := by
  unfold Func.isWrapper; first | (rw [if_pos (by decide +kernel)]; kernel_rfl) | (rw [if_neg (by decide +kernel)]; exact ⟨rfl, rfl⟩)

theorem inst : Tryz.f8.isInstance Tryz.prog Rows.enterRefusesRow.origin Rows.enterRefusesRow.targs := of_decide_eq_true (by kernel_rfl)

theorem over : Rows.enterRefusesRow.holds Tryz.pinned (OpenSpec.ofChange Rows.enterRefusesSpec) :=
  OpenClaim.holds_of_wide 8 Tryz.f8 rfl rfl rfl rfl rfl rfl rfl ⟨rfl, rfl, rfl, rfl, rfl⟩ rfl rfl rfl rfl rfl enterRefuses_fn Tryz.func8 closed inst wraps
    (fun os started H enc _ => lifted os started H enc)

theorem proved : Rows.EnterRefusesSaid := over
end Go.Proofs.YtjdjialgjmphjaaGreat.enterRefusesDone
