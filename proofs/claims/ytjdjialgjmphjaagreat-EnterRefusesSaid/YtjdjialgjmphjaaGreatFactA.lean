/- Part of the proof: FactA. -/
import Derived.Test.YtjdjialgjmphjaaGreatRows
import Derived.JoinedOf
import Derived.KernelRfl
set_option linter.all false
namespace Go.Proofs.YtjdjialgjmphjaaGreat
open Go
def signsL : List Char := ([104,97,114,110,101,115,115,32,51,50,54,56,50,52,53,98,52,55,52,97,97,102,100,50,55,56,101,97,100,51,100,57,102,55,56,98,57,55,53,56,55,101,48,102,50,55,57,51,55,100,101,55,97,51,57,51,53,100,50,55,50,48,49,54,55,102,100,49,99,98,49,54,32,99,117,116,32,97,116,32,114,105,110,103,107,101,114,110,47,114,105,110,103,107,101,114,110,108,97,119,50,53,46,65,99,116,79,110,101,32,114,105,110,103,107,101,114,110,47,114,105,110,103,107,101,114,110,108,97,119,50,54,46,69,110,116,101,114,77,105,120,101,100,32,114,105,110,103,107,101,114,110,47,114,105,110,103,107,101,114,110,108,97,119,50,54,46,69,110,116,101,114,66,117,115,121,32,114,105,110,103,107,101,114,110,47,114,105,110,103,107,101,114,110,108,97,119,50,54,46,69,110,116,101,114,67,104,97,105,110,115,32,114,105,110,103,107,101,114,110,47,114,105,110,103,107,101,114,110,108,97,119,50,54,46,69,110,116,101,114,66,117,100,103,101,116,32,114,105,110,103,107,101,114,110,47,114,105,110,103,107,101,114,110,108,97,119,50,54,46,69,110,116,101,114,82,101,102,117,115,101,115,32,114,105,110,103,107,101,114,110,47,114,105,110,103,107,101,114,110,108,97,119,50,54,46,69,110,116,101,114,76,101,97,118,101,115,32,114,105,110,103,107,101,114,110,47,114,105,110,103,107,101,114,110,108,97,119,50,54,46,69,110,116,101,114,68,114,97,105,110,32,114,105,110,103,107,101,114,110,47,114,105,110,103,107,101,114,110,108,97,119,50,54,46,69,110,116,101,114,84,105,109,101,115,32,114,105,110,103,107,101,114,110,47,114,105,110,103,107,101,114,110,108,97,119,50,54,46,69,110,116,101,114,80,108,97,121,115,32,114,105,110,103,107,101,114,110,47,114,105,110,103,107,101,114,110,108,97,119,50,55,46,75,101,114,110,101,108,78,111,112,115,32,114,105,110,103,107,101,114,110,47,114,105,110,103,107,101,114,110,108,97,119,50,55,46,75,101,114,110,101,108,83,116,111,114,101,115,32,114,105,110,103,107,101,114,110,47,114,105,110,103,107,101,114,110,108,97,119,50,55,46,75,101,114,110,101,108,82,117,110,115,32,114,105,110,103,107,101,114,110,47,114,105,110,103,107,101,114,110,108,97,119,50,55,46,75,101,114,110,101,108,70,117,108,108,32,114,105,110,103,107,101,114,110,47,114,105,110,103,107,101,114,110,108,97,119,50,55,46,75,101,114,110,101,108,80,108,97,121,115,32,114,105,110,103,107,101,114,110,47,114,105,110,103,107,101,114,110,108,97,119,50,55,46,75,101,114,110,101,108,82,97,119,32,114,105,110,103,107,101,114,110,47,114,105,110,103,107,101,114,110,108,97,119,50,56,46,65,117,100,105,116,71,114,111,119,115,32,114,105,110,103,107,101,114,110,47,114,105,110,103,107,101,114,110,108,97,119,50,56,46,65,117,100,105,116,83,97,121,115,32,114,105,110,103,107,101,114,110,47,114,105,110,103,107,101,114,110,116,111,112,46,87,104,111,108,101,77,111,100,101,108,32,114,105,110,103,107,101,114,110,47,114,105,110,103,107,101,114,110,116,111,112,46,87,104,111,108,101,67,111,110,102,105,110,101,100,32,114,105,110,103,107,101,114,110,47,114,105,110,103,107,101,114,110,116,111,112,46,87,104,111,108,101,83,97,109,101,32,114,105,110,103,107,101,114,110,47,114,105,110,103,107,101,114,110,116,111,112,46,87,104,111,108,101,65,112,97,114,116,32,114,105,110,103,107,101,114,110,47,114,105,110,103,107,101,114,110,116,111,112,46,87,104,111,108,101,80,105,110,103,80,111,110,103,32,114,105,110,103,107,101,114,110,47,114,105,110,103,107,101,114,110,116,111,112,46,87,104,111,108,101,76,105,118,101,115,32,114,105,110,103,107,101,114,110,47,114,105,110,103,107,101,114,110,116,111,112,46,87,104,111,108,101,84,111,114,110] : List Nat).map Char.ofNat
theorem signs : Tryz.prog.initOrder = String.ofList signsL := by kernel_rfl
theorem signsList : Tryz.prog.initOrder.toList = signsL := by rw [signs, String.toList_ofList]
theorem word : (behindMainWord (wordsSigns signsL)).head? = some "cut".toList := by kernel_rfl
theorem words : ∃ r, behindMainWord (wordsSigns signsL) = "cut".toList :: r := by
  have h := word
  cases hh : behindMainWord (wordsSigns signsL) with
  | nil => rw [hh] at h; cases h
  | cons a r => rw [hh] at h; cases h; exact ⟨r, rfl⟩
theorem lifts : Tryz.prog.headLifts = [] := by unfold Program.headLifts; rw [signsList]; kernel_rfl
theorem liftsFinal : Tryz.prog.liftsFinal = false := by unfold Program.liftsFinal; rw [signsList, lifts]; kernel_rfl
theorem make_of {P : Program} {l : List Char} {r : List (List Char)} (h0 : P.initOrder.toList = l) (h : behindMainWord (wordsSigns l) = "cut".toList :: r) : P.make = some .cut := by
  subst h0
  have e1 : ("cut".toList == "gc".toList) = false := by kernel_rfl
  have e2 : ("cut".toList == "spec".toList) = false := by kernel_rfl
  have e3 : ("cut".toList == "cut".toList) = true := by kernel_rfl
  unfold Program.make
  rw [h]
  simp only [e1, e2, e3, Bool.false_or, Bool.true_or, Bool.false_eq_true, if_false, if_true]
theorem make : Tryz.prog.make = some .cut := by
  obtain ⟨r, h⟩ := words
  exact make_of signsList h
theorem headOk : (stripLifts liftWords (behindMainWord (wordsSigns signsL))).2.head? = some "cut".toList := by kernel_rfl
theorem headNone : (stripLifts liftWords (behindMainWord (wordsSigns signsL))).1 = [] := by kernel_rfl
theorem doors_of {P : Program} (h : P.doorRows = []) : P.doorFits [] = true := by
  unfold Program.doorFits; rw [h]; kernel_rfl
theorem enter_of {P : Program} {l : List Char} {r : List (List Char)} (h0 : P.initOrder.toList = l) (h : behindMainWord (wordsSigns l) = "cut".toList :: r)
    (a : (stripLifts liftWords (behindMainWord (wordsSigns l))).2.head? = some "cut".toList) (b : (stripLifts liftWords (behindMainWord (wordsSigns l))).1 = [])
    (h1 : P.laysLater = false) (h2 : P.bearsReflect = false) (h3 : P.doorRows = []) : P.mayEnter = true := by
  subst h0
  rw [h] at a b
  have e3 : (some "cut".toList == some "cut".toList) = true := by kernel_rfl
  have d := doors_of h3
  unfold Program.mayEnter
  rw [h]
  simp only [a, b, h1, h2, e3, d, Bool.not_false, Bool.or_true, Bool.and_true, Bool.true_and, List.contains_nil, Bool.or_self]
theorem enter (h1 : Tryz.prog.laysLater = false) (h2 : Tryz.prog.bearsReflect = false) (h3 : Tryz.prog.doorRows = []) : Tryz.prog.mayEnter = true := by
  obtain ⟨r, h⟩ := words
  exact enter_of signsList h headOk headNone h1 h2 h3
theorem and_tt {a b : Bool} (h1 : a = true) (h2 : b = true) : (a && b) = true := by rw [h1, h2]; rfl
theorem joined_of {P : Program} {f : FuncId} {fn : Func} {s : ChangeSpec} {c : OpenClaim}
    (k0 : (c.wf (OpenSpec.ofChange s)) = true)
    (k1 : (laidOutB P) = true)
    (k2 : (mapsRowed P) = true)
    (k3 : (fn.params.all (P.readableRec ·)) = true)
    (k4 : (namedTie P c.named s.vars) = true)
    (k5 : ((c.stops == [])) = true)
    (k6 : ((P.stops == [])) = true)
    (k7 : ((c.knobs == [])) = true)
    (k8 : ((P.stopKnobs == [])) = true)
    (k9 : ((c.inPlace == P.inPlace f)) = true)
    (k10 : ((c.unfollowed == P.unfollowed f)) = true)
    (k11 : ((c.recurses == P.recurses f)) = true)
    (k12 : ((c.named == P.varsNamed f)) = true)
    (k13 : ((c.maps == (fn.params.toList ++ s.plain.varTypes P).any (P.mapsRec ·))) = true)
    (k14 : ((c.ifaces == (fn.params.toList ++ s.plain.varTypes P).any (P.ifacesRec ·))) = true)
    (k15 : ((c.mapsOut == P.mapsAmong fn.resultTypes.toList)) = true)
    (k16 : ((c.loops == (fn.params.toList ++ s.plain.varTypes P).any (P.loopsFrom ·))) = true)
    (k17 : ((c.wideKeys == (fn.params.toList ++ s.plain.varTypes P ++ fn.resultTypes.toList).any (P.wideKeysFrom ·))) = true)
    (k18 : (s.vars.all (P.varReadable ·)) = true)
    (k19 : (fn.resultTypes.all (fun t => P.readableRec t && decide (t < P.types.size))) = true)
    (k20 : ((c.ifacesOut == fn.resultTypes.toList.any (P.ifacesRec ·))) = true)
    (k21 : ((c.loopsOut == fn.resultTypes.toList.any (P.loopsFrom ·))) = true)
    (k22 : ((c.plainKeys == P.plainKeys)) = true)
    (k23 : (c.shortTexts.isNone) = true)
    (k24 : (P.stopsHeard) = true)
    (k25 : (P.mayEnter) = true)
    (k26 : ((c.lifted == P.liftsFinal)) = true)
    (k27 : ((P.make == some c.make)) = true)
    (k28 : ((c.kinds == (if c.domain.isEmpty then [] else fn.params.toList.map fun t => match P.underlying t with | some (.int k) => some k | _ => none))) = true)
    (k29 : ((c.pinned == c.pinnedBy)) = true)
    (k30 : ((c.veiled == (fn.params.toList ++ s.plain.varTypes P ++ fn.resultTypes.toList).any (P.veiledRec ·))) = true)
    (k31 : (c.veiledFits P fn.params.toList (fn.params.toList ++ s.plain.varTypes P ++ fn.resultTypes.toList)) = true)
    : joinedFacts P f fn s c = true := by
  unfold joinedFacts
  exact (and_tt (and_tt (and_tt (and_tt (and_tt (and_tt (and_tt (and_tt (and_tt (and_tt (and_tt (and_tt (and_tt (and_tt (and_tt (and_tt (and_tt (and_tt (and_tt (and_tt (and_tt (and_tt (and_tt (and_tt (and_tt (and_tt (and_tt (and_tt (and_tt (and_tt (and_tt k0 k1) k2) k3) k4) k5) k6) k7) k8) k9) k10) k11) k12) k13) k14) k15) k16) k17) k18) k19) k20) k21) k22) k23) k24) k25) k26) k27) k28) k29) k30) k31)
theorem stops : (Tryz.prog.stops == []) = true := by kernel_rfl
theorem stopKnobs : (Tryz.prog.stopKnobs == []) = true := by kernel_rfl
theorem plainKeys : Tryz.prog.plainKeys = false := by kernel_rfl
theorem lays : Tryz.prog.laysLater = false := by kernel_rfl
theorem bears : Tryz.prog.bearsReflect = false := by kernel_rfl
theorem doors : Tryz.prog.doorRows = [] := by kernel_rfl
theorem entered : Tryz.prog.mayEnter = true := enter lays bears doors
end Go.Proofs.YtjdjialgjmphjaaGreat
