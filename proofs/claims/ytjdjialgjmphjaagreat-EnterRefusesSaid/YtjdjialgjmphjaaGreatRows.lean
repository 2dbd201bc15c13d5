/-
  No cell of these rows narrows 'for every input' (looked for: loops, veiled, ifaces, maps, wideKeys, modest, calm, conditions, laid).
  DERIVED. THE GIVEN ROWS OF THIS SEAT. 25 by the template 'for every input the law returns true; each argument reads behind the call as it read before'; 0 by the template 'total and deterministic' (their statements: YtjdjialgjmphjaaGreatTotals.lean).
  GIVEN WITH THE SEED: the statements are not yours to turn. If you find one false, say at which input.
  Laid BY PROGRAM, IN A SANDBOX (cutbox-rows.mjs): the forced cells as the released guide's own fill.sh prints them over the translation 74f502138347819e… (all of the seat's roots in one cut). By AI agents, Wed Nov 11 2026. No macro, syntax, notation, axiom, sorry.
-/
import Derived.Test.YtjdjialgjmphjaaGreatChecked
import GoSem.Claim
import GoSem.ClaimJoined
import GoSem.ClaimMapViews
import Derived.JoinedTies
import Derived.KernelRfl
namespace Go.Proofs.YtjdjialgjmphjaaGreat
/- THE CELL 'sum', in the pinned program and in every row, IS THE sha256 OF THE DUMP (.gsa) THAT YtjdjialgjmphjaaGreatProg.lean LOADS. Nothing in Lean hashes anything: it is a label: what it is worth is what the hold of that sum in a sandbox is worth. -/
noncomputable def Tryz.pinned : Pinned := { name := "ytjdjialgjmphjaagreat", sum := "74f502138347819eea0a3a89969030067a440af2caf0323bd55d872e04768ff3", checked := Tryz.checked }
namespace Rows
def none {H : Type} : Left H := { results := [], args := [] }

/-- 'ringkernlaw25.ActOne': WHATEVER THE INPUT: true; the input reads as it did. -/
def actOneSpec : ChangeSpec := { name := "actOne", fn := fun _ => fun
  | [d1, d2, d3] => { results := [.lit (.bool true)], args := [d1, d2, d3] }
  | _ => none }
def actOneRow : OpenClaim := { program := "ytjdjialgjmphjaagreat", sum := "74f502138347819eea0a3a89969030067a440af2caf0323bd55d872e04768ff3", func := "ringkern/ringkernlaw25.ActOne", spec := "actOne", unfollowed := true, recurses := true, plainKeys := false, apart := false }
def ActOneSaid : Prop := actOneRow.holds Tryz.pinned (OpenSpec.ofChange actOneSpec)

/-- ITS FALSE NEIGHBOUR: 'it returns false'. Refute it at one input. -/
def actOneWrong : ChangeSpec := { name := "actOne", fn := fun _ => fun
  | [d1, d2, d3] => { results := [.lit (.bool false)], args := [d1, d2, d3] }
  | _ => none }
def ActOneWrongFalsely : Prop := actOneRow.holds Tryz.pinned (OpenSpec.ofChange actOneWrong)

/-- 'ringkernlaw26.EnterMixed': WHATEVER THE INPUT: true; the input reads as it did. -/
def enterMixedSpec : ChangeSpec := { name := "enterMixed", fn := fun _ => fun
  | [d] => { results := [.lit (.bool true)], args := [d] }
  | _ => none }
def enterMixedRow : OpenClaim := { program := "ytjdjialgjmphjaagreat", sum := "74f502138347819eea0a3a89969030067a440af2caf0323bd55d872e04768ff3", func := "ringkern/ringkernlaw26.EnterMixed", spec := "enterMixed", inPlace := ["slices.overlaps[ringkern/timer.one]"], unfollowed := true, recurses := true, plainKeys := false, apart := false }
def EnterMixedSaid : Prop := enterMixedRow.holds Tryz.pinned (OpenSpec.ofChange enterMixedSpec)

/-- ITS FALSE NEIGHBOUR: 'it returns false'. Refute it at one input. -/
def enterMixedWrong : ChangeSpec := { name := "enterMixed", fn := fun _ => fun
  | [d] => { results := [.lit (.bool false)], args := [d] }
  | _ => none }
def EnterMixedWrongFalsely : Prop := enterMixedRow.holds Tryz.pinned (OpenSpec.ofChange enterMixedWrong)

/-- 'ringkernlaw26.EnterBusy': WHATEVER THE INPUT: true; the input reads as it did. -/
def enterBusySpec : ChangeSpec := { name := "enterBusy", fn := fun _ => fun
  | [d1, d2] => { results := [.lit (.bool true)], args := [d1, d2] }
  | _ => none }
def enterBusyRow : OpenClaim := { program := "ytjdjialgjmphjaagreat", sum := "74f502138347819eea0a3a89969030067a440af2caf0323bd55d872e04768ff3", func := "ringkern/ringkernlaw26.EnterBusy", spec := "enterBusy", inPlace := ["slices.overlaps[ringkern/timer.one]"], unfollowed := true, recurses := true, plainKeys := false, apart := false }
def EnterBusySaid : Prop := enterBusyRow.holds Tryz.pinned (OpenSpec.ofChange enterBusySpec)

/-- ITS FALSE NEIGHBOUR: 'it returns false'. Refute it at one input. -/
def enterBusyWrong : ChangeSpec := { name := "enterBusy", fn := fun _ => fun
  | [d1, d2] => { results := [.lit (.bool false)], args := [d1, d2] }
  | _ => none }
def EnterBusyWrongFalsely : Prop := enterBusyRow.holds Tryz.pinned (OpenSpec.ofChange enterBusyWrong)

/-- 'ringkernlaw26.EnterChains': WHATEVER THE INPUT: true; the input reads as it did. -/
def enterChainsSpec : ChangeSpec := { name := "enterChains", fn := fun _ => fun
  | [d1, d2] => { results := [.lit (.bool true)], args := [d1, d2] }
  | _ => none }
def enterChainsRow : OpenClaim := { program := "ytjdjialgjmphjaagreat", sum := "74f502138347819eea0a3a89969030067a440af2caf0323bd55d872e04768ff3", func := "ringkern/ringkernlaw26.EnterChains", spec := "enterChains", inPlace := ["slices.overlaps[ringkern/timer.one]"], unfollowed := true, recurses := true, plainKeys := false, apart := false }
def EnterChainsSaid : Prop := enterChainsRow.holds Tryz.pinned (OpenSpec.ofChange enterChainsSpec)

/-- ITS FALSE NEIGHBOUR: 'it returns false'. Refute it at one input. -/
def enterChainsWrong : ChangeSpec := { name := "enterChains", fn := fun _ => fun
  | [d1, d2] => { results := [.lit (.bool false)], args := [d1, d2] }
  | _ => none }
def EnterChainsWrongFalsely : Prop := enterChainsRow.holds Tryz.pinned (OpenSpec.ofChange enterChainsWrong)

/-- 'ringkernlaw26.EnterBudget': WHATEVER THE INPUT: true; the input reads as it did. -/
def enterBudgetSpec : ChangeSpec := { name := "enterBudget", fn := fun _ => fun
  | [d1, d2] => { results := [.lit (.bool true)], args := [d1, d2] }
  | _ => none }
def enterBudgetRow : OpenClaim := { program := "ytjdjialgjmphjaagreat", sum := "74f502138347819eea0a3a89969030067a440af2caf0323bd55d872e04768ff3", func := "ringkern/ringkernlaw26.EnterBudget", spec := "enterBudget", inPlace := ["slices.overlaps[ringkern/timer.one]"], unfollowed := true, recurses := true, plainKeys := false, apart := false }
def EnterBudgetSaid : Prop := enterBudgetRow.holds Tryz.pinned (OpenSpec.ofChange enterBudgetSpec)

/-- ITS FALSE NEIGHBOUR: 'it returns false'. Refute it at one input. -/
def enterBudgetWrong : ChangeSpec := { name := "enterBudget", fn := fun _ => fun
  | [d1, d2] => { results := [.lit (.bool false)], args := [d1, d2] }
  | _ => none }
def EnterBudgetWrongFalsely : Prop := enterBudgetRow.holds Tryz.pinned (OpenSpec.ofChange enterBudgetWrong)

/-- 'ringkernlaw26.EnterRefuses': WHATEVER THE INPUT: true; the input reads as it did. -/
def enterRefusesSpec : ChangeSpec := { name := "enterRefuses", fn := fun _ => fun
  | [d1, d2, d3] => { results := [.lit (.bool true)], args := [d1, d2, d3] }
  | _ => none }
def enterRefusesRow : OpenClaim := { program := "ytjdjialgjmphjaagreat", sum := "74f502138347819eea0a3a89969030067a440af2caf0323bd55d872e04768ff3", func := "ringkern/ringkernlaw26.EnterRefuses", spec := "enterRefuses", inPlace := ["slices.overlaps[ringkern/timer.one]"], unfollowed := true, recurses := true, plainKeys := false, apart := false }
def EnterRefusesSaid : Prop := enterRefusesRow.holds Tryz.pinned (OpenSpec.ofChange enterRefusesSpec)

/-- ITS FALSE NEIGHBOUR: 'it returns false'. Refute it at one input. -/
def enterRefusesWrong : ChangeSpec := { name := "enterRefuses", fn := fun _ => fun
  | [d1, d2, d3] => { results := [.lit (.bool false)], args := [d1, d2, d3] }
  | _ => none }
def EnterRefusesWrongFalsely : Prop := enterRefusesRow.holds Tryz.pinned (OpenSpec.ofChange enterRefusesWrong)

/-- 'ringkernlaw26.EnterLeaves': WHATEVER THE INPUT: true; the input reads as it did. -/
def enterLeavesSpec : ChangeSpec := { name := "enterLeaves", fn := fun _ => fun
  | [d1, d2] => { results := [.lit (.bool true)], args := [d1, d2] }
  | _ => none }
def enterLeavesRow : OpenClaim := { program := "ytjdjialgjmphjaagreat", sum := "74f502138347819eea0a3a89969030067a440af2caf0323bd55d872e04768ff3", func := "ringkern/ringkernlaw26.EnterLeaves", spec := "enterLeaves", inPlace := ["slices.overlaps[ringkern/timer.one]"], unfollowed := true, recurses := true, plainKeys := false, apart := false }
def EnterLeavesSaid : Prop := enterLeavesRow.holds Tryz.pinned (OpenSpec.ofChange enterLeavesSpec)

/-- ITS FALSE NEIGHBOUR: 'it returns false'. Refute it at one input. -/
def enterLeavesWrong : ChangeSpec := { name := "enterLeaves", fn := fun _ => fun
  | [d1, d2] => { results := [.lit (.bool false)], args := [d1, d2] }
  | _ => none }
def EnterLeavesWrongFalsely : Prop := enterLeavesRow.holds Tryz.pinned (OpenSpec.ofChange enterLeavesWrong)

/-- 'ringkernlaw26.EnterDrain': WHATEVER THE INPUT: true; the input reads as it did. -/
def enterDrainSpec : ChangeSpec := { name := "enterDrain", fn := fun _ => fun
  | [d1, d2] => { results := [.lit (.bool true)], args := [d1, d2] }
  | _ => none }
def enterDrainRow : OpenClaim := { program := "ytjdjialgjmphjaagreat", sum := "74f502138347819eea0a3a89969030067a440af2caf0323bd55d872e04768ff3", func := "ringkern/ringkernlaw26.EnterDrain", spec := "enterDrain", inPlace := ["slices.overlaps[ringkern/timer.one]"], unfollowed := true, recurses := true, plainKeys := false, apart := false }
def EnterDrainSaid : Prop := enterDrainRow.holds Tryz.pinned (OpenSpec.ofChange enterDrainSpec)

/-- ITS FALSE NEIGHBOUR: 'it returns false'. Refute it at one input. -/
def enterDrainWrong : ChangeSpec := { name := "enterDrain", fn := fun _ => fun
  | [d1, d2] => { results := [.lit (.bool false)], args := [d1, d2] }
  | _ => none }
def EnterDrainWrongFalsely : Prop := enterDrainRow.holds Tryz.pinned (OpenSpec.ofChange enterDrainWrong)

/-- 'ringkernlaw26.EnterTimes': WHATEVER THE INPUT: true; the input reads as it did. -/
def enterTimesSpec : ChangeSpec := { name := "enterTimes", fn := fun _ => fun
  | [d1, d2] => { results := [.lit (.bool true)], args := [d1, d2] }
  | _ => none }
def enterTimesRow : OpenClaim := { program := "ytjdjialgjmphjaagreat", sum := "74f502138347819eea0a3a89969030067a440af2caf0323bd55d872e04768ff3", func := "ringkern/ringkernlaw26.EnterTimes", spec := "enterTimes", inPlace := ["slices.overlaps[ringkern/timer.one]"], unfollowed := true, recurses := true, plainKeys := false, apart := false }
def EnterTimesSaid : Prop := enterTimesRow.holds Tryz.pinned (OpenSpec.ofChange enterTimesSpec)

/-- ITS FALSE NEIGHBOUR: 'it returns false'. Refute it at one input. -/
def enterTimesWrong : ChangeSpec := { name := "enterTimes", fn := fun _ => fun
  | [d1, d2] => { results := [.lit (.bool false)], args := [d1, d2] }
  | _ => none }
def EnterTimesWrongFalsely : Prop := enterTimesRow.holds Tryz.pinned (OpenSpec.ofChange enterTimesWrong)

/-- 'ringkernlaw26.EnterPlays': WHATEVER THE INPUT: true; the input reads as it did. -/
def enterPlaysSpec : ChangeSpec := { name := "enterPlays", fn := fun _ => fun
  | [d1, d2] => { results := [.lit (.bool true)], args := [d1, d2] }
  | _ => none }
def enterPlaysRow : OpenClaim := { program := "ytjdjialgjmphjaagreat", sum := "74f502138347819eea0a3a89969030067a440af2caf0323bd55d872e04768ff3", func := "ringkern/ringkernlaw26.EnterPlays", spec := "enterPlays", inPlace := ["slices.overlaps[ringkern/timer.one]"], unfollowed := true, recurses := true, plainKeys := false, apart := false }
def EnterPlaysSaid : Prop := enterPlaysRow.holds Tryz.pinned (OpenSpec.ofChange enterPlaysSpec)

/-- ITS FALSE NEIGHBOUR: 'it returns false'. Refute it at one input. -/
def enterPlaysWrong : ChangeSpec := { name := "enterPlays", fn := fun _ => fun
  | [d1, d2] => { results := [.lit (.bool false)], args := [d1, d2] }
  | _ => none }
def EnterPlaysWrongFalsely : Prop := enterPlaysRow.holds Tryz.pinned (OpenSpec.ofChange enterPlaysWrong)

/-- 'ringkernlaw27.KernelNops': WHATEVER THE INPUT: true; the input reads as it did. -/
def kernelNopsSpec : ChangeSpec := { name := "kernelNops", fn := fun _ => fun
  | [d1, d2, d3] => { results := [.lit (.bool true)], args := [d1, d2, d3] }
  | _ => none }
def kernelNopsRow : OpenClaim := { program := "ytjdjialgjmphjaagreat", sum := "74f502138347819eea0a3a89969030067a440af2caf0323bd55d872e04768ff3", func := "ringkern/ringkernlaw27.KernelNops", spec := "kernelNops", inPlace := ["slices.overlaps[ringkern/timer.one]"], unfollowed := true, recurses := true, plainKeys := false, apart := false }
def KernelNopsSaid : Prop := kernelNopsRow.holds Tryz.pinned (OpenSpec.ofChange kernelNopsSpec)

/-- ITS FALSE NEIGHBOUR: 'it returns false'. Refute it at one input. -/
def kernelNopsWrong : ChangeSpec := { name := "kernelNops", fn := fun _ => fun
  | [d1, d2, d3] => { results := [.lit (.bool false)], args := [d1, d2, d3] }
  | _ => none }
def KernelNopsWrongFalsely : Prop := kernelNopsRow.holds Tryz.pinned (OpenSpec.ofChange kernelNopsWrong)

/-- 'ringkernlaw27.KernelStores': WHATEVER THE INPUT: true; the input reads as it did. -/
def kernelStoresSpec : ChangeSpec := { name := "kernelStores", fn := fun _ => fun
  | [d1, d2, d3, d4] => { results := [.lit (.bool true)], args := [d1, d2, d3, d4] }
  | _ => none }
def kernelStoresRow : OpenClaim := { program := "ytjdjialgjmphjaagreat", sum := "74f502138347819eea0a3a89969030067a440af2caf0323bd55d872e04768ff3", func := "ringkern/ringkernlaw27.KernelStores", spec := "kernelStores", inPlace := ["slices.overlaps[ringkern/timer.one]"], unfollowed := true, recurses := true, plainKeys := false, apart := false }
def KernelStoresSaid : Prop := kernelStoresRow.holds Tryz.pinned (OpenSpec.ofChange kernelStoresSpec)

/-- ITS FALSE NEIGHBOUR: 'it returns false'. Refute it at one input. -/
def kernelStoresWrong : ChangeSpec := { name := "kernelStores", fn := fun _ => fun
  | [d1, d2, d3, d4] => { results := [.lit (.bool false)], args := [d1, d2, d3, d4] }
  | _ => none }
def KernelStoresWrongFalsely : Prop := kernelStoresRow.holds Tryz.pinned (OpenSpec.ofChange kernelStoresWrong)

/-- 'ringkernlaw27.KernelRuns': WHATEVER THE INPUT: true; the input reads as it did. -/
def kernelRunsSpec : ChangeSpec := { name := "kernelRuns", fn := fun _ => fun
  | [d1, d2] => { results := [.lit (.bool true)], args := [d1, d2] }
  | _ => none }
def kernelRunsRow : OpenClaim := { program := "ytjdjialgjmphjaagreat", sum := "74f502138347819eea0a3a89969030067a440af2caf0323bd55d872e04768ff3", func := "ringkern/ringkernlaw27.KernelRuns", spec := "kernelRuns", inPlace := ["slices.overlaps[ringkern/timer.one]"], unfollowed := true, recurses := true, plainKeys := false, apart := false }
def KernelRunsSaid : Prop := kernelRunsRow.holds Tryz.pinned (OpenSpec.ofChange kernelRunsSpec)

/-- ITS FALSE NEIGHBOUR: 'it returns false'. Refute it at one input. -/
def kernelRunsWrong : ChangeSpec := { name := "kernelRuns", fn := fun _ => fun
  | [d1, d2] => { results := [.lit (.bool false)], args := [d1, d2] }
  | _ => none }
def KernelRunsWrongFalsely : Prop := kernelRunsRow.holds Tryz.pinned (OpenSpec.ofChange kernelRunsWrong)

/-- 'ringkernlaw27.KernelFull': WHATEVER THE INPUT: true; the input reads as it did. -/
def kernelFullSpec : ChangeSpec := { name := "kernelFull", fn := fun _ => fun
  | [d1, d2, d3] => { results := [.lit (.bool true)], args := [d1, d2, d3] }
  | _ => none }
def kernelFullRow : OpenClaim := { program := "ytjdjialgjmphjaagreat", sum := "74f502138347819eea0a3a89969030067a440af2caf0323bd55d872e04768ff3", func := "ringkern/ringkernlaw27.KernelFull", spec := "kernelFull", inPlace := ["slices.overlaps[ringkern/timer.one]"], unfollowed := true, recurses := true, plainKeys := false, apart := false }
def KernelFullSaid : Prop := kernelFullRow.holds Tryz.pinned (OpenSpec.ofChange kernelFullSpec)

/-- ITS FALSE NEIGHBOUR: 'it returns false'. Refute it at one input. -/
def kernelFullWrong : ChangeSpec := { name := "kernelFull", fn := fun _ => fun
  | [d1, d2, d3] => { results := [.lit (.bool false)], args := [d1, d2, d3] }
  | _ => none }
def KernelFullWrongFalsely : Prop := kernelFullRow.holds Tryz.pinned (OpenSpec.ofChange kernelFullWrong)

/-- 'ringkernlaw27.KernelPlays': WHATEVER THE INPUT: true; the input reads as it did. -/
def kernelPlaysSpec : ChangeSpec := { name := "kernelPlays", fn := fun _ => fun
  | [d] => { results := [.lit (.bool true)], args := [d] }
  | _ => none }
def kernelPlaysRow : OpenClaim := { program := "ytjdjialgjmphjaagreat", sum := "74f502138347819eea0a3a89969030067a440af2caf0323bd55d872e04768ff3", func := "ringkern/ringkernlaw27.KernelPlays", spec := "kernelPlays", inPlace := ["slices.overlaps[ringkern/timer.one]"], unfollowed := true, recurses := true, plainKeys := false, apart := false }
def KernelPlaysSaid : Prop := kernelPlaysRow.holds Tryz.pinned (OpenSpec.ofChange kernelPlaysSpec)

/-- ITS FALSE NEIGHBOUR: 'it returns false'. Refute it at one input. -/
def kernelPlaysWrong : ChangeSpec := { name := "kernelPlays", fn := fun _ => fun
  | [d] => { results := [.lit (.bool false)], args := [d] }
  | _ => none }
def KernelPlaysWrongFalsely : Prop := kernelPlaysRow.holds Tryz.pinned (OpenSpec.ofChange kernelPlaysWrong)

/-- 'ringkernlaw27.KernelRaw': WHATEVER THE INPUT: true; the input reads as it did. -/
def kernelRawSpec : ChangeSpec := { name := "kernelRaw", fn := fun _ => fun
  | [d1, d2, d3] => { results := [.lit (.bool true)], args := [d1, d2, d3] }
  | _ => none }
def kernelRawRow : OpenClaim := { program := "ytjdjialgjmphjaagreat", sum := "74f502138347819eea0a3a89969030067a440af2caf0323bd55d872e04768ff3", func := "ringkern/ringkernlaw27.KernelRaw", spec := "kernelRaw", inPlace := ["slices.overlaps[ringkern/timer.one]"], unfollowed := true, recurses := true, plainKeys := false, apart := false }
def KernelRawSaid : Prop := kernelRawRow.holds Tryz.pinned (OpenSpec.ofChange kernelRawSpec)

/-- ITS FALSE NEIGHBOUR: 'it returns false'. Refute it at one input. -/
def kernelRawWrong : ChangeSpec := { name := "kernelRaw", fn := fun _ => fun
  | [d1, d2, d3] => { results := [.lit (.bool false)], args := [d1, d2, d3] }
  | _ => none }
def KernelRawWrongFalsely : Prop := kernelRawRow.holds Tryz.pinned (OpenSpec.ofChange kernelRawWrong)

/-- 'ringkernlaw28.AuditGrows': WHATEVER THE INPUT: true; the input reads as it did. -/
def auditGrowsSpec : ChangeSpec := { name := "auditGrows", fn := fun _ => fun
  | [d] => { results := [.lit (.bool true)], args := [d] }
  | _ => none }
def auditGrowsRow : OpenClaim := { program := "ytjdjialgjmphjaagreat", sum := "74f502138347819eea0a3a89969030067a440af2caf0323bd55d872e04768ff3", func := "ringkern/ringkernlaw28.AuditGrows", spec := "auditGrows", inPlace := ["slices.overlaps[ringkern/timer.one]"], unfollowed := true, recurses := true, plainKeys := false, apart := false }
def AuditGrowsSaid : Prop := auditGrowsRow.holds Tryz.pinned (OpenSpec.ofChange auditGrowsSpec)

/-- ITS FALSE NEIGHBOUR: 'it returns false'. Refute it at one input. -/
def auditGrowsWrong : ChangeSpec := { name := "auditGrows", fn := fun _ => fun
  | [d] => { results := [.lit (.bool false)], args := [d] }
  | _ => none }
def AuditGrowsWrongFalsely : Prop := auditGrowsRow.holds Tryz.pinned (OpenSpec.ofChange auditGrowsWrong)

/-- 'ringkernlaw28.AuditSays': WHATEVER THE INPUT: true; the input reads as it did. -/
def auditSaysSpec : ChangeSpec := { name := "auditSays", fn := fun _ => fun
  | [d1, d2] => { results := [.lit (.bool true)], args := [d1, d2] }
  | _ => none }
def auditSaysRow : OpenClaim := { program := "ytjdjialgjmphjaagreat", sum := "74f502138347819eea0a3a89969030067a440af2caf0323bd55d872e04768ff3", func := "ringkern/ringkernlaw28.AuditSays", spec := "auditSays", inPlace := ["slices.overlaps[ringkern/timer.one]"], unfollowed := true, recurses := true, plainKeys := false, apart := false }
def AuditSaysSaid : Prop := auditSaysRow.holds Tryz.pinned (OpenSpec.ofChange auditSaysSpec)

/-- ITS FALSE NEIGHBOUR: 'it returns false'. Refute it at one input. -/
def auditSaysWrong : ChangeSpec := { name := "auditSays", fn := fun _ => fun
  | [d1, d2] => { results := [.lit (.bool false)], args := [d1, d2] }
  | _ => none }
def AuditSaysWrongFalsely : Prop := auditSaysRow.holds Tryz.pinned (OpenSpec.ofChange auditSaysWrong)

/-- 'ringkerntop.WholeModel': WHATEVER THE INPUT: true; the input reads as it did. -/
def wholeModelSpec : ChangeSpec := { name := "wholeModel", fn := fun _ => fun
  | [d] => { results := [.lit (.bool true)], args := [d] }
  | _ => none }
def wholeModelRow : OpenClaim := { program := "ytjdjialgjmphjaagreat", sum := "74f502138347819eea0a3a89969030067a440af2caf0323bd55d872e04768ff3", func := "ringkern/ringkerntop.WholeModel", spec := "wholeModel", inPlace := ["slices.overlaps[ringkern/timer.one]"], unfollowed := true, recurses := true, plainKeys := false, apart := false }
def WholeModelSaid : Prop := wholeModelRow.holds Tryz.pinned (OpenSpec.ofChange wholeModelSpec)

/-- ITS FALSE NEIGHBOUR: 'it returns false'. Refute it at one input. -/
def wholeModelWrong : ChangeSpec := { name := "wholeModel", fn := fun _ => fun
  | [d] => { results := [.lit (.bool false)], args := [d] }
  | _ => none }
def WholeModelWrongFalsely : Prop := wholeModelRow.holds Tryz.pinned (OpenSpec.ofChange wholeModelWrong)

/-- 'ringkerntop.WholeConfined': WHATEVER THE INPUT: true; the input reads as it did. -/
def wholeConfinedSpec : ChangeSpec := { name := "wholeConfined", fn := fun _ => fun
  | [d] => { results := [.lit (.bool true)], args := [d] }
  | _ => none }
def wholeConfinedRow : OpenClaim := { program := "ytjdjialgjmphjaagreat", sum := "74f502138347819eea0a3a89969030067a440af2caf0323bd55d872e04768ff3", func := "ringkern/ringkerntop.WholeConfined", spec := "wholeConfined", inPlace := ["slices.overlaps[ringkern/timer.one]"], unfollowed := true, recurses := true, plainKeys := false, apart := false }
def WholeConfinedSaid : Prop := wholeConfinedRow.holds Tryz.pinned (OpenSpec.ofChange wholeConfinedSpec)

/-- ITS FALSE NEIGHBOUR: 'it returns false'. Refute it at one input. -/
def wholeConfinedWrong : ChangeSpec := { name := "wholeConfined", fn := fun _ => fun
  | [d] => { results := [.lit (.bool false)], args := [d] }
  | _ => none }
def WholeConfinedWrongFalsely : Prop := wholeConfinedRow.holds Tryz.pinned (OpenSpec.ofChange wholeConfinedWrong)

/-- 'ringkerntop.WholeSame': WHATEVER THE INPUT: true; the input reads as it did. -/
def wholeSameSpec : ChangeSpec := { name := "wholeSame", fn := fun _ => fun
  | [d] => { results := [.lit (.bool true)], args := [d] }
  | _ => none }
def wholeSameRow : OpenClaim := { program := "ytjdjialgjmphjaagreat", sum := "74f502138347819eea0a3a89969030067a440af2caf0323bd55d872e04768ff3", func := "ringkern/ringkerntop.WholeSame", spec := "wholeSame", inPlace := ["slices.overlaps[ringkern/timer.one]"], unfollowed := true, recurses := true, plainKeys := false, apart := false }
def WholeSameSaid : Prop := wholeSameRow.holds Tryz.pinned (OpenSpec.ofChange wholeSameSpec)

/-- ITS FALSE NEIGHBOUR: 'it returns false'. Refute it at one input. -/
def wholeSameWrong : ChangeSpec := { name := "wholeSame", fn := fun _ => fun
  | [d] => { results := [.lit (.bool false)], args := [d] }
  | _ => none }
def WholeSameWrongFalsely : Prop := wholeSameRow.holds Tryz.pinned (OpenSpec.ofChange wholeSameWrong)

/-- 'ringkerntop.WholeApart': WHATEVER THE INPUT: true; the input reads as it did. -/
def wholeApartSpec : ChangeSpec := { name := "wholeApart", fn := fun _ => fun
  | [d1, d2, d3, d4, d5, d6] => { results := [.lit (.bool true)], args := [d1, d2, d3, d4, d5, d6] }
  | _ => none }
def wholeApartRow : OpenClaim := { program := "ytjdjialgjmphjaagreat", sum := "74f502138347819eea0a3a89969030067a440af2caf0323bd55d872e04768ff3", func := "ringkern/ringkerntop.WholeApart", spec := "wholeApart", inPlace := ["slices.overlaps[ringkern/timer.one]"], unfollowed := true, recurses := true, plainKeys := false, apart := false }
def WholeApartSaid : Prop := wholeApartRow.holds Tryz.pinned (OpenSpec.ofChange wholeApartSpec)

/-- ITS FALSE NEIGHBOUR: 'it returns false'. Refute it at one input. -/
def wholeApartWrong : ChangeSpec := { name := "wholeApart", fn := fun _ => fun
  | [d1, d2, d3, d4, d5, d6] => { results := [.lit (.bool false)], args := [d1, d2, d3, d4, d5, d6] }
  | _ => none }
def WholeApartWrongFalsely : Prop := wholeApartRow.holds Tryz.pinned (OpenSpec.ofChange wholeApartWrong)

/-- 'ringkerntop.WholePingPong': WHATEVER THE INPUT: true; the input reads as it did. -/
def wholePingPongSpec : ChangeSpec := { name := "wholePingPong", fn := fun _ => fun
  | [d1, d2, d3] => { results := [.lit (.bool true)], args := [d1, d2, d3] }
  | _ => none }
def wholePingPongRow : OpenClaim := { program := "ytjdjialgjmphjaagreat", sum := "74f502138347819eea0a3a89969030067a440af2caf0323bd55d872e04768ff3", func := "ringkern/ringkerntop.WholePingPong", spec := "wholePingPong", inPlace := ["slices.overlaps[ringkern/timer.one]"], unfollowed := true, recurses := true, plainKeys := false, apart := false }
def WholePingPongSaid : Prop := wholePingPongRow.holds Tryz.pinned (OpenSpec.ofChange wholePingPongSpec)

/-- ITS FALSE NEIGHBOUR: 'it returns false'. Refute it at one input. -/
def wholePingPongWrong : ChangeSpec := { name := "wholePingPong", fn := fun _ => fun
  | [d1, d2, d3] => { results := [.lit (.bool false)], args := [d1, d2, d3] }
  | _ => none }
def WholePingPongWrongFalsely : Prop := wholePingPongRow.holds Tryz.pinned (OpenSpec.ofChange wholePingPongWrong)

/-- 'ringkerntop.WholeLives': WHATEVER THE INPUT: true; the input reads as it did. -/
def wholeLivesSpec : ChangeSpec := { name := "wholeLives", fn := fun _ => fun
  | [d] => { results := [.lit (.bool true)], args := [d] }
  | _ => none }
def wholeLivesRow : OpenClaim := { program := "ytjdjialgjmphjaagreat", sum := "74f502138347819eea0a3a89969030067a440af2caf0323bd55d872e04768ff3", func := "ringkern/ringkerntop.WholeLives", spec := "wholeLives", inPlace := ["slices.overlaps[ringkern/timer.one]"], unfollowed := true, recurses := true, plainKeys := false, apart := false }
def WholeLivesSaid : Prop := wholeLivesRow.holds Tryz.pinned (OpenSpec.ofChange wholeLivesSpec)

/-- ITS FALSE NEIGHBOUR: 'it returns false'. Refute it at one input. -/
def wholeLivesWrong : ChangeSpec := { name := "wholeLives", fn := fun _ => fun
  | [d] => { results := [.lit (.bool false)], args := [d] }
  | _ => none }
def WholeLivesWrongFalsely : Prop := wholeLivesRow.holds Tryz.pinned (OpenSpec.ofChange wholeLivesWrong)

/-- 'ringkerntop.WholeTorn': WHATEVER THE INPUT: true; the input reads as it did. -/
def wholeTornSpec : ChangeSpec := { name := "wholeTorn", fn := fun _ => fun
  | [d1, d2, d3] => { results := [.lit (.bool true)], args := [d1, d2, d3] }
  | _ => none }
def wholeTornRow : OpenClaim := { program := "ytjdjialgjmphjaagreat", sum := "74f502138347819eea0a3a89969030067a440af2caf0323bd55d872e04768ff3", func := "ringkern/ringkerntop.WholeTorn", spec := "wholeTorn", inPlace := ["slices.overlaps[ringkern/timer.one]"], unfollowed := true, recurses := true, plainKeys := false, apart := false }
def WholeTornSaid : Prop := wholeTornRow.holds Tryz.pinned (OpenSpec.ofChange wholeTornSpec)

/-- ITS FALSE NEIGHBOUR: 'it returns false'. Refute it at one input. -/
def wholeTornWrong : ChangeSpec := { name := "wholeTorn", fn := fun _ => fun
  | [d1, d2, d3] => { results := [.lit (.bool false)], args := [d1, d2, d3] }
  | _ => none }
def WholeTornWrongFalsely : Prop := wholeTornRow.holds Tryz.pinned (OpenSpec.ofChange wholeTornWrong)

/- THE SECOND FORM. 'bulk': how many values and letters a reading holds, each counted each time it is reached (what is shared counts as often as it is met; a slice's spare places count too). A statement '..UptoSaid' is the law's where the arguments, and the package variables that the reading takes, are together of bulk at most 1048576: NARROWER than '..Said'. Prove '..Said' where nothing that the law and all that it calls make is longer than what came in: it says more and counts as full. Else prove '..UptoSaid'. A law counts once. -/
mutual
def uptoBulk {H : Type} : DataW H → Nat
  | .lit (.string bytes) => bytes.length + 1
  | .lit _ => 1
  | .nil => 1
  | .ptr d => uptoBulk d + 1
  | .slice elems spare => uptoBulkAll elems + uptoBulkAll spare + 1
  | .agg parts => uptoBulkAll parts + 1
  | .iface _ d => uptoBulk d + 1
  | .map entries => uptoBulkEntries entries + 1
  | .held _ => 1
def uptoBulkAll {H : Type} : List (DataW H) → Nat
  | [] => 0
  | d :: r => uptoBulk d + uptoBulkAll r
def uptoBulkEntries {H : Type} : List (Lit × DataW H) → Nat
  | [] => 0
  | x :: r => uptoBulkEntry x + uptoBulkEntries r
def uptoBulkEntry {H : Type} : Lit × DataW H → Nat
  | (.string bytes, d) => bytes.length + uptoBulk d + 1
  | (_, d) => uptoBulk d + 1
 end
def uptoSmall : (H : Type) → List (DataW H) → Bool := fun _ ds => decide (uptoBulkAll ds ≤ 1048576)
def OpenSpec.upto (s : _root_.Go.ChangeSpec) : _root_.Go.OpenSpec := { _root_.Go.OpenSpec.ofChange s with cond := some uptoSmall }

/-- 'ringkernlaw25.ActOne', WHERE WHAT IT READS IS OF BULK AT MOST 1048576: true; the input reads as it did. -/
def actOneUptoRow : OpenClaim := { program := "ytjdjialgjmphjaagreat", sum := "74f502138347819eea0a3a89969030067a440af2caf0323bd55d872e04768ff3", func := "ringkern/ringkernlaw25.ActOne", spec := "actOne", unfollowed := true, recurses := true, plainKeys := false, apart := false, narrowed := true }
def ActOneUptoSaid : Prop := actOneUptoRow.holds Tryz.pinned (OpenSpec.upto actOneSpec)

/-- 'ringkernlaw26.EnterMixed', WHERE WHAT IT READS IS OF BULK AT MOST 1048576: true; the input reads as it did. -/
def enterMixedUptoRow : OpenClaim := { program := "ytjdjialgjmphjaagreat", sum := "74f502138347819eea0a3a89969030067a440af2caf0323bd55d872e04768ff3", func := "ringkern/ringkernlaw26.EnterMixed", spec := "enterMixed", inPlace := ["slices.overlaps[ringkern/timer.one]"], unfollowed := true, recurses := true, plainKeys := false, apart := false, narrowed := true }
def EnterMixedUptoSaid : Prop := enterMixedUptoRow.holds Tryz.pinned (OpenSpec.upto enterMixedSpec)

/-- 'ringkernlaw26.EnterBusy', WHERE WHAT IT READS IS OF BULK AT MOST 1048576: true; the input reads as it did. -/
def enterBusyUptoRow : OpenClaim := { program := "ytjdjialgjmphjaagreat", sum := "74f502138347819eea0a3a89969030067a440af2caf0323bd55d872e04768ff3", func := "ringkern/ringkernlaw26.EnterBusy", spec := "enterBusy", inPlace := ["slices.overlaps[ringkern/timer.one]"], unfollowed := true, recurses := true, plainKeys := false, apart := false, narrowed := true }
def EnterBusyUptoSaid : Prop := enterBusyUptoRow.holds Tryz.pinned (OpenSpec.upto enterBusySpec)

/-- 'ringkernlaw26.EnterChains', WHERE WHAT IT READS IS OF BULK AT MOST 1048576: true; the input reads as it did. -/
def enterChainsUptoRow : OpenClaim := { program := "ytjdjialgjmphjaagreat", sum := "74f502138347819eea0a3a89969030067a440af2caf0323bd55d872e04768ff3", func := "ringkern/ringkernlaw26.EnterChains", spec := "enterChains", inPlace := ["slices.overlaps[ringkern/timer.one]"], unfollowed := true, recurses := true, plainKeys := false, apart := false, narrowed := true }
def EnterChainsUptoSaid : Prop := enterChainsUptoRow.holds Tryz.pinned (OpenSpec.upto enterChainsSpec)

/-- 'ringkernlaw26.EnterBudget', WHERE WHAT IT READS IS OF BULK AT MOST 1048576: true; the input reads as it did. -/
def enterBudgetUptoRow : OpenClaim := { program := "ytjdjialgjmphjaagreat", sum := "74f502138347819eea0a3a89969030067a440af2caf0323bd55d872e04768ff3", func := "ringkern/ringkernlaw26.EnterBudget", spec := "enterBudget", inPlace := ["slices.overlaps[ringkern/timer.one]"], unfollowed := true, recurses := true, plainKeys := false, apart := false, narrowed := true }
def EnterBudgetUptoSaid : Prop := enterBudgetUptoRow.holds Tryz.pinned (OpenSpec.upto enterBudgetSpec)

/-- 'ringkernlaw26.EnterRefuses', WHERE WHAT IT READS IS OF BULK AT MOST 1048576: true; the input reads as it did. -/
def enterRefusesUptoRow : OpenClaim := { program := "ytjdjialgjmphjaagreat", sum := "74f502138347819eea0a3a89969030067a440af2caf0323bd55d872e04768ff3", func := "ringkern/ringkernlaw26.EnterRefuses", spec := "enterRefuses", inPlace := ["slices.overlaps[ringkern/timer.one]"], unfollowed := true, recurses := true, plainKeys := false, apart := false, narrowed := true }
def EnterRefusesUptoSaid : Prop := enterRefusesUptoRow.holds Tryz.pinned (OpenSpec.upto enterRefusesSpec)

/-- 'ringkernlaw26.EnterLeaves', WHERE WHAT IT READS IS OF BULK AT MOST 1048576: true; the input reads as it did. -/
def enterLeavesUptoRow : OpenClaim := { program := "ytjdjialgjmphjaagreat", sum := "74f502138347819eea0a3a89969030067a440af2caf0323bd55d872e04768ff3", func := "ringkern/ringkernlaw26.EnterLeaves", spec := "enterLeaves", inPlace := ["slices.overlaps[ringkern/timer.one]"], unfollowed := true, recurses := true, plainKeys := false, apart := false, narrowed := true }
def EnterLeavesUptoSaid : Prop := enterLeavesUptoRow.holds Tryz.pinned (OpenSpec.upto enterLeavesSpec)

/-- 'ringkernlaw26.EnterDrain', WHERE WHAT IT READS IS OF BULK AT MOST 1048576: true; the input reads as it did. -/
def enterDrainUptoRow : OpenClaim := { program := "ytjdjialgjmphjaagreat", sum := "74f502138347819eea0a3a89969030067a440af2caf0323bd55d872e04768ff3", func := "ringkern/ringkernlaw26.EnterDrain", spec := "enterDrain", inPlace := ["slices.overlaps[ringkern/timer.one]"], unfollowed := true, recurses := true, plainKeys := false, apart := false, narrowed := true }
def EnterDrainUptoSaid : Prop := enterDrainUptoRow.holds Tryz.pinned (OpenSpec.upto enterDrainSpec)

/-- 'ringkernlaw26.EnterTimes', WHERE WHAT IT READS IS OF BULK AT MOST 1048576: true; the input reads as it did. -/
def enterTimesUptoRow : OpenClaim := { program := "ytjdjialgjmphjaagreat", sum := "74f502138347819eea0a3a89969030067a440af2caf0323bd55d872e04768ff3", func := "ringkern/ringkernlaw26.EnterTimes", spec := "enterTimes", inPlace := ["slices.overlaps[ringkern/timer.one]"], unfollowed := true, recurses := true, plainKeys := false, apart := false, narrowed := true }
def EnterTimesUptoSaid : Prop := enterTimesUptoRow.holds Tryz.pinned (OpenSpec.upto enterTimesSpec)

/-- 'ringkernlaw26.EnterPlays', WHERE WHAT IT READS IS OF BULK AT MOST 1048576: true; the input reads as it did. -/
def enterPlaysUptoRow : OpenClaim := { program := "ytjdjialgjmphjaagreat", sum := "74f502138347819eea0a3a89969030067a440af2caf0323bd55d872e04768ff3", func := "ringkern/ringkernlaw26.EnterPlays", spec := "enterPlays", inPlace := ["slices.overlaps[ringkern/timer.one]"], unfollowed := true, recurses := true, plainKeys := false, apart := false, narrowed := true }
def EnterPlaysUptoSaid : Prop := enterPlaysUptoRow.holds Tryz.pinned (OpenSpec.upto enterPlaysSpec)

/-- 'ringkernlaw27.KernelNops', WHERE WHAT IT READS IS OF BULK AT MOST 1048576: true; the input reads as it did. -/
def kernelNopsUptoRow : OpenClaim := { program := "ytjdjialgjmphjaagreat", sum := "74f502138347819eea0a3a89969030067a440af2caf0323bd55d872e04768ff3", func := "ringkern/ringkernlaw27.KernelNops", spec := "kernelNops", inPlace := ["slices.overlaps[ringkern/timer.one]"], unfollowed := true, recurses := true, plainKeys := false, apart := false, narrowed := true }
def KernelNopsUptoSaid : Prop := kernelNopsUptoRow.holds Tryz.pinned (OpenSpec.upto kernelNopsSpec)

/-- 'ringkernlaw27.KernelStores', WHERE WHAT IT READS IS OF BULK AT MOST 1048576: true; the input reads as it did. -/
def kernelStoresUptoRow : OpenClaim := { program := "ytjdjialgjmphjaagreat", sum := "74f502138347819eea0a3a89969030067a440af2caf0323bd55d872e04768ff3", func := "ringkern/ringkernlaw27.KernelStores", spec := "kernelStores", inPlace := ["slices.overlaps[ringkern/timer.one]"], unfollowed := true, recurses := true, plainKeys := false, apart := false, narrowed := true }
def KernelStoresUptoSaid : Prop := kernelStoresUptoRow.holds Tryz.pinned (OpenSpec.upto kernelStoresSpec)

/-- 'ringkernlaw27.KernelRuns', WHERE WHAT IT READS IS OF BULK AT MOST 1048576: true; the input reads as it did. -/
def kernelRunsUptoRow : OpenClaim := { program := "ytjdjialgjmphjaagreat", sum := "74f502138347819eea0a3a89969030067a440af2caf0323bd55d872e04768ff3", func := "ringkern/ringkernlaw27.KernelRuns", spec := "kernelRuns", inPlace := ["slices.overlaps[ringkern/timer.one]"], unfollowed := true, recurses := true, plainKeys := false, apart := false, narrowed := true }
def KernelRunsUptoSaid : Prop := kernelRunsUptoRow.holds Tryz.pinned (OpenSpec.upto kernelRunsSpec)

/-- 'ringkernlaw27.KernelFull', WHERE WHAT IT READS IS OF BULK AT MOST 1048576: true; the input reads as it did. -/
def kernelFullUptoRow : OpenClaim := { program := "ytjdjialgjmphjaagreat", sum := "74f502138347819eea0a3a89969030067a440af2caf0323bd55d872e04768ff3", func := "ringkern/ringkernlaw27.KernelFull", spec := "kernelFull", inPlace := ["slices.overlaps[ringkern/timer.one]"], unfollowed := true, recurses := true, plainKeys := false, apart := false, narrowed := true }
def KernelFullUptoSaid : Prop := kernelFullUptoRow.holds Tryz.pinned (OpenSpec.upto kernelFullSpec)

/-- 'ringkernlaw27.KernelPlays', WHERE WHAT IT READS IS OF BULK AT MOST 1048576: true; the input reads as it did. -/
def kernelPlaysUptoRow : OpenClaim := { program := "ytjdjialgjmphjaagreat", sum := "74f502138347819eea0a3a89969030067a440af2caf0323bd55d872e04768ff3", func := "ringkern/ringkernlaw27.KernelPlays", spec := "kernelPlays", inPlace := ["slices.overlaps[ringkern/timer.one]"], unfollowed := true, recurses := true, plainKeys := false, apart := false, narrowed := true }
def KernelPlaysUptoSaid : Prop := kernelPlaysUptoRow.holds Tryz.pinned (OpenSpec.upto kernelPlaysSpec)

/-- 'ringkernlaw27.KernelRaw', WHERE WHAT IT READS IS OF BULK AT MOST 1048576: true; the input reads as it did. -/
def kernelRawUptoRow : OpenClaim := { program := "ytjdjialgjmphjaagreat", sum := "74f502138347819eea0a3a89969030067a440af2caf0323bd55d872e04768ff3", func := "ringkern/ringkernlaw27.KernelRaw", spec := "kernelRaw", inPlace := ["slices.overlaps[ringkern/timer.one]"], unfollowed := true, recurses := true, plainKeys := false, apart := false, narrowed := true }
def KernelRawUptoSaid : Prop := kernelRawUptoRow.holds Tryz.pinned (OpenSpec.upto kernelRawSpec)

/-- 'ringkernlaw28.AuditGrows', WHERE WHAT IT READS IS OF BULK AT MOST 1048576: true; the input reads as it did. -/
def auditGrowsUptoRow : OpenClaim := { program := "ytjdjialgjmphjaagreat", sum := "74f502138347819eea0a3a89969030067a440af2caf0323bd55d872e04768ff3", func := "ringkern/ringkernlaw28.AuditGrows", spec := "auditGrows", inPlace := ["slices.overlaps[ringkern/timer.one]"], unfollowed := true, recurses := true, plainKeys := false, apart := false, narrowed := true }
def AuditGrowsUptoSaid : Prop := auditGrowsUptoRow.holds Tryz.pinned (OpenSpec.upto auditGrowsSpec)

/-- 'ringkernlaw28.AuditSays', WHERE WHAT IT READS IS OF BULK AT MOST 1048576: true; the input reads as it did. -/
def auditSaysUptoRow : OpenClaim := { program := "ytjdjialgjmphjaagreat", sum := "74f502138347819eea0a3a89969030067a440af2caf0323bd55d872e04768ff3", func := "ringkern/ringkernlaw28.AuditSays", spec := "auditSays", inPlace := ["slices.overlaps[ringkern/timer.one]"], unfollowed := true, recurses := true, plainKeys := false, apart := false, narrowed := true }
def AuditSaysUptoSaid : Prop := auditSaysUptoRow.holds Tryz.pinned (OpenSpec.upto auditSaysSpec)

/-- 'ringkerntop.WholeModel', WHERE WHAT IT READS IS OF BULK AT MOST 1048576: true; the input reads as it did. -/
def wholeModelUptoRow : OpenClaim := { program := "ytjdjialgjmphjaagreat", sum := "74f502138347819eea0a3a89969030067a440af2caf0323bd55d872e04768ff3", func := "ringkern/ringkerntop.WholeModel", spec := "wholeModel", inPlace := ["slices.overlaps[ringkern/timer.one]"], unfollowed := true, recurses := true, plainKeys := false, apart := false, narrowed := true }
def WholeModelUptoSaid : Prop := wholeModelUptoRow.holds Tryz.pinned (OpenSpec.upto wholeModelSpec)

/-- 'ringkerntop.WholeConfined', WHERE WHAT IT READS IS OF BULK AT MOST 1048576: true; the input reads as it did. -/
def wholeConfinedUptoRow : OpenClaim := { program := "ytjdjialgjmphjaagreat", sum := "74f502138347819eea0a3a89969030067a440af2caf0323bd55d872e04768ff3", func := "ringkern/ringkerntop.WholeConfined", spec := "wholeConfined", inPlace := ["slices.overlaps[ringkern/timer.one]"], unfollowed := true, recurses := true, plainKeys := false, apart := false, narrowed := true }
def WholeConfinedUptoSaid : Prop := wholeConfinedUptoRow.holds Tryz.pinned (OpenSpec.upto wholeConfinedSpec)

/-- 'ringkerntop.WholeSame', WHERE WHAT IT READS IS OF BULK AT MOST 1048576: true; the input reads as it did. -/
def wholeSameUptoRow : OpenClaim := { program := "ytjdjialgjmphjaagreat", sum := "74f502138347819eea0a3a89969030067a440af2caf0323bd55d872e04768ff3", func := "ringkern/ringkerntop.WholeSame", spec := "wholeSame", inPlace := ["slices.overlaps[ringkern/timer.one]"], unfollowed := true, recurses := true, plainKeys := false, apart := false, narrowed := true }
def WholeSameUptoSaid : Prop := wholeSameUptoRow.holds Tryz.pinned (OpenSpec.upto wholeSameSpec)

/-- 'ringkerntop.WholeApart', WHERE WHAT IT READS IS OF BULK AT MOST 1048576: true; the input reads as it did. -/
def wholeApartUptoRow : OpenClaim := { program := "ytjdjialgjmphjaagreat", sum := "74f502138347819eea0a3a89969030067a440af2caf0323bd55d872e04768ff3", func := "ringkern/ringkerntop.WholeApart", spec := "wholeApart", inPlace := ["slices.overlaps[ringkern/timer.one]"], unfollowed := true, recurses := true, plainKeys := false, apart := false, narrowed := true }
def WholeApartUptoSaid : Prop := wholeApartUptoRow.holds Tryz.pinned (OpenSpec.upto wholeApartSpec)

/-- 'ringkerntop.WholePingPong', WHERE WHAT IT READS IS OF BULK AT MOST 1048576: true; the input reads as it did. -/
def wholePingPongUptoRow : OpenClaim := { program := "ytjdjialgjmphjaagreat", sum := "74f502138347819eea0a3a89969030067a440af2caf0323bd55d872e04768ff3", func := "ringkern/ringkerntop.WholePingPong", spec := "wholePingPong", inPlace := ["slices.overlaps[ringkern/timer.one]"], unfollowed := true, recurses := true, plainKeys := false, apart := false, narrowed := true }
def WholePingPongUptoSaid : Prop := wholePingPongUptoRow.holds Tryz.pinned (OpenSpec.upto wholePingPongSpec)

/-- 'ringkerntop.WholeLives', WHERE WHAT IT READS IS OF BULK AT MOST 1048576: true; the input reads as it did. -/
def wholeLivesUptoRow : OpenClaim := { program := "ytjdjialgjmphjaagreat", sum := "74f502138347819eea0a3a89969030067a440af2caf0323bd55d872e04768ff3", func := "ringkern/ringkerntop.WholeLives", spec := "wholeLives", inPlace := ["slices.overlaps[ringkern/timer.one]"], unfollowed := true, recurses := true, plainKeys := false, apart := false, narrowed := true }
def WholeLivesUptoSaid : Prop := wholeLivesUptoRow.holds Tryz.pinned (OpenSpec.upto wholeLivesSpec)

/-- 'ringkerntop.WholeTorn', WHERE WHAT IT READS IS OF BULK AT MOST 1048576: true; the input reads as it did. -/
def wholeTornUptoRow : OpenClaim := { program := "ytjdjialgjmphjaagreat", sum := "74f502138347819eea0a3a89969030067a440af2caf0323bd55d872e04768ff3", func := "ringkern/ringkerntop.WholeTorn", spec := "wholeTorn", inPlace := ["slices.overlaps[ringkern/timer.one]"], unfollowed := true, recurses := true, plainKeys := false, apart := false, narrowed := true }
def WholeTornUptoSaid : Prop := wholeTornUptoRow.holds Tryz.pinned (OpenSpec.upto wholeTornSpec)

end Rows
end Go.Proofs.YtjdjialgjmphjaaGreat
