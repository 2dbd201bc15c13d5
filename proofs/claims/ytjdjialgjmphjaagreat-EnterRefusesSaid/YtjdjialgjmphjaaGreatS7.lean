/- Part of the proof: SepP RowKitOwn. -/
import Derived.Test.YtjdjialgjmphjaaGreatS6
import Derived.Below
import Derived.WalkKit
import Derived.ProofKit
import Derived.OpenShut
import Derived.ShutString
import Derived.ChangeOld
set_option linter.all false
section
namespace Go.Sep
open Go

/-- memory beside these blocks -/
def restL (w : World) (bs : List Nat) : Chunk := (List.range w.heap.size).filterMap (fun i => if i ∈ bs then none else (w.heap[i]?).map (fun o => (i, o)))

theorem restL_mem {w : World} {bs : List Nat} {x : Nat × Obj} (h : x ∈ restL w bs) : x.1 ∉ bs ∧ w.heap[x.1]? = some x.2 := by
  unfold restL at h
  obtain ⟨i, hi, e⟩ := List.mem_filterMap.1 h
  split at e
  · simp at e
  · rename_i hn
    cases ho : w.heap[i]? with
    | none => rw [ho] at e; simp at e
    | some o => rw [ho] at e; simp at e; subst e; exact ⟨hn, ho⟩

theorem restL_of {w : World} {bs : List Nat} {i : Nat} {o : Obj} (hn : i ∉ bs) (h : w.heap[i]? = some o) : (i, o) ∈ restL w bs := by
  unfold restL
  refine List.mem_filterMap.2 ⟨i, ?_, ?_⟩
  · have := (Array.getElem?_eq_some_iff.1 h).1
    exact List.mem_range.2 this
  · rw [if_neg hn, h]; rfl

theorem restL_nodup (w : World) (bs : List Nat) : ((restL w bs).map Prod.fst).Nodup := by
  unfold restL List.Nodup
  rw [List.pairwise_map, List.pairwise_filterMap]
  refine List.Pairwise.imp ?_ (List.pairwise_lt_range (n := w.heap.size))
  intro i j hij x hx y hy
  split at hx
  · simp at hx
  · split at hy
    · simp at hy
    · cases h1 : w.heap[i]? with
      | none => rw [h1] at hx; simp at hx
      | some o1 =>
        cases h2 : w.heap[j]? with
        | none => rw [h2] at hy; simp at hy
        | some o2 =>
          rw [h1] at hx; rw [h2] at hy
          simp at hx hy
          subst hx; subst hy
          simp only
          omega

/-- a law's contract, over the world as the row has it -/
theorem Spec.law {P : Program} {f : FuncId} {args : List Value} {A : List Chunk} (S : Spec P f args A (fun v A' => v = .bool true ∧ A' = A)) (w : World)
    (hnd : (A.flatten.map Prod.fst).Nodup) (hh : Has w A) : Calls P f args.toArray w fun e w' => e = .returned (.bool true) ∧ Go.RowKit.Below w.heap.size w w' := by
  let R : Fr := ⟨[restL w (A.flatten.map Prod.fst)], w.os, w.tape, w.output⟩
  have hown : Own w (A ++ R) := by
    refine ⟨?_, ?_, rfl, rfl, rfl⟩
    · show ((A ++ [restL w (A.flatten.map Prod.fst)]).flatten.map Prod.fst).Nodup
      rw [List.flatten_append, List.map_append, List.nodup_append]
      refine ⟨hnd, by simpa using restL_nodup w _, ?_⟩
      intro x hx y hy e
      subst e
      simp only [List.flatten_cons, List.flatten_nil, List.append_nil] at hy
      obtain ⟨z, hz, rfl⟩ := List.mem_map.1 hy
      exact (restL_mem hz).1 hx
    · intro x hx
      have hx' : x ∈ (A ++ [restL w (A.flatten.map Prod.fst)]).flatten := hx
      rw [List.flatten_append, List.mem_append] at hx'
      rcases hx' with hx' | hx'
      · exact hh x hx'
      · simp only [List.flatten_cons, List.flatten_nil, List.append_nil] at hx'
        exact (restL_mem hx').2
  refine (S.calls w R hown).mono ?_
  rintro e w' ⟨v, A', ⟨rfl, rfl⟩, rfl, ho⟩
  refine ⟨rfl, ho.3.1, ho.3.2.1, ho.3.2.2, ?_, ?_⟩
  all_goals
    have key : ∀ k, k < w.heap.size → w'.heap[k]? = w.heap[k]? := by
      intro k hk
      have hs : w.heap[k]? = some w.heap[k] := Array.getElem?_eq_getElem hk
      rw [hs]
      by_cases hin : k ∈ A'.flatten.map Prod.fst
      · obtain ⟨x, hx, rfl⟩ := List.mem_map.1 hin
        have h1 := hh x hx
        have h2 : w'.heap[x.1]? = some x.2 := ho.2 x (by
          show x ∈ (A' ++ R.L).flatten
          rw [List.flatten_append, List.mem_append]; exact .inl hx)
        rw [h2, ← hs, h1]
      · have h1 := restL_of hin hs
        exact ho.2 (k, w.heap[k]) (by
          show (k, w.heap[k]) ∈ (A' ++ R.L).flatten
          rw [List.flatten_append, List.mem_append]
          exact .inr (by simpa [R] using h1))
  · rcases Nat.eq_zero_or_pos w.heap.size with h | h
    · omega
    · have := key (w.heap.size - 1) (by omega)
      have hs : w.heap[w.heap.size - 1]? = some (w.heap[w.heap.size - 1]'(by omega)) := Array.getElem?_eq_getElem (by omega)
      rw [hs] at this
      have := (Array.getElem?_eq_some_iff.1 this).1
      omega
  · exact key
end Go.Sep
end
section
namespace Go.Sep
open Go
open Go.ChangeShapes Go.WideShapes Go.ChangeAt Go.RowKit

/-- a slice of integers that came in: it is nil; or it leads to a row of its numbers -/
def IsRow (k : IntKind) (w : World) (a : Option Addr) (len cap : Nat) (zs : List Int) : Prop :=
  (a = none ∧ len = 0 ∧ cap = 0 ∧ zs = []) ∨
  ∃ x, a = some x ∧ len ≤ cap ∧ cap ≤ maxLen ∧ zs.length = cap ∧ (∀ i, i < zs.length → w.cell? (x.add i) = some (.int k (zs.getD i 0))) ∧ ∀ n ∈ zs, (Lit.int k n).wf = true

theorem cell?_cells {w : World} {b o : Nat} {s : Option Nat} {v : Value} (h : w.cell? ⟨b, o, s⟩ = some v) : s = none ∧ ∃ c T fr, w.heap[b]? = some (.cells c T fr) ∧ c[o]? = some v := by
  unfold World.cell? at h
  split at h
  · rename_i c T fr hb
    split at h
    · simp at h
    · rename_i hs
      refine ⟨?_, c, T, fr, hb, h⟩
      cases s with
      | none => rfl
      | some _ => simp at hs
  · simp at h

theorem IsRow.arg {k : IntKind} {w : World} {a : Option Addr} {len cap : Nat} {zs : List Int} (h : IsRow k w a len cap zs) :
    ∃ ch : Chunk, ArgI k a len cap ch (fun i => zs.getD i 0) ∧ Has w [ch] ∧ (([ch] : List Chunk).flatten.map Prod.fst).Nodup := by
  rcases h with ⟨rfl, rfl, rfl, rfl⟩ | ⟨x, rfl, hl, hm, hz, hcell, hwz⟩
  · exact ⟨[], ⟨fun _ => rfl, fun h => by omega⟩, fun x hx => by simp at hx, by simp⟩
  · by_cases h0 : len = 0
    · exact ⟨[], ⟨fun h => by simp at h, fun h => by omega⟩, fun x hx => by simp at hx, by simp⟩
    · obtain ⟨b, o, s⟩ := x
      have hc0 := hcell 0 (by omega)
      have hsp : s = none ∧ ∃ c T fr, w.heap[b]? = some (.cells c T fr) := by
        have : (⟨b, o, s⟩ : Addr).add 0 = ⟨b, o, s⟩ := by
          unfold Addr.add; simp
        rw [this] at hc0
        obtain ⟨h1, c, T, fr, h2, _⟩ := cell?_cells hc0
        exact ⟨h1, c, T, fr, h2⟩
      obtain ⟨rfl, c, T, fr, hb⟩ := hsp
      refine ⟨[(b, .cells c T fr)], ⟨fun h => by simp at h, fun _ => ⟨b, o, c, T, fr, rfl, rfl, ?_⟩⟩, ?_, by simp⟩
      · intro i hi
        have hci := hcell i (by omega)
        rw [addr_add] at hci
        obtain ⟨_, c', T', fr', hb', hv⟩ := cell?_cells hci
        rw [hb] at hb'
        simp only [Option.some.injEq, Obj.cells.injEq] at hb'
        rw [hb'.1]; exact hv
      · intro x hx
        simp at hx
        subst hx
        exact hb
end Go.Sep
end
