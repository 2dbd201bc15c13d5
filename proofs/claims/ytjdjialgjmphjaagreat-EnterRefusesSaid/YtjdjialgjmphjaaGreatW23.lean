/- Part of the proof: W23. -/
import Derived.Test.YtjdjialgjmphjaaGreatW22
set_option linter.all false
set_option maxRecDepth 100000
set_option maxHeartbeats 8000000
namespace Go.Proofs
open Go Go.Sep
attribute [local irreducible] WS WL WH WHT OpV OpR

/-- a contract over the same memory told in other chunks -/
theorem Spec.rechunk {P : Program} {f : FuncId} {args : List Value} {A L : List Chunk} {Qp Qp' : Value → List Chunk → Prop} (S : Spec P f args A Qp) (B : List Chunk) (hp : (A ++ B).flatten.Perm L.flatten)
    (hq : ∀ v A', Qp v A' → ∃ L', L'.flatten.Perm (A' ++ B).flatten ∧ Qp' v L') : Spec P f args L Qp' :=
  ⟨S.enter, fun w R hw => (S.calls w (B ++ R) (by rw [← Fr.assoc]; exact hw.permF hp)).mono fun e w' ⟨v, A', hv, he, ho⟩ => by
    obtain ⟨L', ht', hq'⟩ := hq v A' hv
    rw [← Fr.assoc] at ho
    exact ⟨v, L', hq', he, ho.permF ht'⟩⟩

/-- .. taken from other places, given back at others -/
theorem Spec.lift2 {P : Program} {f : FuncId} {args : List Value} {A B L : List Chunk} {Qp Qp' : Value → List Chunk → Prop} (S : Spec P f args A Qp) (ks : List Nat) (ht : takes ks L = some (A, B))
    (hq : ∀ v A', Qp v A' → ∃ ks' L', takes ks' L' = some (A', B) ∧ Qp' v L') : Spec P f args L Qp' :=
  Spec.rechunk S B ((takes_perm ks L A B ht).flatten) fun v A' h => by
    obtain ⟨ks', L', h1, h2⟩ := hq v A' h
    exact ⟨L', (takes_perm ks' L' A' B h1).symm.flatten, h2⟩

/-! ## what the ring tells -/

theorem ring_Head (m : Mm) (r : Rg) : Spec Tryz.prog 58 [ptr r.rb 0] [r.blk m.mb] (fun v A => v = U r.hd ∧ A = [r.blk m.mb]) := by
  refine Spec.of Tryz.func58 rfl Tryz.call58 rfl (fun R => ?_)
  refine WS.seq ?_
  refine WS.region ?_
  refine WL.v (V.assign rfl) rfl ?_
  refine WL.done ?_
  refine WS.seq ?_
  refine WS.region ?_
  refine WL.v (V.move rfl) rfl ?_
  refine WL.v (V.nilCheck rfl) rfl ?_
  refine WL.v (V.fieldAddr rfl) rfl ?_
  refine WL.r (V.load1 0 rfl rfl rfl) rfl ?_
  refine WL.v (V.assign rfl) rfl ?_
  refine WL.done ?_
  refine WS.ret rfl ?_
  exact ⟨rfl, rfl⟩

theorem ring_Tail (m : Mm) (r : Rg) : Spec Tryz.prog 56 [ptr r.rb 0] [r.blk m.mb] (fun v A => v = U r.tl ∧ A = [r.blk m.mb]) := by
  refine Spec.of Tryz.func56 rfl Tryz.call56 rfl (fun R => ?_)
  refine WS.seq ?_
  refine WS.region ?_
  refine WL.v (V.assign rfl) rfl ?_
  refine WL.done ?_
  refine WS.seq ?_
  refine WS.region ?_
  refine WL.v (V.move rfl) rfl ?_
  refine WL.v (V.nilCheck rfl) rfl ?_
  refine WL.v (V.fieldAddr rfl) rfl ?_
  refine WL.r (V.load1 0 rfl rfl rfl) rfl ?_
  refine WL.v (V.assign rfl) rfl ?_
  refine WL.done ?_
  refine WS.ret rfl ?_
  exact ⟨rfl, rfl⟩

theorem clone_cqes (s : SL encC 4) (hb : s.xs.length ≤ 100000) :
    Spec Tryz.prog 196 [s.val] [s.ch 84] (fun v A => ∃ s' : SL encC 4, s'.xs = s.xs ∧ v = s'.val ∧ A = [s'.ch 84, s.ch 84]) := by
  refine Spec.of Tryz.func196 rfl Tryz.call196 rfl (fun R => ?_)
  obtain ⟨xs, sb, cap, junk, hnil, hfit⟩ := s
  cases sb with
  | none =>
    have := hnil rfl
    subst this
    refine WS.seq ?_
    refine WS.region ?_
    refine WL.v (V.assign rfl) rfl ?_
    refine WL.done ?_
    refine WS.seq ?_
    refine WS.seq ?_
    refine WS.region ?_
    refine WL.v (V.move rfl) rfl ?_
    refine WL.v (V.eqNilS rfl rfl) rfl ?_
    refine WL.done ?_
    refine WS.condT rfl ?_
    refine WS.seq ?_
    refine WS.region ?_
    refine WL.v (V.assign rfl) rfl ?_
    refine WL.done ?_
    refine WS.perm (pre' := [[], []]) (by simp [SL.ch]) ?_
    refine WS.ret rfl ?_
    exact ⟨SL.empty, rfl, rfl, rfl⟩
  | some sb =>
    refine WS.seq ?_
    refine WS.region ?_
    refine WL.v (V.assign rfl) rfl ?_
    refine WL.done ?_
    refine WS.seq ?_
    refine WS.seq ?_
    refine WS.region ?_
    refine WL.v (V.move rfl) rfl ?_
    refine WL.v (V.eqNilS rfl rfl) rfl ?_
    refine WL.done ?_
    refine WS.condF rfl ?_
    refine WS.skip ?_
    refine WS.seq ?_
    refine WS.region ?_
    refine WL.slice0 rfl ?_
    intro r
    refine WL.v (V.move rfl) rfl ?_
    refine WL.append (enc := encC) xs 0 (at0 r) rfl rfl rfl rfl (.inr ⟨sb, 0, cap, 1, 84, flat encC xs ++ junk, rfl, rfl, getN_append_left _ _ _ (flat_length xs)⟩) (by simp only [at0, List.length_nil]; simp only at hb; omega) rfl ?_
    intro s' hs'
    refine WL.v (V.assign rfl) rfl ?_
    refine WL.done ?_
    refine WS.ret rfl ?_
    exact ⟨s', by simpa [at0] using hs', rfl, rfl⟩

theorem ring_Over (m : Mm) (r : Rg) (hb : r.over.xs.length ≤ 100000) :
    Spec Tryz.prog 59 [ptr r.rb 0] [r.blk m.mb, r.over.ch 84] (fun v A => ∃ s : SL encC 4, s.xs = r.over.xs ∧ v = s.val ∧ A = [s.ch 84, r.blk m.mb, r.over.ch 84]) := by
  refine Spec.of Tryz.func59 rfl Tryz.call59 rfl (fun R => ?_)
  refine WS.seq ?_
  refine WS.region ?_
  refine WL.v (V.assign rfl) rfl ?_
  refine WL.done ?_
  refine WS.seq ?_
  refine WS.region ?_
  refine WL.v (V.move rfl) rfl ?_
  refine WL.v (V.nilCheck rfl) rfl ?_
  refine WL.v (V.fieldAddr rfl) rfl ?_
  refine WL.r (V.load1 0 rfl rfl rfl) rfl ?_
  refine WL.call (clone_cqes r.over hb) [1] rfl rfl rfl ?_
  rintro _ _ ⟨s', hs', rfl, rfl⟩
  refine WL.v (V.assign rfl) rfl ?_
  refine WL.done ?_
  refine WS.pick [0, 1, 0] rfl ?_
  refine WS.ret rfl ?_
  exact ⟨s', hs', rfl, rfl⟩

/-! ## over the whole -/

theorem KW.RHead (k : KW) : Spec Tryz.prog 58 [ptr k.r.rb 0] k.chs (fun v A => v = U k.r.hd ∧ A = k.chs) :=
  Spec.lift (ring_Head k.m k.r) [11] rfl (by rintro _ _ ⟨rfl, rfl⟩; exact ⟨k.chs, rfl, rfl, rfl⟩)
theorem KW.RTail (k : KW) : Spec Tryz.prog 56 [ptr k.r.rb 0] k.chs (fun v A => v = U k.r.tl ∧ A = k.chs) :=
  Spec.lift (ring_Tail k.m k.r) [11] rfl (by rintro _ _ ⟨rfl, rfl⟩; exact ⟨k.chs, rfl, rfl, rfl⟩)
theorem KW.RValid (k : KW) : Spec Tryz.prog 188 [ptr k.r.rb 0] k.chs (fun v A => v = B ((k.view.waiting k.x.sqb).isSome && (k.view.room k.x.cqb).isSome) ∧ A = k.chs) :=
  Spec.lift (ring_Valid k.m k.r) [11, 12, 12, 12] rfl (by rintro _ _ ⟨rfl, rfl⟩; exact ⟨k.chs, rfl, by rw [k.waiting_view, k.room_view], rfl⟩)
theorem KW.RWaiting (k : KW) : Spec Tryz.prog 57 [ptr k.r.rb 0] k.chs (fun v A => v = retN (k.view.waiting k.x.sqb) ∧ A = k.chs) :=
  Spec.lift (ring_Waiting k.m k.r) [11, 12, 12, 12] rfl (by rintro _ _ ⟨rfl, rfl⟩; exact ⟨k.chs, rfl, by rw [k.waiting_view], rfl⟩)
theorem KW.RRoom (k : KW) : Spec Tryz.prog 60 [ptr k.r.rb 0] k.chs (fun v A => v = retN (k.view.room k.x.cqb) ∧ A = k.chs) :=
  Spec.lift (ring_Room k.m k.r) [11, 12, 12, 12] rfl (by rintro _ _ ⟨rfl, rfl⟩; exact ⟨k.chs, rfl, by rw [k.room_view], rfl⟩)
theorem KW.RFlush0 (k : KW) (h : k.r.over.xs = []) : Spec Tryz.prog 189 [ptr k.r.rb 0] k.chs (fun v A => v = I 0 ∧ A = k.chs) :=
  Spec.lift (ring_Flush_nil k.m k.r h) [11, 12, 12, 12] rfl (by rintro _ _ ⟨rfl, rfl⟩; exact ⟨k.chs, rfl, rfl, rfl⟩)
theorem KW.ROver (k : KW) (hb : k.r.over.xs.length ≤ 100000) : Spec Tryz.prog 59 [ptr k.r.rb 0] k.chs (fun v A => ∃ s : SL encC 4, s.xs = k.view.over ∧ v = s.val ∧ A = s.ch 84 :: k.chs) :=
  Spec.lift2 (ring_Over k.m k.r hb) [11, 11] rfl (by rintro _ _ ⟨s, h1, rfl, rfl⟩; exact ⟨[0, 11, 11], s.ch 84 :: k.chs, rfl, s, h1, rfl, rfl⟩)
theorem KW.JAll (k : KW) (hb : k.j.xs.length ≤ 100000) : Spec Tryz.prog 52 [ptr k.x.sb 12] k.chs (fun v A => ∃ s : SL encD 7, s.xs = k.view.J ∧ v = s.val ∧ A = s.ch 73 :: k.chs) :=
  Spec.lift2 (journal_All k.x.sb 12 260 k.cells k.j rfl hb) [0, 1] rfl (by rintro _ _ ⟨s, h1, rfl, rfl⟩; exact ⟨[0, 0, 1], s.ch 73 :: k.chs, rfl, s, h1, rfl, rfl⟩)

def AS.raw (sb : Nat) (a : AS) (i : Nat) : List UInt8 := ((a.at_ 5).drop (16 + (a.hd + UInt32.ofNat i).toNat % 2 ^ sb * 32)).take 32
def AS.adv (a : AS) (n : Nat) : AS := { a.wr 5 0 (le4 (a.hd + UInt32.ofNat n)) with hd := a.hd + UInt32.ofNat n }

theorem KW.at_view (k : KW) (u : Nat) : k.m.at_ u = k.view.at_ u := by simp only [AS.at_, Mm.at_view, KW.view]

theorem KW.RFetch (k : KW) (i : Nat) (hi : i ≤ 100000) : Spec Tryz.prog 210 [ptr k.r.rb 0, I i] k.chs (fun v A => ∃ s : SL encY 1, s.xs = k.view.raw k.x.sqb i ∧ v = s.val ∧ A = s.ch 5 :: k.chs) :=
  Spec.lift2 (ring_Fetch k.m k.r i hi) [11, 12, 12, 12] rfl (by
    rintro _ _ ⟨s, h1, rfl, rfl⟩
    refine ⟨[0, 11, 12, 12, 12], s.ch 5 :: k.chs, rfl, s, ?_, rfl, rfl⟩
    rw [h1, k.at_view, k.hsq, k.hsb]
    rfl)

theorem KW.RAdvance (k : KW) (n : Nat) (hn : n ≤ 100000) : Spec Tryz.prog 211 [ptr k.r.rb 0, I n] k.chs (fun _ A => ∃ k' : KW, k'.x = k.x ∧ k'.view = k.view.adv n ∧ A = k'.chs) :=
  Spec.lift (ring_Advance k.m k.r n hn) [11, 12, 12, 12] rfl (by
    rintro _ _ rfl
    let k' : KW := { k with m := k.m.wr k.r.sq 0 (le4 (k.r.hd + UInt32.ofNat n)), r := { k.r with hd := k.r.hd + UInt32.ofNat n }, hrb := k.hrb, hsq := k.hsq, hcq := k.hcq, hsb := k.hsb, hcb := k.hcb }
    refine ⟨k'.chs, rfl, k', rfl, ?_, rfl⟩
    simp only [KW.view, k', AS.adv, AS.wr, Mm.wr_view, k.hsq])

/-- bytes that the law writes, the thread's own -/
theorem KW.Write (k : KW) (u off : Nat) (s : SL encY 1) (hu : 1 ≤ u) (hu2 : u ≤ 64) (ho : off < 512) (h0 : 0 < s.xs.length) (hn : off + s.xs.length ≤ 512) :
    Spec Tryz.prog 48 [ptr k.m.mb 0, I u, I off, s.val] (k.chs ++ [s.ch 5]) (fun v A => ∃ k' : KW, k'.x = k.x ∧ k'.view = k.view.wr u off s.xs ∧ v = B true ∧ A = k'.chs ++ [s.ch 5]) :=
  Spec.lift (mem_WriteS k.m u off s hu hu2 ho h0 hn) [13, 13, 13, 13] rfl (by
    rintro _ _ ⟨rfl, rfl⟩
    let k' : KW := { k with m := k.m.wr u off s.xs, hrb := k.hrb, hsq := k.hsq, hcq := k.hcq, hsb := k.hsb, hcb := k.hcb }
    refine ⟨k'.chs ++ [s.ch 5], rfl, k', rfl, ?_, rfl, rfl⟩
    simp only [KW.view, k', AS.wr, Mm.wr_view])

/-! ## slices of bytes -/

def encRaw (s : SL encY 1) : List Value := [s.val]
instance : Enc encRaw 1 := ⟨fun _ => rfl, fun s => by cases h : s.b <;> simp [encRaw, SL.val, h, allOne, oneC], by omega⟩
def rawC (l : List (SL encY 1)) : Chunk := (l.map (fun s => s.ch 5)).flatten

theorem rawC_append (l l' : List (SL encY 1)) : rawC (l ++ l') = rawC l ++ rawC l' := by simp [rawC]
theorem rawC_split (l : List (SL encY 1)) (i : Nat) (s : SL encY 1) (h : l[i]? = some s) : ([s.ch 5] ++ [rawC (l.take i), rawC (l.drop (i + 1))]).flatten.Perm [rawC l].flatten := by
  have hlt : i < l.length := (List.getElem?_eq_some_iff.1 h).1
  have hs : l[i] = s := (List.getElem?_eq_some_iff.1 h).2
  have e : l = l.take i ++ s :: l.drop (i + 1) := by
    rw [← hs, List.getElem_cons_drop, List.take_append_drop]
  have e2 : rawC l = rawC (l.take i) ++ (s.ch 5 ++ rawC (l.drop (i + 1))) := by
    conv => lhs; rw [e]
    simp [rawC]
  rw [e2]
  simp only [List.singleton_append, List.flatten_cons, List.flatten_nil, List.append_nil]
  rw [← List.append_assoc, ← List.append_assoc]
  exact List.Perm.append_right _ List.perm_append_comm

/-- of one among them -/
theorem Spec.raw {f : FuncId} {args : List Value} {Qv : Value → Prop} (l : List (SL encY 1)) (i : Nat) (s : SL encY 1) (h : l[i]? = some s)
    (S : Spec Tryz.prog f args [s.ch 5] (fun v A => Qv v ∧ A = [s.ch 5])) : Spec Tryz.prog f args [rawC l] (fun v A => Qv v ∧ A = [rawC l]) :=
  Spec.rechunk S [rawC (l.take i), rawC (l.drop (i + 1))] (rawC_split l i s h) (by
    rintro v _ ⟨hv, rfl⟩
    exact ⟨[rawC l], (rawC_split l i s h).symm, hv, rfl⟩)
end Go.Proofs
