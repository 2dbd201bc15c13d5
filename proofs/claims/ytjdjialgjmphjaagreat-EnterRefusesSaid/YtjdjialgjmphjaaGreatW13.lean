/- Part of the proof: W13. -/
import Derived.Test.YtjdjialgjmphjaaGreatW12
set_option linter.all false
set_option maxRecDepth 100000
set_option maxHeartbeats 8000000
namespace Go.Proofs
open Go Go.Sep
attribute [local irreducible] WS WL WH WHT OpV OpR

/-- a call: what it gives back stands behind the rest -/
theorem WL.callB {P : Program} {ops : Array Oper} {Q : Exit → Act → World → Prop} {n : Nat} {R : Fr} {rest : List Oper} {env : List (Nat × Value)} {pre : List Chunk}
    {T : TypeId} {pos : String} {aft : Array Edge} {d : Nat} {f : FuncId} {xs : List Operand} {args : List Value} {ats : Array TypeId} {A B : List Chunk} {Qp : Value → List Chunk → Prop} (S : Spec P f args A Qp) (ks : List Nat)
    (hx : evs env xs = some args) (ht : takes ks pre = some (A, B)) (hd : Nat.blt d n = true)
    (k : ∀ v A', Qp v A' → WL P ops Q n R rest ((d, v) :: env) (B ++ A')) :
    WL P ops Q n R (⟨some d, .call ⟨.value (.func f), xs.toArray, ats⟩, T, pos, aft, none⟩ :: rest) env pre :=
  WL.call S ks hx ht hd (fun v A' h => WL.perm (by
    simp only [List.flatten_append]
    exact List.perm_append_comm) (k v A' h))

/-- the whole's places -/
abbrev wk (n : Nat) : List Nat := [n, n, n, n, n, n, n, n, n, n, n, n, n, n, n, n]

/-! ## the plain state -/

structure AS where
  us : List (List UInt8)
  hd : UInt32
  tl : UInt32
  over : List Cqe
  L : List Req
  J : List Deed
  taken : Nat
  now : UInt64

def KW.view (k : KW) : AS := ⟨k.m.us.map (·.2), k.r.hd, k.r.tl, k.r.over.xs, k.t.L, k.j.xs, k.taken, k.now⟩

namespace AS
def at_ (a : AS) (u : Nat) : List UInt8 := (a.us[u - 1]?).getD []
def word (a : AS) (u off : Nat) : UInt32 := u32At (a.at_ u) off
def dist (a : AS) : UInt32 := a.word 5 4 - a.hd
def used (a : AS) : UInt32 := a.tl - a.word 6 0
def waiting (sb : Nat) (a : AS) : Option Nat := if a.dist.toNat ≤ 2 ^ sb then some a.dist.toNat else none
def room (cb : Nat) (a : AS) : Option Nat := if a.used.toNat ≤ 2 ^ cb then some (2 ^ cb - a.used.toNat) else none
def fits (cb : Nat) (a : AS) : Bool := decide (1 ≤ (a.room cb).getD 0)
def wr (a : AS) (u off : Nat) (b : List UInt8) : AS := { a with us := a.us.modify (u - 1) (fun l => laidIn l off b) }
def out (cb : Nat) (a : AS) (c : Cqe) : AS := { (a.wr 6 (16 + a.tl.toNat % 2 ^ cb * 16) c.bytes).wr 6 4 (le4 (a.tl + 1)) with tl := a.tl + 1 }
def post (cb : Nat) (a : AS) (c : Cqe) : AS := if (a.over.length == 0 && a.fits cb) = true then a.out cb c else { a with over := a.over ++ [c] }
def tell (cb : Nat) (a : AS) (d : Deed) : AS := post cb { a with J := a.J ++ [d] } (Cqe.of d)
def find (a : AS) (id : ID) : Option Req := a.L.find? (fun r => decide (r.id = id))
def of (a : AS) (ring : Nat) : List Req := a.L.filter (fun r => decide (r.id.ring = ring))
def after (a : AS) (id : ID) : Option Req := (a.of id.ring).find? (fun r => decide (r.prev = id.seq))
def drop (a : AS) (id : ID) : AS := { a with L := a.L.filter (fun r => decide (r.id ≠ id)) }
end AS

theorem Mm.at_view (m : Mm) (u : Nat) : m.at_ u = ((m.us.map (·.2))[u - 1]?).getD [] := by
  simp [Mm.at_]

theorem Mm.wr_view (m : Mm) (u off : Nat) (b : List UInt8) : (m.wr u off b).us.map (·.2) = (m.us.map (·.2)).modify (u - 1) (fun l => laidIn l off b) := by
  apply List.ext_getElem?
  intro j
  simp only [Mm.wr, List.getElem?_map, List.getElem?_modify]
  cases m.us[j]? with
  | none => simp
  | some p =>
    simp only [Option.map_some]
    split <;> rfl

theorem KW.word_view (k : KW) (u off : Nat) : k.m.word u off = k.view.word u off := by
  simp only [Mm.word, AS.word, AS.at_, Mm.at_view, KW.view]

theorem KW.room_view (k : KW) : k.r.room k.m = k.view.room k.x.cqb := by
  simp only [Rg.room, AS.room, Rg.used, AS.used, k.hcq, k.hcb, k.word_view]
  rfl
theorem KW.waiting_view (k : KW) : k.r.waiting k.m = k.view.waiting k.x.sqb := by
  simp only [Rg.waiting, AS.waiting, Rg.dist, AS.dist, k.hsq, k.hsb, k.word_view]
  rfl
theorem KW.fits_view (k : KW) : k.r.fits k.m = k.view.fits k.x.cqb := by
  simp only [Rg.fits, AS.fits, k.room_view]

/-- the ring tells of a completion -/
theorem KW.Post (k : KW) (c : Cqe) (hb : k.r.over.xs.length ≤ 100000) :
    Spec Tryz.prog 356 [ptr k.r.rb 0, .agg (encC c).toArray] k.chs (fun _ A => ∃ k' : KW, k'.x = k.x ∧ k'.view = k.view.post k.x.cqb c ∧ A = k'.chs) := by
  by_cases h : (k.r.over.xs.length == 0 && k.r.fits k.m) = true
  · refine Spec.lift (ring_Post_in k.m k.r c h) [11, 12, 12, 12] rfl ?_
    rintro _ _ ⟨rfl, rfl⟩
    let k' : KW := { k with m := k.r.outM k.m c, r := k.r.out, hrb := k.hrb, hsq := k.hsq, hcq := k.hcq, hsb := k.hsb, hcb := k.hcb }
    refine ⟨k'.chs, rfl, k', rfl, ?_, rfl⟩
    have h2 := h
    rw [k.fits_view] at h2
    have h3 : (k.view.over.length == 0 && k.view.fits k.x.cqb) = true := h2
    rw [AS.post, if_pos h3]
    simp only [KW.view, k', AS.out, AS.wr, Rg.out, Rg.outM, Mm.wr_view, k.hcq, k.hcb]
  · have h' : (k.r.over.xs.length == 0 && k.r.fits k.m) = false := by simpa using h
    refine Spec.lift (ring_Post_over k.m k.r c h' hb) [11, 11, 11, 11, 11] rfl ?_
    rintro _ _ ⟨s, hs, rfl, rfl⟩
    let k' : KW := { k with r := { k.r with over := s }, hrb := k.hrb, hsq := k.hsq, hcq := k.hcq, hsb := k.hsb, hcb := k.hcb }
    refine ⟨k'.chs, rfl, k', rfl, ?_, rfl⟩
    have h3 : ¬ (k.view.over.length == 0 && k.view.fits k.x.cqb) = true := by
      rw [← k.fits_view]; exact h
    rw [AS.post, if_neg h3]
    simp only [KW.view, k', hs]

theorem KW.Tell (k : KW) (d : Deed) (hr : d.ring = 4) (hb : k.r.over.xs.length ≤ 100000) (hj : k.j.xs.length ≤ 100000) :
    Spec Tryz.prog 214 [k.p, .agg (encD d).toArray] k.chs (fun _ A => ∃ k' : KW, k'.x = k.x ∧ k'.view = k.view.tell k.x.cqb d ∧ A = k'.chs) := by
  refine Spec.of Tryz.func214 rfl Tryz.call214 rfl (fun R => ?_)
  obtain ⟨ring, seq, tag, op, res, val, gone⟩ := d
  simp only at hr
  subst hr
  refine WS.seq ?_
  refine WS.region ?_
  refine WL.box rfl rfl ?_; intro r_
  refine WL.done ?_
  refine WS.seq ?_
  refine WS.regionK [0] rfl Tryz.mixed rfl ?_
  refine WH.pick rfl ?_
  refine WHT.v (V.move rfl) rfl rfl rfl rfl ?_
  refine WH.pick rfl ?_
  refine WHT.rh (V.loadN 0 rfl rfl rfl) rfl (by simp) rfl rfl rfl rfl ?_
  refine WH.big rfl rfl rfl ?_; intro _ _
  refine WL.callB k.Journal (wk 1) rfl rfl rfl ?_
  rintro _ _ ⟨rfl, rfl⟩
  refine WL.nextH (ok := by assumption) (hns := by assumption) (by simp) ?_
  refine WH.big rfl rfl rfl ?_; intro _ _
  refine WL.callB (k.JAdd _ hj) (wk 1) rfl rfl rfl ?_
  rintro _ _ ⟨j', hj', rfl⟩
  generalize hk1 : ({ k with j := j' } : KW) = k1
  have hx1 : k1.x = k.x := by rw [← hk1]
  have hv1 : k1.view = { k.view with J := k.view.J ++ [⟨4, seq, tag, op, res, val, gone⟩] } := by rw [← hk1]; simp only [KW.view, hj']
  have ho1 : k1.r.over = k.r.over := by rw [← hk1]
  rw [show k.p = k1.p from by rw [KW.p, KW.p, hx1]]
  refine WL.nextH (ok := by assumption) (hns := by assumption) (by simp) ?_
  refine WH.done ?_
  refine WS.seq ?_
  refine WS.seq ?_
  refine WS.region ?_
  refine WL.v (V.move rfl) rfl ?_
  refine WL.v (V.fieldAddr rfl) rfl ?_
  refine WL.v (V.fieldAddr rfl) rfl ?_
  refine WL.r (V.load1 0 rfl rfl rfl) rfl ?_
  refine WL.callB (k1.Ring 4) (wk 1) rfl rfl rfl ?_
  rintro _ _ ⟨rfl, rfl⟩
  rw [if_pos rfl]
  refine WL.v (V.assign rfl) rfl ?_
  refine WL.done ?_
  refine WS.seq ?_
  refine WS.region ?_
  refine WL.v (V.move rfl) rfl ?_
  refine WL.v (V.neNilP rfl rfl) rfl ?_
  refine WL.done ?_
  refine WS.condT rfl ?_
  refine WS.region ?_
  refine WL.v (V.move rfl) rfl ?_
  refine WL.r (V.loadN 0 rfl rfl rfl) rfl ?_
  refine WL.callB (comp_Of _) [] rfl rfl rfl ?_
  rintro _ _ ⟨rfl, rfl⟩
  refine WL.callB (k1.Post _ (by rw [ho1]; exact hb)) (wk 1) rfl rfl rfl ?_
  rintro _ _ ⟨k2, hx2, hv2, rfl⟩
  rw [show k1.p = k2.p from by rw [KW.p, KW.p, hx2]]
  refine WL.done ?_
  refine WS.seq ?_
  refine WS.region ?_
  refine WL.v (V.move rfl) rfl ?_
  refine WL.v (V.fieldAddr rfl) rfl ?_
  refine WL.v (V.fieldAddr rfl) rfl ?_
  refine WL.r (V.load1 0 rfl rfl rfl) rfl ?_
  refine WL.callB (k2.Bell 4) (wk 1) rfl rfl rfl ?_
  rintro _ _ ⟨rfl, rfl⟩
  refine WL.v (V.move rfl) rfl ?_
  refine WL.v (V.extractL rfl rfl) rfl ?_
  refine WL.v (V.extractL rfl rfl) rfl ?_
  refine WL.v (V.assign rfl) rfl ?_
  refine WL.v (V.assign rfl) rfl ?_
  refine WL.done ?_
  refine WS.seq ?_
  refine WS.region ?_
  refine WL.v (V.move rfl) rfl ?_
  refine WL.v (V.move rfl) rfl ?_
  refine WL.callB (k2.Notif 0) (wk 1) rfl rfl rfl ?_
  rintro _ _ ⟨rfl, rfl⟩
  refine WL.v (V.assign rfl) rfl ?_
  refine WL.done ?_
  refine WS.seq ?_
  refine WS.region ?_
  refine WL.v (V.move rfl) rfl ?_
  refine WL.v (V.neNilP rfl rfl) rfl ?_
  refine WL.done ?_
  refine WS.condF rfl ?_
  refine WS.skip ?_
  refine WS.pick (wk 1) rfl ?_
  refine WS.fin rfl ?_
  refine ⟨k2, hx2.trans hx1, ?_, rfl⟩
  rw [hv2, hv1, hx1]
  rfl

theorem KW.Forget (k : KW) (id : ID) : Spec Tryz.prog 287 [k.p, kID id] k.chs (fun _ A => A = k.chs) := by
  refine Spec.of Tryz.func287 rfl Tryz.call287 rfl (fun R => ?_)
  refine WS.seq ?_
  refine WS.region ?_
  refine WL.box rfl rfl ?_; intro r_
  refine WL.done ?_
  refine WS.seq ?_
  refine WS.regionK [0] rfl Tryz.mixed rfl ?_
  refine WH.pick rfl ?_
  refine WHT.v (V.move rfl) rfl rfl rfl rfl ?_
  refine WH.pick rfl ?_
  refine WHT.rh (V.loadN 0 rfl rfl rfl) rfl (by simp) rfl rfl rfl rfl ?_
  refine WH.big rfl rfl rfl ?_; intro _ _
  refine WL.callB k.Timers (wk 1) rfl rfl rfl ?_
  rintro _ _ ⟨rfl, rfl⟩
  refine WL.nextH (ok := by assumption) (hns := by assumption) (by simp) ?_
  refine WH.big rfl rfl rfl ?_; intro _ _
  refine WL.callB (k.TDrop id) (wk 1) rfl rfl rfl ?_
  rintro _ _ ⟨rfl, rfl⟩
  refine WL.nextH (ok := by assumption) (hns := by assumption) (by simp) ?_
  refine WH.done ?_
  refine WS.seq ?_
  refine WS.region ?_
  refine WL.v (V.assign rfl) rfl ?_
  refine WL.done ?_
  refine WS.block ?_
  refine WS.keep [4, 0, 3] rfl ?_
  refine WS.loop (ι := {u : Nat // u ≤ 65}) (fun u => [(4, I u.1), (0, k.p), (3, ptr r_ 0)]) (fun _ => [blk r_ 41 (cellsV (kID id))] ++ k.chs) (fun u => 65 - u.1) ⟨1, by omega⟩ ?_
  rintro ⟨u, hu⟩ X ih
  simp only at ih ⊢
  refine WS.seq ?_
  refine WS.seq ?_
  refine WS.region ?_
  refine WL.v (V.move rfl) rfl ?_
  refine WL.v (V.le rfl rfl) rfl ?_
  refine WL.done ?_
  (refine WS.condD rfl ?_ ?_) <;> intro h_ <;> try (exfalso; omega)
  refine WS.skip ?_
  refine WS.seq ?_
  refine WS.block ?_
  refine WS.seq ?_
  refine WS.seq ?_
  refine WS.region ?_
  refine WL.v (V.move rfl) rfl ?_
  refine WL.v (V.move rfl) rfl ?_
  rotate_left
  refine WS.exit rfl ?_
  rotate_left
  · refine WL.callB (k.Endpoint u) (wk 1) rfl rfl rfl ?_
    rintro _ _ ⟨rfl, rfl⟩
    refine WL.v (V.assign rfl) rfl ?_
    refine WL.done ?_
    refine WS.seq ?_
    refine WS.region ?_
    refine WL.v (V.move rfl) rfl ?_
    refine WL.v (V.neNilP rfl rfl) rfl ?_
    refine WL.done ?_
    refine WS.condF rfl ?_
    refine WS.skip ?_
    refine WS.seq ?_
    refine WS.seq ?_
    refine WS.region ?_
    refine WL.v (V.move rfl) rfl ?_
    refine WL.v (V.move rfl) rfl ?_
    refine WL.callB (k.Notif u) (wk 1) rfl rfl rfl ?_
    rintro _ _ ⟨rfl, rfl⟩
    refine WL.v (V.assign rfl) rfl ?_
    refine WL.done ?_
    refine WS.seq ?_
    refine WS.region ?_
    refine WL.v (V.move rfl) rfl ?_
    refine WL.v (V.neNilP rfl rfl) rfl ?_
    refine WL.done ?_
    refine WS.condF rfl ?_
    refine WS.skip ?_
    refine WS.seq ?_
    refine WS.region ?_
    refine WL.v (V.move rfl) rfl ?_
    refine WL.v (V.move rfl) rfl ?_
    refine WL.callB (k.Reply u) (wk 1) rfl rfl rfl ?_
    rintro _ _ ⟨rfl, rfl⟩
    by_cases h7 : (u : Int) = 7
    · rw [if_pos h7]
      refine WL.v (V.assign rfl) rfl ?_
      refine WL.done ?_
      refine WS.seq ?_
      refine WS.region ?_
      refine WL.v (V.move rfl) rfl ?_
      refine WL.v (V.neNilP rfl rfl) rfl ?_
      refine WL.done ?_
      refine WS.condT rfl ?_
      refine WS.region ?_
      refine WL.v (V.move rfl) rfl ?_
      refine WL.r (V.loadN 0 rfl rfl rfl) rfl ?_
      refine WL.callB (k.CDrop id) (wk 1) rfl rfl rfl ?_
      rintro _ _ ⟨rfl, rfl⟩
      refine WL.done ?_
      refine WS.blk ?_
      refine WS.region ?_
      refine WL.v (V.move rfl) rfl ?_
      refine WL.v (V.add rfl rfl (fits_i64 (by omega) (by omega))) rfl ?_
      refine WL.v (V.assign rfl) rfl ?_
      refine WL.done ?_
      refine WS.keep [4, 0, 3] rfl ?_
      exact ih ⟨u + 1, by omega⟩ (by simp only; omega)
    · rw [if_neg h7]
      refine WL.v (V.assign rfl) rfl ?_
      refine WL.done ?_
      refine WS.seq ?_
      refine WS.region ?_
      refine WL.v (V.move rfl) rfl ?_
      refine WL.v (V.neNilP rfl rfl) rfl ?_
      refine WL.done ?_
      refine WS.condF rfl ?_
      refine WS.skip ?_
      refine WS.blk ?_
      refine WS.region ?_
      refine WL.v (V.move rfl) rfl ?_
      refine WL.v (V.add rfl rfl (fits_i64 (by omega) (by omega))) rfl ?_
      refine WL.v (V.assign rfl) rfl ?_
      refine WL.done ?_
      refine WS.keep [4, 0, 3] rfl ?_
      exact ih ⟨u + 1, by omega⟩ (by simp only; omega)
  · refine WS.pick (wk 1) rfl ?_
    refine WS.fin rfl ?_
    rfl
end Go.Proofs
