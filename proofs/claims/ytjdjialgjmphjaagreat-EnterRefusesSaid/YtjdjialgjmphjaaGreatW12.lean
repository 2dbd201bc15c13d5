/- Part of the proof: W12. -/
import Derived.Test.YtjdjialgjmphjaaGreatW11
set_option linter.all false
set_option maxRecDepth 100000
set_option maxHeartbeats 8000000
namespace Go.Proofs
open Go Go.Sep
attribute [local irreducible] WS WL WH WHT OpV OpR

/-- a contract over more memory -/
theorem Spec.lift {P : Program} {f : FuncId} {args : List Value} {A B L : List Chunk} {Qp Qp' : Value → List Chunk → Prop} (S : Spec P f args A Qp) (ks : List Nat) (ht : takes ks L = some (A, B))
    (hq : ∀ v A', Qp v A' → ∃ L', takes ks L' = some (A', B) ∧ Qp' v L') : Spec P f args L Qp' :=
  ⟨S.enter, fun w R hw => (S.calls w (B ++ R) (Own.takes hw ht)).mono fun e w' ⟨v, A', hv, he, ho⟩ => by
    obtain ⟨L', ht', hq'⟩ := hq v A' hv
    refine ⟨v, L', hq', he, ?_⟩
    rw [← Fr.assoc] at ho
    exact ho.perm (takes_perm ks L' A' B ht').symm⟩

theorem GMap.get_put {β : Type} (m : GMap Int β) (k : Int) (v : β) : (m.put k v).get k = some v := by
  unfold GMap.get
  cases hp : GMap.pos k m.es with
  | none =>
    rw [(GMap.put_none (v := v) hp).1]
    have : ∀ es : List (Ent Int β), GMap.pos k es = none → (GMap.pos k (es ++ [⟨k, v, m.ck⟩])).map (·.2) = some v := by
      intro es
      induction es with
      | nil => intro _; simp [GMap.pos]
      | cons e es ih =>
        intro h
        simp only [GMap.pos] at h
        split at h
        · simp at h
        · rename_i hne
          have h2 : GMap.pos k es = none := by
            split at h
            · simp at h
            · assumption
          have := ih h2
          simp only [List.cons_append, GMap.pos, if_neg hne]
          cases hq : GMap.pos k (es ++ [⟨k, v, m.ck⟩]) with
          | none => rw [hq] at this; simp at this
          | some y => rw [hq] at this; simpa using this
    exact this _ hp
  | some x =>
    rw [(GMap.put_some (v := v) hp).1]
    have : ∀ (es : List (Ent Int β)) (x : Nat × β), GMap.pos k es = some x → (GMap.pos k (GMap.upd k v es)).map (·.2) = some v := by
      intro es
      induction es with
      | nil => intro x h; simp [GMap.pos] at h
      | cons e es ih =>
        intro x h
        simp only [GMap.pos] at h
        simp only [GMap.upd, List.map_cons, GMap.pos]
        split at h
        · rename_i he; simp [he]
        · rename_i hne
          simp only [if_neg hne]
          split at h
          · rename_i y hy
            have := ih _ hy
            simp only [GMap.upd] at this
            cases hq : GMap.pos k (es.map fun e => if e.k = k then { e with v := v } else e) with
            | none => rw [hq] at this; simp at this
            | some z => rw [hq] at this; simpa using this
          · simp at h
    exact this _ x hp

/-! ## the whole, where there is one thread -/

def th1 : Thr := ⟨2, 3, 4, 2, 1, 0, 0, 7⟩

/-- what does not turn -/
structure Fx where
  sb : Nat
  units : Nat
  sqb : Nat
  cqb : Nat
  slotsV : Value
  marksV : Value
  mapsV : Value
  queueV : Value
  notB : Nat
  epB : Nat
  repB : Nat
  ringB : Nat
  thB : Nat
  spB : Nat
  prB : Nat
  belB : Nat
  takB : Nat
  nots : GMap Int Nat
  eps : GMap Int Nat
  reps : GMap Int Nat
  rings : GMap Int Nat
  ths : GMap Int Thr
  bells : GMap Int (Int × UInt32)
  cell : Nat
  cx : Value
  cy : Value
  rb : Nat
  hnots : ∀ u, nots.get u = none
  heps : ∀ u, eps.get u = none
  hreps : ∀ u, reps.get u = if u = 7 then some cell else none
  hrings : ∀ u, rings.get u = if u = 4 then some rb else none
  hths : ths.es.map (·.v) = [th1]
  hth : ∀ u, ths.get u = if u = 2 then some th1 else none
  hbells : ∀ u, bells.get u = none

structure KW where
  x : Fx
  m : Mm
  r : Rg
  t : RT
  j : SL encD 7
  taks : GMap Int Int
  taken : Nat
  now : UInt64
  hrb : r.rb = x.rb
  hsq : r.sq = 5
  hcq : r.cq = 6
  hsb : r.sb = x.sqb
  hcb : r.cb = x.cqb
  htak : taks.get 4 = some (taken : Int)

def KW.cells (k : KW) : List Value := [I 1, I k.x.units, I k.x.sqb, I k.x.cqb, B false, ptr k.m.mb 0, k.x.slotsV, k.x.marksV, k.x.mapsV, k.x.queueV, k.t.p.val, .slice none 0 0, k.j.val,
  .map (some k.x.notB), .map (some k.x.epB), .map (some k.x.repB), .map (some k.x.ringB), .map (some k.x.thB), .map (some k.x.spB), .map (some k.x.prB), .map (some k.x.belB), .map (some k.x.takB), .int .u64 k.now.toNat]

def KW.chs (k : KW) : List Chunk := [blk k.x.sb 260 k.cells, k.t.ch, k.j.ch 73, mapC k.x.notB kI vP k.x.nots, mapC k.x.epB kI vP k.x.eps, mapC k.x.repB kI vP k.x.reps, mapC k.x.ringB kI vP k.x.rings,
  mapC k.x.thB kI vTh k.x.ths, mapC k.x.belB kI vB k.x.bells, mapC k.x.takB kI kI k.taks, blk k.x.cell 354 [k.x.cx, k.x.cy, B false], k.r.blk k.m.mb, k.r.over.ch 84,
  blk k.m.mb 415 [sl k.m.lb 0 64 k.m.cap], blk k.m.lb 57 (hdrs k.m.us ++ k.m.junk), usC k.m.us]

abbrev KW.p (k : KW) : Value := ptr k.x.sb 0

theorem KW.Reqs (k : KW) : Spec Tryz.prog 32 [k.p] k.chs (fun v A => v = ptr k.x.sb 10 ∧ A = k.chs) :=
  Spec.lift (core_Reqs k.x.sb k.cells) [0] rfl (by rintro _ _ ⟨rfl, rfl⟩; exact ⟨k.chs, rfl, rfl, rfl⟩)
theorem KW.Journal (k : KW) : Spec Tryz.prog 51 [k.p] k.chs (fun v A => v = ptr k.x.sb 12 ∧ A = k.chs) :=
  Spec.lift (core_Journal k.x.sb k.cells) [0] rfl (by rintro _ _ ⟨rfl, rfl⟩; exact ⟨k.chs, rfl, rfl, rfl⟩)
theorem KW.Timers (k : KW) : Spec Tryz.prog 74 [k.p] k.chs (fun v A => v = ptr k.x.sb 11 ∧ A = k.chs) :=
  Spec.lift (core_Timers k.x.sb k.cells) [0] rfl (by rintro _ _ ⟨rfl, rfl⟩; exact ⟨k.chs, rfl, rfl, rfl⟩)
theorem KW.Mem (k : KW) : Spec Tryz.prog 47 [k.p] k.chs (fun v A => v = ptr k.m.mb 0 ∧ A = k.chs) :=
  Spec.lift (core_Mem k.x.sb k.cells _ rfl) [0] rfl (by rintro _ _ ⟨rfl, rfl⟩; exact ⟨k.chs, rfl, rfl, rfl⟩)
theorem KW.Now (k : KW) : Spec Tryz.prog 170 [k.p] k.chs (fun v A => v = .int .u64 k.now.toNat ∧ A = k.chs) :=
  Spec.lift (core_Now k.x.sb k.cells _ rfl) [0] rfl (by rintro _ _ ⟨rfl, rfl⟩; exact ⟨k.chs, rfl, rfl, rfl⟩)
theorem KW.Notif (k : KW) (u : Int) : Spec Tryz.prog 330 [k.p, I u] k.chs (fun v A => v = .pointer none ∧ A = k.chs) :=
  Spec.lift (core_Notif k.x.sb k.x.notB k.cells k.x.nots u rfl) [0, 2] rfl (by rintro _ _ ⟨rfl, rfl⟩; exact ⟨k.chs, rfl, by rw [k.x.hnots]; rfl, rfl⟩)
theorem KW.Endpoint (k : KW) (u : Int) : Spec Tryz.prog 72 [k.p, I u] k.chs (fun v A => v = .pointer none ∧ A = k.chs) :=
  Spec.lift (core_Endpoint k.x.sb k.x.epB k.cells k.x.eps u rfl) [0, 3] rfl (by rintro _ _ ⟨rfl, rfl⟩; exact ⟨k.chs, rfl, by rw [k.x.heps]; rfl, rfl⟩)
theorem KW.Reply (k : KW) (u : Int) : Spec Tryz.prog 331 [k.p, I u] k.chs (fun v A => v = ptrO (if u = 7 then some k.x.cell else none) ∧ A = k.chs) :=
  Spec.lift (core_Reply k.x.sb k.x.repB k.cells k.x.reps u rfl) [0, 4] rfl (by rintro _ _ ⟨rfl, rfl⟩; exact ⟨k.chs, rfl, by rw [k.x.hreps], rfl⟩)
theorem KW.Ring (k : KW) (u : Int) : Spec Tryz.prog 55 [k.p, I u] k.chs (fun v A => v = ptrO (if u = 4 then some k.r.rb else none) ∧ A = k.chs) :=
  Spec.lift (core_Ring k.x.sb k.x.ringB k.cells k.x.rings u rfl) [0, 5] rfl (by rintro _ _ ⟨rfl, rfl⟩; exact ⟨k.chs, rfl, by rw [k.x.hrings, k.hrb], rfl⟩)
theorem KW.Thread (k : KW) (u : Int) : Spec Tryz.prog 104 [k.p, I u] k.chs (fun v A => v = .tuple #[vTh ((if u = 2 then some th1 else none : Option Thr).getD zTh), B (if u = 2 then some th1 else none : Option Thr).isSome] ∧ A = k.chs) :=
  Spec.lift (core_Thread k.x.sb k.x.thB k.cells k.x.ths u rfl) [0, 6] rfl (by rintro _ _ ⟨rfl, rfl⟩; exact ⟨k.chs, rfl, by rw [k.x.hth], rfl⟩)
theorem KW.Owner (k : KW) : Spec Tryz.prog 131 [k.p, I 4] k.chs (fun v A => v = .tuple #[vTh th1, B true] ∧ A = k.chs) :=
  Spec.lift (core_Owner k.x.sb k.x.thB k.cells k.x.ths th1 4 rfl k.x.hths rfl) [0, 6] rfl (by rintro _ _ ⟨rfl, rfl⟩; exact ⟨k.chs, rfl, rfl, rfl⟩)
theorem KW.Bell (k : KW) (u : Int) : Spec Tryz.prog 358 [k.p, I u] k.chs (fun v A => v = .tuple #[I 0, U 0] ∧ A = k.chs) :=
  Spec.lift (core_Bell k.x.sb k.x.belB k.cells k.x.bells u rfl (k.x.hbells u)) [0, 7] rfl (by rintro _ _ ⟨rfl, rfl⟩; exact ⟨k.chs, rfl, rfl, rfl⟩)
theorem KW.Taken (k : KW) : Spec Tryz.prog 63 [k.p, I 4] k.chs (fun v A => v = I k.taken ∧ A = k.chs) :=
  Spec.lift (core_Taken k.x.sb k.x.takB k.cells k.taks 4 rfl) [0, 8] rfl (by rintro _ _ ⟨rfl, rfl⟩; exact ⟨k.chs, rfl, by rw [k.htak]; rfl, rfl⟩)

def KW.tk (k : KW) (n : Nat) : KW := { k with taks := k.taks.put 4 ((k.taken : Int) + n), taken := k.taken + n, htak := by rw [GMap.get_put]; simp }

theorem KW.Take (k : KW) (n : Nat) (hk : k.taken ≤ 1000000) (hn : n ≤ 1000) : Spec Tryz.prog 149 [k.p, I 4, I n] k.chs (fun v A => v = I ((k.taken + 1 : Nat) : Int) ∧ A = (k.tk n).chs) :=
  Spec.lift (core_Take k.x.sb k.x.takB k.cells k.taks 4 k.taken n rfl k.htak hk hn (GMap.get_put _ _ _)) [0, 8] rfl (by rintro _ _ ⟨rfl, rfl⟩; exact ⟨(k.tk n).chs, rfl, rfl, rfl⟩)

/-- requests -/
theorem KW.Get (k : KW) (id : ID) : Spec Tryz.prog 152 [ptr k.x.sb 10, kID id] k.chs (fun v A => v = .tuple #[vR ((k.t.find id).getD zR), B (k.t.find id).isSome] ∧ A = k.chs) :=
  Spec.lift (reqs_Get k.x.sb 10 260 k.cells k.t id rfl) [0, 0] rfl (by rintro _ _ ⟨rfl, rfl⟩; exact ⟨k.chs, rfl, rfl, rfl⟩)
theorem KW.Of (k : KW) (hb : (k.t.of 4).length ≤ 12) (hk : k.t.L.length ≤ 1000) : Spec Tryz.prog 53 [ptr k.x.sb 10, I 4] k.chs (fun v A => ∃ s : SL encR 13, s.xs = k.t.of 4 ∧ v = s.val ∧ A = s.ch 210 :: k.chs) := by
  have h := reqs_Of k.x.sb 10 260 k.cells k.t 4 rfl hb hk
  refine ⟨h.enter, fun w R hw => ?_⟩
  have := (h.frame (k.chs.drop 2)).calls w R hw
  exact this.mono fun e w' ⟨v, A', ⟨A1, ⟨s, h1, h2, h3⟩, h4⟩, he, ho⟩ => ⟨v, _, ⟨s, h1, h2, rfl⟩, he, by rw [h4, h3] at ho; exact ho⟩
theorem KW.Next (k : KW) (hb : (k.t.of 4).length ≤ 12) (hk : k.t.L.length ≤ 1000) : Spec Tryz.prog 132 [ptr k.x.sb 10, I 4] k.chs (fun v A => v = retID (k.t.next 4) ∧ A = k.chs) :=
  Spec.lift (reqs_Next k.x.sb 10 260 k.cells k.t 4 rfl hb hk) [0, 0] rfl (by rintro _ _ ⟨rfl, rfl⟩; exact ⟨k.chs, rfl, rfl, rfl⟩)
theorem KW.After (k : KW) (id : ID) (hb : (k.t.of id.ring).length ≤ 12) (hk : k.t.L.length ≤ 1000) :
    Spec Tryz.prog 288 [ptr k.x.sb 10, kID id] k.chs (fun v A => v = .tuple #[vR ((k.t.after id).getD zR), B (k.t.after id).isSome] ∧ A = k.chs) :=
  Spec.lift (reqs_After k.x.sb 10 260 k.cells k.t id rfl hb hk) [0, 0] rfl (by rintro _ _ ⟨rfl, rfl⟩; exact ⟨k.chs, rfl, rfl, rfl⟩)
def KW.drop (k : KW) (id : ID) : KW := { k with t := k.t.drop id }
theorem KW.Drop (k : KW) (id : ID) : Spec Tryz.prog 286 [ptr k.x.sb 10, kID id] k.chs (fun v A => v = B (k.t.find id).isSome ∧ A = (k.drop id).chs) :=
  Spec.lift (reqs_Drop k.x.sb 10 260 k.cells k.t id rfl) [0, 0] rfl (by rintro _ _ ⟨rfl, rfl⟩; exact ⟨(k.drop id).chs, rfl, rfl, rfl⟩)
theorem KW.Start (k : KW) (id : ID) (q : Req) (hq : k.t.find id = some q) :
    Spec Tryz.prog 153 [ptr k.x.sb 10, kID id] k.chs (fun v A => ∃ t' : RT, t'.L = k.t.upd { q with started := true } ∧ v = B true ∧ A = ({ k with t := t' } : KW).chs) :=
  Spec.lift (reqs_Start k.x.sb 10 260 k.cells k.t id q rfl hq) [0, 0] rfl (by
    rintro _ _ ⟨t', h1, h2, rfl, rfl⟩
    refine ⟨({ k with t := t' } : KW).chs, ?_, t', h1, rfl, rfl⟩
    simp only [KW.chs, KW.cells, h2]
    rfl)
theorem KW.Add (k : KW) (r : Req) (hnew : k.t.find r.id = none) (hs : ∀ q ∈ k.t.L, q.id.ring = r.id.ring → q.id.seq < r.id.seq) (hb : (k.t.of r.id.ring).length ≤ 12) (hk : k.t.L.length ≤ 1000) :
    Spec Tryz.prog 138 [ptr k.x.sb 10, vR r] k.chs (fun v A => ∃ t' : RT, t'.L = k.t.L ++ [r] ∧ v = B true ∧ A = ({ k with t := t' } : KW).chs) :=
  Spec.lift (reqs_Add k.x.sb 10 260 k.cells k.t r rfl hnew hs hb hk) [0, 0] rfl (by
    rintro _ _ ⟨t', cells', h1, h2, rfl, rfl⟩
    refine ⟨({ k with t := t' } : KW).chs, ?_, t', h1, rfl, rfl⟩
    have : some ({ k with t := t' } : KW).cells = some cells' := h2
    simp at this
    rw [← this]
    rfl)
/-- the journal -/
theorem KW.JAdd (k : KW) (d : Deed) (hb : k.j.xs.length ≤ 100000) :
    Spec Tryz.prog 245 [ptr k.x.sb 12, .agg (encD d).toArray] k.chs (fun v A => ∃ j' : SL encD 7, j'.xs = k.j.xs ++ [d] ∧ A = ({ k with j := j' } : KW).chs) :=
  Spec.lift (journal_Add k.x.sb 12 260 k.cells k.j d rfl hb) [0, 1] rfl (by
    rintro _ _ ⟨j', cells', h1, h2, rfl⟩
    refine ⟨({ k with j := j' } : KW).chs, ?_, j', h1, rfl⟩
    have : some ({ k with j := j' } : KW).cells = some cells' := h2
    simp at this
    rw [← this]
    rfl)
theorem KW.TDrop (k : KW) (id : ID) : Spec Tryz.prog 361 [ptr k.x.sb 11, kID id] k.chs (fun v A => v = B false ∧ A = k.chs) :=
  Spec.lift (timer_Drop_nil k.x.sb 11 260 k.cells id rfl) [0] rfl (by rintro _ _ ⟨rfl, rfl⟩; exact ⟨k.chs, rfl, rfl, rfl⟩)
theorem KW.CDrop (k : KW) (id : ID) : Spec Tryz.prog 400 [ptr k.x.cell 0, kID id] k.chs (fun v A => v = B false ∧ A = k.chs) :=
  Spec.lift (cell_Drop_no k.x.cell k.x.cx k.x.cy id) [10] rfl (by rintro _ _ ⟨rfl, rfl⟩; exact ⟨k.chs, rfl, rfl, rfl⟩)
end Go.Proofs
