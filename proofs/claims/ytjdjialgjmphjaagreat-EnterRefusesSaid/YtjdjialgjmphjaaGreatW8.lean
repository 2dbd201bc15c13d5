/- Part of the proof: W8. -/
import Derived.Test.YtjdjialgjmphjaaGreatW7
import Derived.Test.YtjdjialgjmphjaaGreatS4
set_option linter.all false
set_option maxRecDepth 100000
set_option maxHeartbeats 8000000
namespace Go.Proofs
open Go Go.Sep
attribute [local irreducible] WS WL WH WHT OpV OpR

theorem find_id {t : RT} {id : ID} {r : Req} (h : t.find id = some r) : r.id = id := by simpa using List.find?_some h
theorem find_mem {t : RT} {id : ID} {r : Req} (h : t.find id = some r) : r ∈ t.L := List.mem_of_find?_eq_some h

theorem reqs_has (sb o E0 : Nat) (cells : List Value) (t : RT) (id : ID) (hc : getN o 1 cells = some [t.p.val]) :
    Spec Tryz.prog 269 [ptr sb o, kID id] [blk sb E0 cells, t.ch] (fun v A => v = B (t.find id).isSome ∧ A = [blk sb E0 cells, t.ch]) := by
  refine Spec.of Tryz.func269 rfl Tryz.call269 rfl (fun R => ?_)
  refine WS.seq ?_
  refine WS.region ?_
  refine WL.box rfl rfl ?_; intro r_
  refine WL.v (V.assign rfl) rfl ?_
  refine WL.done ?_
  refine WS.seq ?_
  refine WS.regionA Tryz.mixed rfl ?_
  refine WH.pick rfl ?_
  refine WHT.v (V.move rfl) rfl rfl rfl rfl ?_
  refine WH.pick rfl ?_
  refine WHT.v (V.nilCheck rfl) rfl rfl rfl rfl ?_
  refine WH.pick rfl ?_
  refine WHT.v (V.fieldAddr rfl) rfl rfl rfl rfl ?_
  refine WH.pick rfl ?_
  refine WHT.rh (V.load1 1 rfl rfl hc) rfl (by simp) rfl rfl rfl rfl ?_
  refine WH.pick rfl ?_
  refine WHT.rh (V.loadN 0 rfl rfl rfl) rfl (by simp) rfl rfl rfl rfl ?_
  refine WH.pick rfl ?_
  refine WHT.rh (V.lookup2M (kenc := kID) (k := id) 2 rfl rfl rfl) rfl (by simp) rfl rfl rfl rfl ?_
  rw [t.get_eq]
  cases hf : t.find id with
  | none =>
    refine WH.pick rfl ?_
    refine WHT.v (V.move rfl) rfl rfl rfl rfl ?_
    refine WH.pick rfl ?_
    refine WHT.v (V.extractL rfl rfl) rfl rfl rfl rfl ?_
    refine WH.pick rfl ?_
    refine WHT.v (V.extractL rfl rfl) rfl rfl rfl rfl ?_
    refine WH.big rfl rfl rfl ?_; intro _ _
    refine WL.alloc rfl ?_; intro r_
    refine WL.nextH (ok := by assumption) (hns := by assumption) (by simp) ?_
    refine WH.bigSt rfl rfl rfl ?_; intro _ _
    refine WL.store 0 rfl rfl rfl rfl rfl rfl ?_
    refine WL.nextH (ok := by assumption) (hns := by assumption) (by simp) ?_
    refine WH.pick rfl ?_
    refine WHT.v (V.assign rfl) rfl rfl rfl rfl ?_
    refine WH.done ?_
    refine WS.seq ?_
    refine WS.region ?_
    refine WL.v (V.move rfl) rfl ?_
    refine WL.v (V.assign rfl) rfl ?_
    refine WL.done ?_
    refine WS.pick [2, 2] rfl ?_
    refine WS.ret rfl ?_
    exact ⟨rfl, rfl⟩
  | some r =>
    refine WH.pick rfl ?_
    refine WHT.v (V.move rfl) rfl rfl rfl rfl ?_
    refine WH.pick rfl ?_
    refine WHT.v (V.extractL rfl rfl) rfl rfl rfl rfl ?_
    refine WH.pick rfl ?_
    refine WHT.v (V.extractL rfl rfl) rfl rfl rfl rfl ?_
    refine WH.big rfl rfl rfl ?_; intro _ _
    refine WL.alloc rfl ?_; intro r_
    refine WL.nextH (ok := by assumption) (hns := by assumption) (by simp) ?_
    refine WH.bigSt rfl rfl rfl ?_; intro _ _
    refine WL.store 0 rfl rfl rfl rfl rfl rfl ?_
    refine WL.nextH (ok := by assumption) (hns := by assumption) (by simp) ?_
    refine WH.pick rfl ?_
    refine WHT.v (V.assign rfl) rfl rfl rfl rfl ?_
    refine WH.done ?_
    refine WS.seq ?_
    refine WS.region ?_
    refine WL.v (V.move rfl) rfl ?_
    refine WL.v (V.assign rfl) rfl ?_
    refine WL.done ?_
    refine WS.pick [2, 2] rfl ?_
    refine WS.ret rfl ?_
    exact ⟨rfl, rfl⟩

def zR : Req := ⟨⟨0, 0⟩, ⟨0, 0, 0, 0, 0, 0, 0, 0⟩, 0, false, false⟩

theorem reqs_Get (sb o E0 : Nat) (cells : List Value) (t : RT) (id : ID) (hc : getN o 1 cells = some [t.p.val]) :
    Spec Tryz.prog 152 [ptr sb o, kID id] [blk sb E0 cells, t.ch]
      (fun v A => v = .tuple #[vR ((t.find id).getD zR), B (t.find id).isSome] ∧ A = [blk sb E0 cells, t.ch]) := by
  refine Spec.of Tryz.func152 rfl Tryz.call152 rfl (fun R => ?_)
  refine WS.seq ?_
  refine WS.region ?_
  refine WL.box rfl rfl ?_; intro r_
  refine WL.alloc rfl ?_; intro r_
  refine WL.v (V.assign rfl) rfl ?_
  refine WL.done ?_
  refine WS.seq ?_
  refine WS.regionA Tryz.mixed rfl ?_
  refine WH.pick rfl ?_
  refine WHT.v (V.move rfl) rfl rfl rfl rfl ?_
  refine WH.pick rfl ?_
  refine WHT.v (V.nilCheck rfl) rfl rfl rfl rfl ?_
  refine WH.pick rfl ?_
  refine WHT.v (V.fieldAddr rfl) rfl rfl rfl rfl ?_
  refine WH.pick rfl ?_
  refine WHT.rh (V.load1 2 rfl rfl hc) rfl (by simp) rfl rfl rfl rfl ?_
  refine WH.pick rfl ?_
  refine WHT.rh (V.loadN 1 rfl rfl rfl) rfl (by simp) rfl rfl rfl rfl ?_
  refine WH.pick rfl ?_
  refine WHT.rh (V.lookup2M (kenc := kID) (k := id) 3 rfl rfl rfl) rfl (by simp) rfl rfl rfl rfl ?_
  rw [t.get_eq]
  cases hf : t.find id with
  | none =>
    refine WH.pick rfl ?_
    refine WHT.v (V.move rfl) rfl rfl rfl rfl ?_
    refine WH.pick rfl ?_
    refine WHT.v (V.extractL rfl rfl) rfl rfl rfl rfl ?_
    refine WH.pick rfl ?_
    refine WHT.v (V.extractL rfl rfl) rfl rfl rfl rfl ?_
    refine WH.big rfl rfl rfl ?_; intro _ _
    refine WL.alloc rfl ?_; intro r_
    refine WL.nextH (ok := by assumption) (hns := by assumption) (by simp) ?_
    refine WH.bigSt rfl rfl rfl ?_; intro _ _
    refine WL.store 0 rfl rfl rfl rfl rfl rfl ?_
    refine WL.nextH (ok := by assumption) (hns := by assumption) (by simp) ?_
    refine WH.pick rfl ?_
    refine WHT.v (V.assign rfl) rfl rfl rfl rfl ?_
    refine WH.done ?_
    refine WS.seq ?_
    refine WS.region ?_
    refine WL.r (V.loadN 0 rfl rfl rfl) rfl ?_
    refine WL.v (V.move rfl) rfl ?_
    refine WL.store 1 rfl rfl rfl rfl rfl rfl ?_
    refine WL.v (V.assign rfl) rfl ?_
    refine WL.done ?_
    refine WS.retM [3, 3] (.cell rfl (.agg 0 rfl rfl) (.tmp rfl .nil)) rfl ?_
    exact ⟨rfl, rfl⟩
  | some r =>
    refine WH.pick rfl ?_
    refine WHT.v (V.move rfl) rfl rfl rfl rfl ?_
    refine WH.pick rfl ?_
    refine WHT.v (V.extractL rfl rfl) rfl rfl rfl rfl ?_
    refine WH.pick rfl ?_
    refine WHT.v (V.extractL rfl rfl) rfl rfl rfl rfl ?_
    refine WH.big rfl rfl rfl ?_; intro _ _
    refine WL.alloc rfl ?_; intro r_
    refine WL.nextH (ok := by assumption) (hns := by assumption) (by simp) ?_
    refine WH.bigSt rfl rfl rfl ?_; intro _ _
    refine WL.store 0 rfl rfl rfl rfl rfl rfl ?_
    refine WL.nextH (ok := by assumption) (hns := by assumption) (by simp) ?_
    refine WH.pick rfl ?_
    refine WHT.v (V.assign rfl) rfl rfl rfl rfl ?_
    refine WH.done ?_
    refine WS.seq ?_
    refine WS.region ?_
    refine WL.r (V.loadN 0 rfl rfl rfl) rfl ?_
    refine WL.v (V.move rfl) rfl ?_
    refine WL.store 1 rfl rfl rfl rfl rfl rfl ?_
    refine WL.v (V.assign rfl) rfl ?_
    refine WL.done ?_
    refine WS.retM [3, 3] (.cell rfl (.agg 0 rfl rfl) (.tmp rfl .nil)) rfl ?_
    exact ⟨rfl, rfl⟩

def RT.drop (t : RT) (id : ID) : RT where
  p := t.p.del id
  L := t.L.filter (fun r => decide (r.id ≠ id))
  rel := by
    have h := t.rel.filter (fun x => decide (x.1 ≠ id))
    have e1 : t.p.m.kv.filter (fun x => decide (x.1 ≠ id)) = (t.p.del id).m.kv := by
      simp [GMap.kv, MP.del, GMap.del, List.filter_map, Function.comp_def]
    have e2 : (t.L.map fun r => (r.id, r)).filter (fun x => decide (x.1 ≠ id)) = (t.L.filter (fun r => decide (r.id ≠ id))).map fun r => (r.id, r) := by
      simp [List.filter_map, Function.comp_def]
    rw [e1, e2] at h
    exact h
  sorted := t.sorted.sublist List.filter_sublist

theorem reqs_Drop (sb o E0 : Nat) (cells : List Value) (t : RT) (id : ID) (hc : getN o 1 cells = some [t.p.val]) :
    Spec Tryz.prog 286 [ptr sb o, kID id] [blk sb E0 cells, t.ch]
      (fun v A => v = B (t.find id).isSome ∧ A = [blk sb E0 cells, (t.drop id).ch]) := by
  refine Spec.of Tryz.func286 rfl Tryz.call286 rfl (fun R => ?_)
  refine WS.seq ?_
  refine WS.region ?_
  refine WL.box rfl rfl ?_; intro r_
  refine WL.v (V.assign rfl) rfl ?_
  refine WL.done ?_
  refine WS.seq ?_
  refine WS.region ?_
  refine WL.v (V.move rfl) rfl ?_
  refine WL.r (V.loadN 0 rfl rfl rfl) rfl ?_
  refine WL.call (reqs_has sb o E0 cells t id hc) [1, 1] rfl rfl rfl ?_
  rintro _ _ ⟨rfl, rfl⟩
  refine WL.v (V.assign rfl) rfl ?_
  refine WL.done ?_
  refine WS.seq ?_
  refine WS.regionD [] Tryz.mixed rfl ?_
  refine WH.pick rfl ?_
  refine WHT.v (V.move rfl) rfl rfl rfl rfl ?_
  refine WH.pick rfl ?_
  refine WHT.v (V.nilCheck rfl) rfl rfl rfl rfl ?_
  refine WH.pick rfl ?_
  refine WHT.v (V.fieldAddr rfl) rfl rfl rfl rfl ?_
  refine WH.pick rfl ?_
  refine WHT.r (V.load1 0 rfl rfl hc) rfl rfl rfl rfl rfl ?_
  refine WH.pick rfl ?_
  refine WHT.r (V.loadN 2 rfl rfl rfl) rfl rfl rfl rfl rfl ?_
  refine WH.big rfl rfl rfl ?_; intro _ _
  refine WL.deleteM (kenc := kID) (venc := vR) (k := id) 1 rfl rfl rfl ?_
  refine WL.nextH (ok := by assumption) (hns := by assumption) (by simp) ?_
  refine WH.done ?_
  refine WS.seq ?_
  refine WS.region ?_
  refine WL.v (V.move rfl) rfl ?_
  refine WL.v (V.assign rfl) rfl ?_
  refine WL.done ?_
  refine WS.pick [1, 0] rfl ?_
  refine WS.ret rfl ?_
  exact ⟨rfl, rfl⟩

theorem WL.mapUpdateM {α β : Type} [DecidableEq α] {kenc : α → Value} {venc : β → Value} {P : Program} {ops : Array Oper} {Q : Exit → Act → World → Prop} {n : Nat} {R : Fr} {rest : List Oper} {env : List (Nat × Value)} {pre : List Chunk}
    {T T1 KT VT : TypeId} {pos : String} {aft : Array Edge} {x y u : Operand} (kp : Nat) {s : MP α β} {b : Nat} {k : α} {v : β} {pre' : List Chunk} [hu : TyU P T1 (.map KT VT)] [hk : KeyEnc P KT kenc] (hr : s.r = some b)
    (hx : ev env x = some s.val) (hy : ev env y = some (kenc k)) (hv : ev env u = some (venc v)) (hc : takeAt kp pre = some (s.ch kenc venc, pre'))
    (kk : WL P ops Q n R rest env (mapC b kenc venc (s.m.put k v) :: pre')) :
    WL P ops Q n R (⟨none, .mapUpdate T1 x y u, T, pos, aft, none⟩ :: rest) env pre := by
  obtain ⟨r, m, hn⟩ := s
  simp only at hr; subst hr
  exact WL.mapUpdate kp hx hy hv hc kk

theorem RT.ch_eq {t : RT} {b : Nat} {m : GMap ID Req} (h1 : t.p.r = some b) (h2 : t.p.m = m) : t.ch = mapC b kID vR m := by simp [RT.ch, MP.ch, h1, h2]

def RT.upd (t : RT) (r : Req) : List Req := t.L.map (fun q => if q.id = r.id then r else q)

theorem RT.put_old (t : RT) (r q : Req) (h : t.find r.id = some q) : ∃ t' : RT, t'.L = t.upd r ∧ t'.p.r = t.p.r ∧ t'.p.m = t.p.m.put r.id r := by
  have hg := t.get_eq r.id
  rw [h] at hg
  unfold MP.get GMap.get at hg
  cases hp : GMap.pos r.id t.p.m.es with
  | none => rw [hp] at hg; simp at hg
  | some x =>
    have hes := (GMap.put_some (m := t.p.m) (k := r.id) (v := r) hp).1
    have hne : t.p.r ≠ none := by
      intro e
      have := t.p.nil e
      rw [this] at hp
      simp [GMap.pos] at hp
    refine ⟨⟨⟨t.p.r, t.p.m.put r.id r, fun e => absurd e hne⟩, t.upd r, ?_, ?_⟩, rfl, rfl, rfl⟩
    · have h1 := t.rel.map (fun x : ID × Req => if x.1 = r.id then (r.id, r) else x)
      have e1 : t.p.m.kv.map (fun x : ID × Req => if x.1 = r.id then (r.id, r) else x) = (t.p.m.put r.id r).kv := by
        simp only [GMap.kv, hes, GMap.upd, List.map_map]
        refine List.map_congr_left fun e _ => ?_
        simp only [Function.comp]
        split
        · rename_i h; simp [h]
        · rfl
      have e2 : (t.L.map fun r => (r.id, r)).map (fun x : ID × Req => if x.1 = r.id then (r.id, r) else x) = (t.upd r).map fun r => (r.id, r) := by
        simp only [RT.upd, List.map_map]
        refine List.map_congr_left fun q _ => ?_
        simp only [Function.comp]
        split <;> rfl
      rw [e1, e2] at h1
      exact h1
    · unfold RT.upd
      rw [List.pairwise_map]
      refine t.sorted.imp ?_
      intro a b hab
      split <;> split <;> simp_all

theorem RT.put_new (t : RT) (b : Nat) (r : Req) (h : t.find r.id = none) (hs : ∀ q ∈ t.L, q.id.ring = r.id.ring → q.id.seq < r.id.seq) (hb : ∀ b', t.p.r = some b' → b' = b) :
    ∃ t' : RT, t'.L = t.L ++ [r] ∧ t'.p.r = some b ∧ t'.p.m = t.p.m.put r.id r := by
  have hg := t.get_eq r.id
  rw [h] at hg
  unfold MP.get GMap.get at hg
  have hp : GMap.pos r.id t.p.m.es = none := by
    cases hp : GMap.pos r.id t.p.m.es with
    | none => rfl
    | some x => rw [hp] at hg; simp at hg
  have hes := (GMap.put_none (m := t.p.m) (k := r.id) (v := r) hp).1
  refine ⟨⟨⟨some b, t.p.m.put r.id r, fun e => by simp at e⟩, t.L ++ [r], ?_, ?_⟩, rfl, rfl, rfl⟩
  · have e1 : (t.p.m.put r.id r).kv = t.p.m.kv ++ [(r.id, r)] := by simp [GMap.kv, hes]
    simp only [e1, List.map_append, List.map_cons, List.map_nil]
    exact t.rel.append_right _
  · rw [List.pairwise_append]
    refine ⟨t.sorted, by simp, ?_⟩
    intro a ha c hc
    simp at hc; subst hc
    exact hs a ha

theorem reqs_Start (sb o E0 : Nat) (cells : List Value) (t : RT) (id : ID) (q : Req) (hc : getN o 1 cells = some [t.p.val]) (hq : t.find id = some q) :
    Spec Tryz.prog 153 [ptr sb o, kID id] [blk sb E0 cells, t.ch]
      (fun v A => ∃ t' : RT, t'.L = t.upd { q with started := true } ∧ t'.p.val = t.p.val ∧ v = B true ∧ A = [blk sb E0 cells, t'.ch]) := by
  have hqi := find_id hq
  obtain ⟨t', ht1, ht2, ht3⟩ := t.put_old { q with started := true } q (by simp only [hqi]; exact hq)
  refine Spec.of Tryz.func153 rfl Tryz.call153 rfl (fun R => ?_)
  refine WS.seq ?_
  refine WS.region ?_
  refine WL.box rfl rfl ?_; intro r_
  refine WL.v (V.assign rfl) rfl ?_
  refine WL.done ?_
  refine WS.seq ?_
  refine WS.regionA Tryz.mixed rfl ?_
  refine WH.pick rfl ?_
  refine WHT.v (V.move rfl) rfl rfl rfl rfl ?_
  refine WH.pick rfl ?_
  refine WHT.v (V.nilCheck rfl) rfl rfl rfl rfl ?_
  refine WH.pick rfl ?_
  refine WHT.v (V.fieldAddr rfl) rfl rfl rfl rfl ?_
  refine WH.pick rfl ?_
  refine WHT.rh (V.load1 1 rfl rfl hc) rfl (by simp) rfl rfl rfl rfl ?_
  refine WH.pick rfl ?_
  refine WHT.rh (V.loadN 0 rfl rfl rfl) rfl (by simp) rfl rfl rfl rfl ?_
  refine WH.pick rfl ?_
  refine WHT.rh (V.lookup2M (kenc := kID) (k := id) 2 rfl rfl rfl) rfl (by simp) rfl rfl rfl rfl ?_
  rw [t.get_eq, hq]
  refine WH.pick rfl ?_
  refine WHT.v (V.move rfl) rfl rfl rfl rfl ?_
  refine WH.pick rfl ?_
  refine WHT.v (V.extractL rfl rfl) rfl rfl rfl rfl ?_
  refine WH.pick rfl ?_
  refine WHT.v (V.extractL rfl rfl) rfl rfl rfl rfl ?_
  refine WH.big rfl rfl rfl ?_; intro _ _
  refine WL.alloc rfl ?_; intro r_
  refine WL.nextH (ok := by assumption) (hns := by assumption) (by simp) ?_
  refine WH.bigSt rfl rfl rfl ?_; intro _ _
  refine WL.store 0 rfl rfl rfl rfl rfl rfl ?_
  refine WL.nextH (ok := by assumption) (hns := by assumption) (by simp) ?_
  refine WH.pick rfl ?_
  refine WHT.v (V.assign rfl) rfl rfl rfl rfl ?_
  refine WH.done ?_
  refine WS.seq ?_
  refine WS.seq ?_
  refine WS.region ?_
  refine WL.v (V.move rfl) rfl ?_
  refine WL.done ?_
  refine WS.condT rfl ?_
  refine WS.seq ?_
  refine WS.region ?_
  refine WL.v (V.fieldAddr rfl) rfl ?_
  refine WL.store 0 rfl rfl rfl rfl rfl rfl ?_
  refine WL.done ?_
  refine WS.regionD [] Tryz.mixed rfl ?_
  refine WH.pick rfl ?_
  refine WHT.v (V.move rfl) rfl rfl rfl rfl ?_
  refine WH.pick rfl ?_
  refine WHT.v (V.nilCheck rfl) rfl rfl rfl rfl ?_
  refine WH.pick rfl ?_
  refine WHT.v (V.fieldAddr rfl) rfl rfl rfl rfl ?_
  refine WH.pick rfl ?_
  refine WHT.r (V.load1 2 rfl rfl hc) rfl rfl rfl rfl rfl ?_
  refine WH.pick rfl ?_
  refine WHT.r (V.loadN 1 rfl rfl rfl) rfl rfl rfl rfl rfl ?_
  refine WH.pick rfl ?_
  refine WHT.r (V.loadN 0 rfl rfl rfl) rfl rfl rfl rfl rfl ?_
  refine WH.big rfl rfl rfl ?_; intro _ _
  have hne : ∃ b, t.p.r = some b := by
    cases hr : t.p.r with
    | some b => exact ⟨b, rfl⟩
    | none =>
      exfalso
      have hg := t.get_eq id
      rw [hq] at hg
      simp [MP.get, GMap.get, t.p.nil hr, GMap.pos] at hg
  obtain ⟨b, hbr⟩ := hne
  rw [hqi]
  refine WL.mapUpdateM (kenc := kID) (venc := vR) (k := id) (v := { q with started := true }) 3 hbr rfl rfl (by rw [← hqi]; rfl) rfl ?_
  refine WL.nextH (ok := by assumption) (hns := by assumption) (by simp) ?_
  refine WH.done ?_
  refine WS.seq ?_
  refine WS.region ?_
  refine WL.v (V.move rfl) rfl ?_
  refine WL.v (V.assign rfl) rfl ?_
  refine WL.done ?_
  rw [show mapC b kID vR (t.p.m.put id { q with started := true }) = t'.ch from (RT.ch_eq (by rw [ht2, hbr]) (by rw [ht3, hqi])).symm]
  refine WS.pick [3, 0] rfl ?_
  refine WS.ret rfl ?_
  exact ⟨t', by rw [ht1, hqi], by simp only [MP.val, ht2], rfl, rfl⟩

theorem setN_ex : ∀ (l : List Value) (o : Nat) (u v : Value), getN o 1 l = some [u] → ∃ l', setN o [v] l = some l' ∧ getN o 1 l' = some [v]
  | [], 0, _, _, h => by simp [getN] at h
  | [], o + 1, _, _, h => by simp [getN] at h
  | x :: l, 0, u, v, h => ⟨v :: l, by simp [setN], by simp [getN]⟩
  | x :: l, o + 1, u, v, h => by
    obtain ⟨l', h1, h2⟩ := setN_ex l o u v (by simpa only [getN] using h)
    exact ⟨x :: l', by simp only [setN, h1], by simp only [getN, h2]⟩

theorem setN_same : ∀ (l : List Value) (o : Nat) (u : Value), getN o 1 l = some [u] → setN o [u] l = some l
  | [], 0, _, h => by simp [getN] at h
  | [], o + 1, _, h => by simp [getN] at h
  | x :: l, 0, u, h => by simp [getN] at h; simp [setN, h]
  | x :: l, o + 1, u, h => by simp only [setN, setN_same l o u (by simpa only [getN] using h)]

theorem RT.nil_L {t : RT} (h : t.p.r = none) : t.L = [] := by
  have h1 := t.rel.length_eq
  simp [GMap.kv, t.p.nil h] at h1
  exact List.length_eq_zero_iff.1 h1.symm

theorem reqs_Add (sb o E0 : Nat) (cells : List Value) (t : RT) (r : Req) (hc : getN o 1 cells = some [t.p.val]) (hnew : t.find r.id = none)
    (hs : ∀ q ∈ t.L, q.id.ring = r.id.ring → q.id.seq < r.id.seq) (hb : (t.of r.id.ring).length ≤ 12) (hk : t.L.length ≤ 1000) :
    Spec Tryz.prog 138 [ptr sb o, vR r] [blk sb E0 cells, t.ch]
      (fun v A => ∃ t' : RT, ∃ cells', t'.L = t.L ++ [r] ∧ setN o [t'.p.val] cells = some cells' ∧ v = B true ∧ A = [blk sb E0 cells', t'.ch]) := by
  refine Spec.of Tryz.func138 rfl Tryz.call138 rfl (fun R => ?_)
  refine WS.seq ?_
  refine WS.region ?_
  refine WL.box rfl rfl ?_; intro r_
  refine WL.v (V.assign rfl) rfl ?_
  refine WL.done ?_
  refine WS.seq ?_
  refine WS.seq ?_
  refine WS.region ?_
  refine WL.v (V.move rfl) rfl ?_
  refine WL.v (V.fieldAddr rfl) rfl ?_
  refine WL.r (V.loadN 0 rfl rfl rfl) rfl ?_
  refine WL.call (reqs_has sb o E0 cells t r.id hc) [1, 1] rfl rfl rfl ?_
  rintro _ _ ⟨rfl, rfl⟩
  rw [hnew]
  refine WL.v (V.move rfl) rfl ?_
  refine WL.gy rfl rfl ?_
  refine WL.v (V.move rfl) rfl ?_
  refine WL.gy rfl rfl ?_
  refine WL.v (V.fieldAddr rfl) rfl ?_
  refine WL.gy rfl rfl ?_
  refine WL.v (V.fieldAddr rfl) rfl ?_
  refine WL.gy rfl rfl ?_
  refine WL.r (V.load1 2 rfl rfl rfl) rfl ?_
  refine WL.gy rfl rfl ?_
  refine WL.call (reqs_Of sb o E0 cells t r.id.ring hc hb hk) [0, 0] rfl rfl rfl ?_
  rintro _ _ ⟨s, hsx, rfl, rfl⟩
  have hsl : s.xs.length ≤ 12 := by rw [hsx]; exact hb
  refine WL.gy rfl rfl ?_
  refine WL.v (V.lenSL rfl) rfl ?_
  refine WL.gy rfl rfl ?_
  refine WL.v (V.ge rfl rfl) rfl ?_
  refine WL.v (V.pickF rfl rfl) rfl ?_
  refine WL.done ?_
  (refine WS.condD rfl ?_ ?_) <;> intro h_ <;> try (exfalso; omega)
  refine WS.skip ?_
  refine WS.seq ?_
  refine WS.seq ?_
  refine WS.region ?_
  refine WL.v (V.move rfl) rfl ?_
  refine WL.v (V.nilCheck rfl) rfl ?_
  refine WL.v (V.fieldAddr rfl) rfl ?_
  refine WL.r (V.load1 1 rfl rfl hc) rfl ?_
  cases hr : t.p.r with
  | none =>
    have hval : t.p.val = .map none := by simp only [MP.val, hr]
    have hL := RT.nil_L hr
    rw [hval]
    refine WL.v (V.eqNilM rfl rfl) rfl ?_
    refine WL.done ?_
    refine WS.condT rfl ?_
    refine WS.region ?_
    refine WL.v (V.move rfl) rfl ?_
    refine WL.makeMap kID vR rfl ?_
    intro b
    refine WL.v (V.nilCheck rfl) rfl ?_
    refine WL.v (V.fieldAddr rfl) rfl ?_
    obtain ⟨cells', hs1, hs2⟩ := setN_ex cells o t.p.val (.map (some b)) hc
    refine WL.store 2 rfl rfl rfl rfl rfl hs1 ?_
    let t0 : RT := ⟨⟨some b, GMap.empty, fun _ => rfl⟩, [], by simp [GMap.kv, GMap.empty], List.Pairwise.nil⟩
    obtain ⟨t', ht1, ht2, ht3⟩ := t0.put_new b r rfl (fun q hq => by simp [t0] at hq) (fun b' h => by simp [t0] at h; exact h.symm)
    refine WL.done ?_
    refine WS.seq ?_
    refine WS.regionD [] Tryz.mixed rfl ?_
    refine WH.pick rfl ?_
    refine WHT.v (V.move rfl) rfl rfl rfl rfl ?_
    refine WH.pick rfl ?_
    refine WHT.v (V.nilCheck rfl) rfl rfl rfl rfl ?_
    refine WH.pick rfl ?_
    refine WHT.v (V.fieldAddr rfl) rfl rfl rfl rfl ?_
    refine WH.pick rfl ?_
    refine WHT.r (V.load1 0 rfl rfl hs2) rfl rfl rfl rfl rfl ?_
    refine WH.pick rfl ?_
    refine WHT.v (V.fieldAddr rfl) rfl rfl rfl rfl ?_
    refine WH.pick rfl ?_
    refine WHT.r (V.loadN 4 rfl rfl rfl) rfl rfl rfl rfl rfl ?_
    refine WH.pick rfl ?_
    refine WHT.r (V.loadN 4 rfl rfl rfl) rfl rfl rfl rfl rfl ?_
    refine WH.big rfl rfl rfl ?_; intro _ _
    refine WL.mapUpdate (kenc := kID) (venc := vR) (k := r.id) (v := r) 1 rfl rfl rfl rfl ?_
    refine WL.nextH (ok := by assumption) (hns := by assumption) (by simp) ?_
    refine WH.done ?_
    refine WS.seq ?_
    refine WS.region ?_
    refine WL.v (V.assign rfl) rfl ?_
    refine WL.done ?_
    rw [show mapC b kID vR ((GMap.empty : GMap ID Req).put r.id r) = t'.ch from (RT.ch_eq ht2 (by rw [ht3])).symm]
    refine WS.pick [1, 0] rfl ?_
    refine WS.ret rfl ?_
    exact ⟨t', cells', by rw [ht1, hL], by rw [← hs1]; simp only [MP.val, ht2], rfl, rfl⟩
  | some b =>
    obtain ⟨t', ht1, ht2, ht3⟩ := t.put_new b r hnew hs (fun b' h => by rw [hr] at h; simpa using h.symm)
    have hval : t.p.val = .map (some b) := by simp only [MP.val, hr]
    rw [hval]
    refine WL.v (V.eqNilM rfl rfl) rfl ?_
    refine WL.done ?_
    refine WS.condF rfl ?_
    refine WS.skip ?_
    refine WS.seq ?_
    refine WS.regionD [] Tryz.mixed rfl ?_
    refine WH.pick rfl ?_
    refine WHT.v (V.move rfl) rfl rfl rfl rfl ?_
    refine WH.pick rfl ?_
    refine WHT.v (V.nilCheck rfl) rfl rfl rfl rfl ?_
    refine WH.pick rfl ?_
    refine WHT.v (V.fieldAddr rfl) rfl rfl rfl rfl ?_
    refine WH.pick rfl ?_
    refine WHT.r (V.load1 1 rfl rfl hc) rfl rfl rfl rfl rfl ?_
    refine WH.pick rfl ?_
    refine WHT.v (V.fieldAddr rfl) rfl rfl rfl rfl ?_
    refine WH.pick rfl ?_
    refine WHT.r (V.loadN 3 rfl rfl rfl) rfl rfl rfl rfl rfl ?_
    refine WH.pick rfl ?_
    refine WHT.r (V.loadN 3 rfl rfl rfl) rfl rfl rfl rfl rfl ?_
    refine WH.big rfl rfl rfl ?_; intro _ _
    refine WL.mapUpdateM (kenc := kID) (venc := vR) (k := r.id) (v := r) 2 hr rfl rfl rfl rfl ?_
    refine WL.nextH (ok := by assumption) (hns := by assumption) (by simp) ?_
    refine WH.done ?_
    refine WS.seq ?_
    refine WS.region ?_
    refine WL.v (V.assign rfl) rfl ?_
    refine WL.done ?_
    rw [show mapC b kID vR (t.p.m.put r.id r) = t'.ch from (RT.ch_eq ht2 ht3).symm]
    refine WS.pick [2, 0] rfl ?_
    refine WS.ret rfl ?_
    exact ⟨t', cells, ht1, by rw [show t'.p.val = t.p.val from by simp only [MP.val, ht2, hr]]; exact setN_same _ _ _ hc, rfl, rfl⟩
end Go.Proofs
