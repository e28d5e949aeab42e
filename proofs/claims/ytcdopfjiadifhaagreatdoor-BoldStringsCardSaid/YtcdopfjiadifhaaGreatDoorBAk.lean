/- Texts. -/
import Derived.Conc.AppendEvents3
import Derived.Conc.DeferLaws
import Derived.Test.YtcdopfjiadifhaaGreatDoorBAj
import Derived.Test.YtcdopfjiadifhaaGreatDoorBAe
import Derived.Test.YtcdopfjiadifhaaGreatDoorBAd
set_option linter.unusedVariables false
set_option linter.unusedSimpArgs false
section
namespace Go.W
open Go Go.Conc Go.RowKit
section
variable {X : TX} {c : Cx} {b : Frame} {cs : List Frame} {n : Nat} {k : List Item} {fr : Fr} {hp : Hq} {ops : Array Oper} {i : Nat} {rest : List Nat}
variable {d : Tmp} {ty : TypeId} {pos : String} {af : Array Edge}
/-! ### What may be listed -/
theorem ij9 {p : Ph} {e : Event} {ad : Addr} (h : e.loc = .cell ad) (hk : (e.write = false ∧ RdT p ad.block) ∨ Has hp ad.block) : EvIn p hp e := by
  obtain ⟨l, wr, sy⟩ := e; simp only at h; subst h; refine ⟨⟨by simp, by simp⟩, fun x hx _ k' hk' => ?_⟩; have e1 : MemAct.ofEvent ⟨.cell ad, wr, sy⟩ = .access ⟨.cell ad, wr, sy⟩ := rfl; rw [e1] at hx; simp only [MemAct.touch?, Option.some.injEq] at hx; subst hx; simp only [blk, Option.some.injEq] at hk'; subst hk'; exact hk
def AtC (X : TX) (hp : Hq) (ad : Addr) (v : Value) : Prop := (RdT X.p ad.block ∨ Has hp ad.block) ∧ ∀ w, Sur X.p w → Held hp w → w.cell? ad = some v
def AtCs (X : TX) (hp : Hq) (ad : Addr) (vs : List Value) : Prop := (RdT X.p ad.block ∨ Has hp ad.block) ∧ ∀ w, Sur X.p w → Held hp w → ∀ j u, vs[j]? = some u → w.cell? (ad.add j) = some u
theorem mz7 {p : Ph} {e : Event} {ad : Addr} (h : e.loc = .cell ad) (hw : e.write = false) (hk : RdT p ad.block ∨ Has hp ad.block) : EvIn p hp e := ij9 h (hk.imp (fun h => ⟨hw, h⟩) id)
theorem D9 {t : TypeId} {x : Operand} {ad : Addr} {v : Value} (ho : ops[i]? = some ⟨some d, .load t x, ty, pos, af, none⟩) (hd : Nat.blt d c.n = true) (hk : b.kind ≠ .early) (ht' : NoR X.p.P t) (hx : ev fr x = some (.pointer (some ad))) (hc : AtC X hp ad v)
    (kk : TC X c b cs n (.inRegion ops rest :: k) ((d, v) :: fr) hp) : TC X c b cs (n + 1) (.inRegion ops (i :: rest) :: k) fr hp :=
  mH v ho rfl rfl hd hk (fun a w ha he hh => by
    obtain ⟨dd, ht, hr⟩ := ht'
    have hagg : (isAgg t).run X.p.P w = .ok false w := by
      unfold isAgg; rw [Sem.run_bind, run_underlying ht w]
      cases dd <;> simp_all [TypeDesc.isRow]
    have hcw := hc.2 w he hh; refine ⟨by simp only [execOp, ha.ev hx, Instr.loadAt, Instr.sureAddr, loadVar, Sem.run_bind, Sem.run_pure, Result.andThen_ok, hagg, Bool.false_eq_true, if_false, run_load, hcw], fun e hev => ?_⟩; simp only [execOp, ha.ev hx, Instr.loadAt, Instr.sureAddr, loadVar, Sem.events_bind, Sem.run_bind, Sem.run_pure, Sem.events_pure, Result.andThen_ok, Result.evThen_ok, hagg, events_isAgg, Bool.false_eq_true, if_false, run_load, hcw] at hev
    rcases events_load_at w ad _ _ hcw e hev with h1 | ⟨h1, h2⟩
    · simp at h1
    exact mz7 h1 h2 hc.1) kk
theorem dW {t : TypeId} {x : Operand} {ad : Addr} {vs : List Value} {sz : Nat} (ho : ops[i]? = some ⟨some d, .load t x, ty, pos, af, none⟩) (hd : Nat.blt d c.n = true) (hk : b.kind ≠ .early) (ht' : IsR X.p.P t) (hz' : Sz X.p.P t sz) (hx : ev fr x = some (.pointer (some ad))) (hn : vs.length = sz) (hc : AtCs X hp ad vs)
    (kk : TC X c b cs n (.inRegion ops rest :: k) ((d, .agg vs.toArray) :: fr) hp) : TC X c b cs (n + 1) (.inRegion ops (i :: rest) :: k) fr hp :=
  mH _ ho rfl rfl hd hk (fun a w ha he hh => by
    obtain ⟨dd, ht, hr⟩ := ht'; have hz : (X.p.P.info? t).map (·.size) = some vs.length := by rw [hn]; exact hz'
    have hagg : (isAgg t).run X.p.P w = .ok true w := by
      unfold isAgg; rw [Sem.run_bind, run_underlying ht w]
      cases dd <;> simp_all [TypeDesc.isRow]
    have hcw := hc.2 w he hh; have hl := run_loadCells_list (P := X.p.P) w ad vs hcw; have hs := U4 hz w; refine ⟨by simp only [execOp, ha.ev hx, Instr.loadAt, Instr.sureAddr, loadVar, Sem.run_bind, Sem.run_pure, Result.andThen_ok, hagg, if_true, hs, hl], fun e hev => ?_⟩; simp only [execOp, ha.ev hx, Instr.loadAt, Instr.sureAddr, loadVar, Sem.events_bind, Sem.run_bind, Sem.run_pure, Sem.events_pure, Result.andThen_ok, Result.evThen_ok, hagg, events_isAgg, if_true, hs, events_sizeOf, hl] at hev
    rcases events_loadCellsFrom_at ad (fun k => RdT X.p k ∨ Has hp k) hc.1 vs.length 0 #[] w #[] (fun j hj => by rw [Nat.zero_add, hcw j vs[j] (List.getElem?_eq_getElem hj)]; rfl) e hev with h1 | ⟨ad', h1, h2, h3⟩
    · simp at h1
    exact mz7 h1 h2 h3) kk
theorem bz9 {t e : TypeId} {x y : Operand} {ad : Addr} {m cp sz : Nat} {kd : IntKind} {z : Int} (j : Nat) (q : Addr) (ho : ops[i]? = some ⟨some d, .indexAddr t x y, ty, pos, af, none⟩) (hd : Nat.blt d c.n = true) (hk : b.kind ≠ .early) (ht : X.p.P.underlying t = some (.slice e)) (hz : Sz X.p.P e sz)
    (hx : ev fr x = some (.slice (some ad) m cp)) (hy : ev fr y = some (.int kd z)) (hjz : z = (j : Int)) (hj : j < m) (hq : ad.add (j * sz) = q)
    (kk : TC X c b cs n (.inRegion ops rest :: k) ((d, .pointer (some q)) :: fr) hp) : TC X c b cs (n + 1) (.inRegion ops (i :: rest) :: k) fr hp :=
  mH _ ho rfl rfl hd hk (fun a w ha _ _ => by
    subst hjz; subst hq; refine ⟨by simp only [execOp, ha.ev hx, ha.ev hy, Sem.run_bind, xQ w ht hz hj, Result.andThen_ok, Sem.run_pure], W7 ?_⟩; simp only [execOp, Sem.events_bind, rz7 (DC.out (s := Instr.indexAt t (a.eval x) (a.eval y)))]
    cases (Instr.indexAt t (a.eval x) (a.eval y)).run X.p.P w <;> rfl) kk
/-! ### What is known of cells -/
theorem I3 {g o : Nat} {vs : Array Value} {t : TypeId} {fz : Nat × Nat} {v : Value} (h : X.p.W.heap[g]? = some (.cells vs t fz)) (h1 : g ≠ X.p.F) (h2 : g ≠ X.p.Lf) (h3 : g ≠ X.p.o) (hv : vs[o]? = some v) : AtC X hp ⟨g, o, none⟩ v :=
  ⟨.inl ⟨I4 h, h3⟩, fun w he hh => by have := he.block g (I4 h) h1 h2 h3; simp [World.cell?, this, h, hv]⟩
theorem aR {g o : Nat} {vs : Array Value} {t : TypeId} {fz : Nat × Nat} {v : Value} (h : (g, Obj.cells vs t fz) ∈ hp) (hv : vs[o]? = some v) : AtC X hp ⟨g, o, none⟩ v :=
  ⟨.inr ⟨_, h, rfl⟩, fun w he hh => by have := hh _ h; simp only at this; simp [World.cell?, this, hv]⟩
theorem jY {g o : Nat} {vs : Array Value} {us : List Value} {t : TypeId} {fz : Nat × Nat} (h : (g, Obj.cells vs t fz) ∈ hp) (hv : ∀ i u, us[i]? = some u → vs[o + i]? = some u) : AtCs X hp ⟨g, o, none⟩ us :=
  ⟨.inr ⟨_, h, rfl⟩, fun w he hh i u hu => by have := hh _ h; simp only at this; rw [bI]; simp [World.cell?, this, hv i u hu]⟩
theorem xq8 {ad : Addr} {vs us : List Value} {j : Nat} (h : (Row (some ad) vs).P X.p.W) (hne : us ≠ []) (h1 : ad.block ≠ X.p.F) (h2 : ad.block ≠ X.p.Lf) (h3 : ad.block ≠ X.p.o) (hv : ∀ i u, us[i]? = some u → vs[j + i]? = some u) : AtCs X hp (ad.add j) us := by
  have hlt : ad.block < X.p.W.heap.size := by
    obtain ⟨u, r, rfl⟩ := List.exists_cons_of_ne_nil hne; have := hv 0 u rfl; refine (Row (some ad) vs).lt _ h _ ⟨ad, rfl, rfl, ?_⟩; rintro rfl
    simp at this
  refine ⟨by rw [tO]; exact .inl ⟨hlt, h3⟩, fun w he hh i u hu => ?_⟩; have hc := Row.cell h (hv i u hu); rw [xx9] at hc; rw [add_add']; rw [← hc]; have hb := he.block ad.block hlt h1 h2 h3; exact World.cell?_of_block (by rw [tO]; exact hb)
/-! ### Blocks -/
theorem tq6 {w : World} (hh : Held hp w) (obj : Obj) : Trn w (w.alloc obj) hp ((w.heap.size, obj) :: hp) := by
  refine ⟨rfl, rfl, rfl, by simp, fun k hk _ => qW w obj hk, fun q hq => ?_, fun q hq => ?_⟩
  · rcases List.mem_cons.1 hq with rfl | hq
    · show (w.heap.push obj)[w.heap.size]? = some obj
      simp
    rw [qW w obj (zC hh ⟨q, hq, rfl⟩)]; exact hh q hq
  rcases List.mem_cons.1 hq with rfl | hq
  · exact .inr (Nat.le_refl _)
  exact .inl ⟨q, hq, rfl⟩
theorem vj2 {o : Oper} (obj : Obj) (mk : Nat → Value) (ho : ops[i]? = some o) (hdst : o.dst = some d) (hg : o.guard = none) (hd : Nat.blt d c.n = true) (hk : b.kind ≠ .early)
    (hrun : ∀ a w, Ok c a fr → (execOp a.eval o).run X.p.P w = .ok (.value (mk w.heap.size)) (w.alloc obj) ∧ (execOp a.eval o).events X.p.P w #[] = #[])
    (kk : ∀ g, X.p.W.heap.size ≤ g → ¬ Has hp g → TC X c b cs n (.inRegion ops rest :: k) ((d, mk g) :: fr) ((g, obj) :: hp)) : TC X c b cs (n + 1) (.inRegion ops (i :: rest) :: k) fr hp :=
  tc_op ho hg hk fun a ha w he hh => ⟨_, _, _, (hrun a w ha).1, W7 (hrun a w ha).2, tq6 hh obj, by
    rw [hdst]
    exact kk _ he.size (fun hg => by have := zC hh hg; omega) _ (ha.put (by simpa using hd) _)⟩
theorem tr_box {e : TypeId} {x : Operand} {v : Value} (ho : ops[i]? = some ⟨some d, .box e x, ty, pos, af, none⟩) (hd : Nat.blt d c.n = true) (hk : b.kind ≠ .early) (hx : ev fr x = some v)
    (kk : ∀ g, X.p.W.heap.size ≤ g → ¬ Has hp g → TC X c b cs n (.inRegion ops rest :: k) ((d, .pointer (d6 g)) :: fr) ((g, .cells v.cells e (0, 0)) :: hp)) : TC X c b cs (n + 1) (.inRegion ops (i :: rest) :: k) fr hp :=
  vj2 (.cells v.cells e (0, 0)) (fun g => .pointer (d6 g)) ho rfl rfl hd hk (fun a w ha => ⟨by simp only [execOp, ha.ev hx]; rfl, by simp only [execOp, ha.ev hx]; rfl⟩) kk
theorem kq4 {e : TypeId} {us : Array Value} (ho : ops[i]? = some ⟨some d, .alloc e, ty, pos, af, none⟩) (hd : Nat.blt d c.n = true) (hk : b.kind ≠ .early)
    (hrun : ∀ w, (Instr.alloc e true (.tuple #[])).run X.p.P w = .ok (.pointer (some ⟨w.heap.size, 0, none⟩)) (w.alloc (.cells us e (0, 0)))) (hev : ∀ w es, (Instr.alloc e true (.tuple #[])).events X.p.P w es = es)
    (kk : ∀ g, X.p.W.heap.size ≤ g → ¬ Has hp g → TC X c b cs n (.inRegion ops rest :: k) ((d, .pointer (d6 g)) :: fr) ((g, .cells us e (0, 0)) :: hp)) : TC X c b cs (n + 1) (.inRegion ops (i :: rest) :: k) fr hp :=
  vj2 (.cells us e (0, 0)) (fun g => .pointer (d6 g)) ho rfl rfl hd hk (fun a w _ => ⟨by simp only [execOp, Sem.run_bind, hrun, Result.andThen_ok, Sem.run_pure], by simp [execOp, hrun, hev]⟩) kk
theorem mj5 {w w' : World} {g : Nat} {o o' : Obj} {hp' : Hq} (hh : Held hp w) (hpp : hp.Perm ((g, o) :: hp')) (hn : ¬ Has hp' g) (e : Ext [g] w w') (hg : w'.heap[g]? = some o') : Trn w w' hp ((g, o') :: hp') := by
  have hmem : ∀ q ∈ hp', q ∈ hp := fun q hq => hpp.mem_iff.2 (List.mem_cons_of_mem _ hq); have hgm : (g, o) ∈ hp := hpp.mem_iff.2 (by simp); refine ⟨e.os, e.tape, e.output, e.size, fun k hk hnk => e.block k hk (by simp only [List.mem_singleton]; rintro rfl; exact hnk ⟨_, hgm, rfl⟩), fun q hq => ?_, fun q hq => ?_⟩
  · rcases List.mem_cons.1 hq with rfl | hq
    · exact hg
    have h1 := hh q (hmem q hq); exact (e.block q.1 (I4 h1) (by simp only [List.mem_singleton]; rintro h2; exact hn ⟨q, hq, h2⟩)).trans h1
  rcases List.mem_cons.1 hq with rfl | hq
  · exact .inl ⟨_, hgm, rfl⟩
  exact .inl ⟨q, hmem q hq, rfl⟩
theorem pz0 {t : TypeId} {x y : Operand} {g o : Nat} {old : Array Value} {v u : Value} {e : TypeId} {hp' : Hq} (ho : ops[i]? = some ⟨none, .store t x y, ty, pos, af, none⟩) (hk : b.kind ≠ .early) (hx : ev fr x = some (.pointer (some ⟨g, o, none⟩))) (hy : ev fr y = some v)
    (hpp : hp.Perm ((g, .cells old e (0, 0)) :: hp')) (hn : ¬ Has hp' g) (hz : Sz X.p.P t 1) (hou : old[o]? = some u) (h1 : v.oneCell' = true)
    (kk : TC X c b cs n (.inRegion ops rest :: k) fr ((g, .cells (old.setIfInBounds o v) e (0, 0)) :: hp')) : TC X c b cs (n + 1) (.inRegion ops (i :: rest) :: k) fr hp :=
  vj8 ho rfl rfl hk fun a ha w he hh => by
    have hgm : (g, Obj.cells old e (0, 0)) ∈ hp := hpp.mem_iff.2 (by simp); have hg := hh _ hgm; simp only at hg; have hc : w.cell? ⟨g, o, none⟩ = some u := by simp [World.cell?, hg, hou]
    have hf : w.frozen? ⟨g, o, none⟩ = false := by simp [World.frozen?, hg]
    have hcs : v.cells = #[v] := by cases v <;> simp_all [Value.cells, Value.oneCell']
    have hsr : (store ⟨g, o, none⟩ v).run X.p.P w = .ok () (w.setCell ⟨g, o, none⟩ v) := by
      rw [run_store X.p.P w _ v _ h1]; simp only [hc, hf, Bool.false_eq_true, if_false]
    refine ⟨w.setCell ⟨g, o, none⟩ v, _, ?_, fun ev hev => ?_, mj5 hh hpp hn ⟨rfl, rfl, rfl, by simp [World.setCell], fun k _ hn => Below.heap_setCell w ⟨g, o, none⟩ v k (by simpa using hn), Nat.le_refl _⟩ ?_, kk a ha⟩
    · simp only [execOp, ha.ev hx, ha.ev hy, Instr.storeAt, Instr.sureAddr, Sem.run_bind, Sem.run_pure, Result.andThen_ok, storeVar, hcs, U4 hz, List.size_toArray, List.length_cons, List.length_nil, Nat.zero_add, ne_eq, not_true, if_false, storeCells, Addr.add, if_true, hsr, hc, hf, Bool.false_eq_true]
    · simp only [execOp, ha.ev hx, ha.ev hy, Instr.storeAt, Instr.sureAddr, Sem.events_bind, Sem.run_bind, Sem.run_pure, Sem.events_pure, Result.andThen_ok, Result.evThen_ok, storeVar, hcs, U4 hz, events_sizeOf, List.size_toArray, List.length_cons, List.length_nil, Nat.zero_add, ne_eq, not_true, if_false, storeCells, Addr.add, if_true, hsr, events_store X.p.P w _ _ v _ h1, hc, hf, Bool.false_eq_true] at hev
      simp at hev
      subst hev; exact ij9 rfl (.inr ⟨_, hgm, rfl⟩)
    simp [World.setCell, Array.getElem?_modify, hg]
theorem mj6 {t : TypeId} {x y : Operand} {g : Nat} {old us : Array Value} {e : TypeId} {hp' : Hq} (ho : ops[i]? = some ⟨none, .store t x y, ty, pos, af, none⟩) (hk : b.kind ≠ .early) (hx : ev fr x = some (.pointer (d6 g))) (hy : ev fr y = some (.agg us))
    (hpp : hp.Perm ((g, .cells old e (0, 0)) :: hp')) (hn : ¬ Has hp' g) (hz : Sz X.p.P t us.size) (hou : old.size = us.size) (h1 : us.toList.all (·.oneCell') = true)
    (kk : TC X c b cs n (.inRegion ops rest :: k) fr ((g, .cells us e (0, 0)) :: hp')) : TC X c b cs (n + 1) (.inRegion ops (i :: rest) :: k) fr hp :=
  vj8 ho rfl rfl hk fun a ha w he hh => by
    have hgm : (g, Obj.cells old e (0, 0)) ∈ hp := hpp.mem_iff.2 (by simp); have hg := hh _ hgm; simp only at hg; have h1' : ∀ v ∈ us.toList, v.oneCell' = true := fun v hv => List.all_eq_true.1 h1 v hv; refine ⟨w.setRow g us, _, ?_, fun ev hev => ?_, mj5 hh hpp hn (bx3 us) (setRow_heap w g old us e (0, 0) hg), kk a ha⟩
    · simp only [execOp, ha.ev hx, ha.ev hy, Instr.storeAt, Instr.sureAddr, Sem.run_bind, Sem.run_pure, Result.andThen_ok, run_storeVar_row w g e t old us hg hz hou (by rw [← Array.all_toList]; exact h1)]
    have hsz := U4 hz w
    have hev2 : ev ∈ (storeVar t ⟨g, 0, none⟩ (.agg us)).events X.p.P w #[] := by
      simp only [execOp, ha.ev hx, ha.ev hy, Instr.storeAt, Instr.sureAddr, Sem.events_bind, Sem.run_bind, Sem.run_pure, Sem.events_pure, Result.andThen_ok, Result.evThen_ok, run_storeVar_row w g e t old us hg hz hou (by rw [← Array.all_toList]; exact h1)] at hev; exact hev
    simp only [storeVar, Sem.events_bind, hsz, events_sizeOf, Result.evThen_ok, Value.cells, ne_eq, not_true, if_false] at hev2
    rcases events_storeCells_at g 0 e us.toList 0 old w #[] hg (by simp; omega) h1' ev hev2 with h2 | ⟨ad, h2, rfl⟩
    · simp at h2
    exact ij9 h2 (.inr ⟨_, hgm, rfl⟩)
/-! ### Calls -/
def CT (X : TX) (f : Nat) (args : List Value) (hp : Hq) (m : Nat) (v : Value) : Prop := ∀ (n : Nat) (cf : Frame) (cs : List Frame), X.T n (cf.finish v) cs hp → X.T (n + m) (Frame.enter X.p.P f args.toArray .normal) (cf :: cs) hp
theorem CT.more {f : Nat} {args : List Value} {m m' : Nat} {v : Value} (h : CT X f args hp m v) (hm : m ≤ m') : CT X f args hp m' v := fun n cf cs hk => X.more (h n cf cs hk) (by omega)
theorem mapM_ev {a : Act} (ha : Ok c a fr) : ∀ (xs : List Operand) (vs : List Value), xs.mapM (ev fr) = some vs → xs.map a.eval = vs := by
  intro xs
  induction xs with
  | nil => intro vs h; simpa using h
  | cons x xs ih =>
    intro vs h; simp only [List.mapM_cons, Option.bind_eq_bind, Option.bind_eq_some_iff, Option.pure_def, Option.some.injEq] at h; obtain ⟨v, hv, us, hus, rfl⟩ := h; rw [List.map_cons, ha.ev hv, ih us hus]
theorem fin_at' {a : Act} {o : Oper} (ho : ops[i]? = some o) (v : Value) : (b.at a (.inRegion ops (i :: rest) :: k)).finish v = b.at (a.put o.dst v) (.inRegion ops rest :: k) := by rw [Frame.finish_at, ho]; rfl
theorem wV {f m : Nat} {x : Operand} {ars : Array Operand} {ats : Array TypeId} {vs cap : List Value} {v : Value} (ho : ops[i]? = some ⟨some d, .call ⟨.value x, ars, ats⟩, ty, pos, af, none⟩) (hd : Nat.blt d c.n = true) (hk : b.kind ≠ .early) (hcb : Callable X.p.P f)
    (hf : ev fr x = some (.func (.func f) #[] cap.toArray)) (hx : ars.toList.mapM (ev fr) = some vs) (hm : CT X f (vs ++ cap) hp m v)
    (kk : TC X c b cs n (.inRegion ops rest :: k) ((d, v) :: fr) hp) : TC X c b cs (n + m + 1) (.inRegion ops (i :: rest) :: k) fr hp := fun a ha => X.lift _ _ _ _ fun w he hh => by
  have e1 : ars.map a.eval = vs.toArray := by apply Array.ext'; simpa using mapM_ev ha _ _ hx
  have e2 : execOp a.eval (⟨some d, .call ⟨.value x, ars, ats⟩, ty, pos, af, none⟩ : Oper) = callFunc f (vs ++ cap).toArray := by
    show ((do let dd ← resolve a.eval ⟨.value x, ars, ats⟩ ty; invoke dd.target dd.args) : Sem Next) = _; have e3 : (#[] ++ vs.toArray ++ cap.toArray) = (vs ++ cap).toArray := by simp
    simp only [resolve, ha.ev hf, e1, Deferred.ofValue]; show (invoke (.fn (.func f) cap.toArray) (#[] ++ vs.toArray) : Sem Next) = _; show callFunc f (#[] ++ vs.toArray ++ cap.toArray) = _; rw [e3]
  refine ⟨_, _, w, _, hp, stepG_enter ho rfl hk (by rw [e2]; exact hcb.run _ _), fun e hev => ?_, bz5 hh, hm n _ cs ?_⟩
  · have := ax9 hev
    rw [e2, hcb.events] at this
    simp at this
  rw [fin_at' ho]; exact kk _ (ha.put (by simpa using hd) v)
theorem xq0 {f m : Nat} {fn : Func} {cd : Code} {args : List Value} {v : Value} (hf : X.p.P.funcs[f]? = some fn) (hb : fn.body = some cd) (b0 : Bx) (hlen : args.length ≤ fn.ntmps)
    (h : ∀ (n : Nat) (cf : Frame) (cs : List Frame), X.T n (cf.finish v) cs hp → TC X ⟨X.p.P, fn.ntmps, b0, [], none⟩ (base f) (cf :: cs) (n + m) [.code cd] (argFr 0 args) hp) : CT X f args hp m v := by
  intro n cf cs hk; rw [enter_at args.toArray hf hb]; refine h n cf cs hk _ ⟨rfl, by simp; omega, fun t u hu => ?_⟩; have h2 := (xZ args 0 t u hu).2; simp only [Nat.sub_zero] at h2; have hlt : t < args.length := (List.getElem?_eq_some_iff.1 h2).1
  simpa [Array.getD_eq_getD_getElem?, Array.getElem?_append, hlt] using (List.getElem?_eq_some_iff.1 h2).2
theorem t_leave {fn : Func} {cf : Frame} {v : Value} {f : Nat} {a : Act} {todo : List Item} {hp' : Hq} {t : Tmp} (hf : X.p.P.funcs[f]? = some fn) (hr : fn.results = #[.tmp t]) (hd : a.defers = []) (hv : a.tmps.getD t undef = v) (hs : ∀ q ∈ hp', q ∈ hp) (kk : X.T n (cf.finish v) cs hp') :
    X.T (n + 1) { (base f).at a todo with mode := .returning } (cf :: cs) hp :=
  X.lift _ _ _ _ fun w he hh => ⟨_, _, w, #[], hp', stepG_leave (v := v) rfl hd hf (by rw [results_tmp hr, hv]) (events_results_tmp hr _ _), by simp, px9 hh hs, kk⟩
theorem rq0 {fn : Func} {cf : Frame} {v : Value} {f : Nat} {hp' : Hq} {t : Tmp} (hc : c.D = []) (hf : X.p.P.funcs[f]? = some fn) (hr : fn.results = #[.tmp t]) (hv : lk fr t = some v) (hs : ∀ q ∈ hp', q ∈ hp) (kk : X.T n (cf.finish v) cs hp') :
    TC X c (base f) (cf :: cs) (n + 2) (.code .ret :: k) fr hp := fun a ha => vq0 (fun w => stepG_ret') (t_leave hf hr (ha.d.trans hc) (ha.at_ t v hv) hs kk)
/-! ### Regions whose order is open -/
def TA (X : TX) (c : Cx) (b : Frame) (cs : List Frame) (k : List Item) (ops : Array Oper) (n fuel : Nat) (listed : Array Bool) (fr : Fr) (hp : Hq) : Prop := ∀ t, TC X c b cs n (.inRegion ops (Region.linearise.go .any ops fuel t listed []) :: k) fr hp
theorem O3 {listed : Array Bool} {l : List Nat} {fuel : Nat} (hr : Region.ready .any ops listed = l) (hne : l ≠ [])
    (kk : ∀ j ∈ l, ∀ rest, (∃ t, rest = Region.linearise.go .any ops fuel t (listed.setIfInBounds j true) []) → TC X c b cs n (.inRegion ops (j :: rest) :: k) fr hp) : TA X c b cs k ops n (fuel + 1) listed fr hp := fun t => by
  simp only [Region.linearise.go]
  change TC X c b cs n (.inRegion ops (match (Region.ready .any ops listed)[t % (Region.ready .any ops listed).length]? with
      | some i => Region.linearise.go .any ops fuel (t / (Region.ready .any ops listed).length) (listed.setIfInBounds i true) [i]
      | none => [].reverse) :: k) fr hp
  rw [hr]; have hlt : t % l.length < l.length := Nat.mod_lt _ (List.length_pos_iff.2 hne); rw [List.getElem?_eq_getElem hlt]; simp only []; rw [linearise_go_acc, List.reverse_singleton, List.singleton_append]; exact kk _ (List.getElem_mem hlt) _ ⟨_, rfl⟩
theorem rq1 {id : Nat} (hm : X.p.P.follows .mixedOrders = true) (kk : TA X c b cs k ops n ops.size (Array.replicate ops.size false) fr hp) : TC X c b cs (n + 1) (.code (.region id ops true) :: k) fr hp := fun a ha => X.lift _ _ _ _ fun w he hh => by
  refine ⟨_, _, _, _, hp, stepG_region_draw, by simp, ⟨rfl, rfl, rfl, Nat.le_refl _, fun _ _ _ => rfl, hh, fun q hq => .inl ⟨q, hq, rfl⟩⟩, ?_⟩; simp only [Region.schedule, hm, Bool.true_or, if_true]; exact kk _ a ha
end
/-! ### Where they meet -/
section
variable {p : Ph} {Goal : Goroutine → World → Prop} {c : Cx} {b : Frame} {cs : List Frame} {n : Nat} {k : List Item} {fr : Fr} {hp : Hq} {ops : Array Oper} {i : Nat} {rest : List Nat}
variable {d : Tmp} {ty : TypeId} {pos : String} {af : Array Edge}
theorem xx0 {j : Nat} {x y : Operand} (ho : ops[i]? = some ⟨none, .send x y, ty, pos, af, none⟩) (hk : b.kind ≠ .early) (hx : ev fr x = some (.chan (some p.F))) (hy : ev fr y = some (p.v j))
    (kk : TC (.fol p .send2) c b cs n (.inRegion ops rest :: k) fr hp) : TC (.fol p (.send1 j)) c b cs (n + 1) (.inRegion ops (i :: rest) :: k) fr hp := fun a ha w he hh => by
  refine .inr ⟨.tuple #[], ?_, ?_⟩
  · rw [stepG_comm (cases := #[scase p.F (p.v j) (.tuple #[])]) (blocking := true) (shape := .send) (w' := w) ho rfl hk (by simp [execOp, scase, ha.ev hx, ha.ev hy])]
    have : listed p.P b.fn a (⟨none, .send x y, ty, pos, af, none⟩ : Oper) w = #[] := by unfold listed; rw [show (execOp a.eval (⟨none, .send x y, ty, pos, af, none⟩ : Oper)).events p.P w #[] = #[] by simp [execOp, ha.ev hx, ha.ev hy]]; exact seen_none _ _
    rw [this]
  rw [fin_at' ho]; exact kk a ha
theorem xq9 {x y : Operand} (ho : ops[i]? = some ⟨none, .send x y, ty, pos, af, none⟩) (hk : b.kind ≠ .early) (hx : ev fr x = some (.chan (some p.Lf))) (hy : ev fr y = some (.bool true))
    (kk : ∀ a, Ok c a fr → QuitsD p.P n 0 (G (b.at a (.inRegion ops rest :: k)) cs)) : TC (.fol p .send2) c b cs (n + 1) (.inRegion ops (i :: rest) :: k) fr hp := fun a ha w he hh => by
  refine .inr ⟨.tuple #[], ?_, ?_⟩
  · rw [stepG_comm (cases := #[scase p.Lf (.bool true) (.tuple #[])]) (blocking := true) (shape := .send) (w' := w) ho rfl hk (by simp [execOp, scase, ha.ev hx, ha.ev hy])]
    have : listed p.P b.fn a (⟨none, .send x y, ty, pos, af, none⟩ : Oper) w = #[] := by unfold listed; rw [show (execOp a.eval (⟨none, .send x y, ty, pos, af, none⟩ : Oper)).events p.P w #[] = #[] by simp [execOp, ha.ev hx, ha.ev hy]]; exact seen_none _ _
    rw [this]
  rw [fin_at' ho]; exact kk a ha
theorem at_recv {j : Nat} {t e : TypeId} {dir : ChanDir} {x : Operand} {z : Value} (ho : ops[i]? = some ⟨some d, .recv t x false, ty, pos, af, none⟩) (hd : Nat.blt d c.n = true) (hk : b.kind ≠ .early) (ht : p.P.underlying t = some (.chan dir e)) (hz : ∀ w, (zeroValue e).run p.P w = .ok z w) (hx : ev fr x = some (.chan (some p.Lf)))
    (kk : TC (.fol p (nxt j)) c b cs n (.inRegion ops rest :: k) ((d, .bool true) :: fr) hp) : TC (.fol p (.recv j)) c b cs (n + 1) (.inRegion ops (i :: rest) :: k) fr hp := fun a ha w he hh => by
  refine .inr ⟨z, ?_, ?_⟩
  · rw [stepG_comm (cases := #[rcase p.Lf z]) (blocking := true) (shape := .recv false) (w' := w) ho rfl hk (by simp [execOp, rcase, Sem.run_bind, run_underlying ht, hz, ha.ev hx])]
    have : listed p.P b.fn a (⟨some d, .recv t x false, ty, pos, af, none⟩ : Oper) w = #[] := by unfold listed; rw [show (execOp a.eval (⟨some d, .recv t x false, ty, pos, af, none⟩ : Oper)).events p.P w #[] = #[] by simp [execOp, run_underlying ht, hz, ha.ev hx]]; exact seen_none _ _
    rw [this]
  rw [fin_at' ho]; exact kk _ (ha.put (by simpa using hd) _)
theorem xx4 {x : Operand} {ats : Array TypeId} (ho : ops[i]? = some ⟨none, .call ⟨.builtin .close, #[x], ats⟩, ty, pos, af, none⟩) (hk : b.kind ≠ .early) (hm : b.mode = .run) (hx : ev fr x = some (.chan (some p.F))) (hq : (p.P.funcs[b.fn]?).any (·.norace) = false)
    (kk : ∀ a, Ok c a fr → QuitsD p.P n 0 (G (b.at a (.inRegion ops rest :: k)) cs)) : TC (.fol p .close) c b cs (n + 1) (.inRegion ops (i :: rest) :: k) fr hp := fun a ha w he hh => by
  refine .inr ⟨?_, _, _, fun s tm hc => stepG_close (ats := ats) ho rfl hk rfl (ha.ev hx) hc hq, kk a ha⟩
  simp [mayWake, G, Frame.at, hm, ho]
theorem at_go {j : Nat} {x : Operand} {f : Nat} {cap : List Value} {h1 h2 : Hq} (ho : ops[i]? = some ⟨none, .go ⟨.value x, #[], #[]⟩, ty, pos, af, none⟩) (hk : b.kind ≠ .early) (hx : ev fr x = some (.func (.func f) #[] cap.toArray))
    (hs1 : ∀ q ∈ h1, q ∈ hp) (hs2 : ∀ q ∈ h2, q ∈ hp) (hdis : ∀ k, Has h1 k → ¬ Has h2 k) (hnew : ∀ q ∈ h1, p.W.heap.size ≤ q.1)
    (kk : (j < p.N ∧ Fol p p.BW (.send1 j) (born p.P ⟨.fn (.func f) cap.toArray, #[]⟩).frame [] h1 ∧ TC (.folM p Goal (.sp (j + 1))) c b cs n (.inRegion ops rest :: k) fr h2) ∨
      (j = p.N ∧ Fol p p.BC (nxt p.N) (born p.P ⟨.fn (.func f) cap.toArray, #[]⟩).frame [] h1 ∧ TC (.folM p Goal (.ga (List.range p.N))) c b cs n (.inRegion ops rest :: k) fr h2)) :
    TC (.folM p Goal (.sp j)) c b cs (n + 1) (.inRegion ops (i :: rest) :: k) fr hp := fun a ha w he hh => by
  refine .inr ⟨b.at a (.inRegion ops rest :: k), cs, (born p.P ⟨.fn (.func f) cap.toArray, #[]⟩).frame, h1, h2, ?_, hs1, hs2, hdis, hnew, kk.imp (fun ⟨a1, a2, a3⟩ => ⟨a1, a2, a3 a ha⟩) fun ⟨a1, a2, a3⟩ => ⟨a1, a2, a3 a ha⟩⟩; rw [stepG_spawn (d := ⟨.fn (.func f) cap.toArray, #[]⟩) (w' := w) ho rfl hk (by simp [execOp, resolve, ha.ev hx, Deferred.ofValue]) rfl]; have : listed p.P b.fn a (⟨none, .go ⟨.value x, #[], #[]⟩, ty, pos, af, none⟩ : Oper) w = #[] := by unfold listed; rw [show (execOp a.eval (⟨none, .go ⟨.value x, #[], #[]⟩, ty, pos, af, none⟩ : Oper)).events p.P w #[] = #[] by simp [execOp, resolve, ha.ev hx, Deferred.ofValue]]; exact seen_none _ _
  rw [this]
  rfl
theorem xx1 {R : List Nat} {t e : TypeId} {dir : ChanDir} {x : Operand} (ho : ops[i]? = some ⟨some d, .recv t x true, ty, pos, af, none⟩) (hd : Nat.blt d c.n = true) (hk : b.kind ≠ .early) (ht : p.P.underlying t = some (.chan dir e)) (hz : ∀ w, (zeroValue e).run p.P w = .ok p.z w) (hx : ev fr x = some (.chan (some p.F)))
    (kk : ∀ j ∈ R, TC (.folM p Goal (.ga (R.erase j))) c b cs n (.inRegion ops rest :: k) ((d, .tuple #[p.v j, .bool true]) :: fr) hp)
    (hend : R = [] → ∀ w, Sur p w → Held hp w → ∀ a, Ok c a ((d, .tuple #[p.z, .bool false]) :: fr) → Co p.P (G (b.at a (.inRegion ops rest :: k)) cs) w Goal) : TC (.folM p Goal (.ga R)) c b cs (n + 1) (.inRegion ops (i :: rest) :: k) fr hp := fun a ha w he hh => by
  refine .inr ⟨?_, fun j hj => ?_, fun hR w' he' hh' => ?_⟩
  · rw [stepG_comm (cases := #[rcase p.F p.z]) (blocking := true) (shape := .recv true) (w' := w) ho rfl hk (by simp [execOp, rcase, Sem.run_bind, run_underlying ht, hz, ha.ev hx])]
    have : listed p.P b.fn a (⟨some d, .recv t x true, ty, pos, af, none⟩ : Oper) w = #[] := by unfold listed; rw [show (execOp a.eval (⟨some d, .recv t x true, ty, pos, af, none⟩ : Oper)).events p.P w #[] = #[] by simp [execOp, run_underlying ht, hz, ha.ev hx]]; exact seen_none _ _
    rw [this]
  · rw [fin_at' ho]; exact kk j hj _ (ha.put (by simpa using hd) _)
  rw [fin_at' ho]; exact hend hR w' he' hh' _ (ha.put (by simpa using hd) _)
/-! ### A child's first step, and its last ones -/
def bot (P : Program) : Frame := { (default : Frame) with fn := P.funcs.size, defers := [], mode := .panicking [goexitEntry] }
theorem ux6 {P : Program} {f : Nat} {fn : Func} {cd : Code} {cap : List Value} (hf : P.funcs[f]? = some fn) (hb : fn.body = some cd) (hname : (fn.name == "runtime.NumGoroutine") = false) (w : World) :
    stepG P false (G (born P ⟨.fn (.func f) cap.toArray, #[]⟩).frame []) w = .go (G ((baseD f).at { tmps := cap.toArray ++ Array.replicate (fn.ntmps - cap.length) undef, defers := [] } [.code cd]) [bot P]) w #[] := by
  have h1 : ¬ fn.name = "runtime.NumGoroutine" := by simpa using hname
  simp [born, G, stepG, unwind, callDeferred, invoke, callFunc, hf, h1, hb, seen_none, GStep.after, Frame.enter, Frame.at, baseD, bot]
theorem kx5 {P : Program} {f : Nat} {fn : Func} {a : Act} {todo : List Item} (hf : P.funcs[f]? = some fn) (hr : fn.results = #[]) (hd : a.defers = []) : QuitsD P 2 0 (G { (baseD f).at a todo with mode := .returning } [bot P]) := by
  refine QuitsD.ctl (g' := G (bot P) []) rfl (fun w => ?_) ?_
  · simp [G, stepG, unwind, doReturn, results, Frame.at, baseD, bot, hf, hr, hd, seen_none, GStep.after, goexitEntry]
  refine QuitsD.ctl (g' := { G (bot P) [] with status := .finished }) rfl (fun w => ?_) ⟨rfl, rfl⟩
  simp [G, stepG, unwind, bot, goexitEntry, Frame.catches]
  rfl
theorem qx4 {pr : Pr} {f m : Nat} {fn : Func} {cd : Code} {cap : List Value} (hf : p.P.funcs[f]? = some fn) (hb : fn.body = some cd) (hname : (fn.name == "runtime.NumGoroutine") = false) (b0 : Bx) (hlen : cap.length ≤ fn.ntmps)
    (h : TC (.fol p pr) ⟨p.P, fn.ntmps, b0, [], none⟩ (baseD f) [bot p.P] m [.code cd] (argFr 0 cap) hp) : Fol p (m + 1) pr (born p.P ⟨.fn (.func f) cap.toArray, #[]⟩).frame [] hp := by
  refine (TX.fol p pr).lift _ _ _ _ fun w he hh => ⟨_, _, w, #[], hp, ux6 hf hb hname w, by simp, bz5 hh, ?_⟩; refine h _ ⟨rfl, by simp; omega, fun t u hu => ?_⟩; have h2 := (xZ cap 0 t u hu).2; simp only [Nat.sub_zero] at h2; have hlt : t < cap.length := (List.getElem?_eq_some_iff.1 h2).1
  simpa [Array.getD_eq_getD_getElem?, Array.getElem?_append, hlt] using (List.getElem?_eq_some_iff.1 h2).2
end
end Go.W
end
section
namespace Go.Proofs.YtcdopfjiadifhaaGreatDoor
open Go Go.W Go.Conc
set_option maxRecDepth 20000
attribute [local irreducible] HL HC HQ HB Row Rows2 Blk Facts
set_option maxRecDepth 20000
noncomputable abbrev ph (W : World) (Fc Lf o N : Nat) (v : Nat → Value) : Ph := ⟨Tryz.prog, W, Fc, Lf, o, N, v, .agg #[int 0, int 0], 300, 60 * N + 60⟩
def offN (off s : Int) : Int := (s * (100 - off) + 99).tdiv 100
def ruleV : Option Nat → Value
  | none => .func (.func 96) #[] #[]
  | some g => .func (.func 98) #[] #[.pointer (d6 g)]
def billN (off : Int) (r : Option Nat) (s : Int) : Int := if r.isSome then offN off s else s
def RuleAt (W : World) (Fc Lf o : Nat) (off : Int) : Option Nat → Prop
  | none => True
  | some g => g ≠ Fc ∧ g ≠ Lf ∧ g ≠ o ∧ ∃ vs t fz, W.heap[g]? = some (.cells vs t fz) ∧ vs[4]? = some (int off)
variable {W : World} {Fc Lf o N : Nat} {v : Nat → Value} {pr : Pr} {hp : Hq}
theorem ct_128 (s : Int) : CT (.fol (ph W Fc Lf o N v) pr) 96 [int s] hp 40 (int s) := by
  refine xq0 F.jX rfl ⟨W, [], fun _ => False⟩ t8 fun n cf cs hk => ?_; refine P3 (H4 ?_); refine lR rfl rfl (fun h => by cases h) rfl ?_; refine U6 (P3 (H4 ?_)); refine yS rfl rfl (fun h => by cases h) rfl ?_; refine lR rfl rfl (fun h => by cases h) rfl ?_; refine U6 ?_; refine rq0 rfl F.jX rfl rfl (fun _ h => h) ?_; exact TX.more _ hk (by omega)
theorem ct_130 (s off : Int) (g : Nat) (hs : 0 ≤ s ∧ s ≤ 1000000) (ho : 0 ≤ off ∧ off ≤ 100) (hr : RuleAt W Fc Lf o off (some g)) : CT (.fol (ph W Fc Lf o N v) pr) 98 [int s, .pointer (d6 g)] hp 40 (int (offN off s)) := by
  obtain ⟨h1, h2, h3, vs, t, fz, h4, h5⟩ := hr; have hb1 : 0 ≤ s * (100 - off) := Int.mul_nonneg hs.1 (by omega); have hb2 : s * (100 - off) ≤ 1000000 * 100 := Int.mul_le_mul hs.2 (by omega) (by omega) (by omega)
  have hb3 : 0 ≤ offN off s ∧ offN off s ≤ 100000099 := by
    unfold offN; exact ⟨Int.tdiv_nonneg (by omega) (by omega), by rw [Int.tdiv_eq_ediv_of_nonneg (by omega)]; omega⟩
  refine xq0 F.jW rfl ⟨W, [], fun _ => False⟩ t8 fun n cf cs hk => ?_; refine P3 (H4 ?_); refine lR rfl rfl (fun h => by cases h) rfl ?_; refine U6 (P3 (H4 ?_)); refine yS rfl rfl (fun h => by cases h) rfl ?_; refine bJ ⟨g, 0, none⟩ rfl rfl (fun h => by cases h) rfl T.E9 (fun _ _ _ => p9) rfl ?_; refine bJ ⟨g, 4, none⟩ rfl rfl (fun h => by cases h) rfl T.N3 (fun _ _ _ => p9) rfl ?_; refine D9 (v := int off) rfl rfl (fun h => by cases h) T.b9 rfl (I3 h4 h1 h2 h3 h5) ?_; refine tr_sub (100 - off) rfl rfl (fun h => by cases h) rfl rfl rfl r6 ?_; refine tr_mul (s * (100 - off)) rfl rfl (fun h => by cases h) rfl rfl rfl r6 ?_; refine rj4 (s * (100 - off) + 99) rfl rfl (fun h => by cases h) rfl rfl rfl r6 ?_; refine tr_quo (offN off s) rfl rfl (fun h => by cases h) rfl rfl (by decide) rfl r6 ?_; refine lR rfl rfl (fun h => by cases h) rfl ?_; refine U6 ?_; refine rq0 rfl F.jW rfl rfl (fun _ h => h) ?_; exact TX.more _ hk (by omega)
theorem ct_rule (s off : Int) (r : Option Nat) (hs : 0 ≤ s ∧ s ≤ 1000000) (ho : 0 ≤ off ∧ off ≤ 100) (hr : RuleAt W Fc Lf o off r) : ∃ f cap, ruleV r = .func (.func f) #[] cap.toArray ∧ Callable Tryz.prog f ∧ CT (.fol (ph W Fc Lf o N v) pr) f ([int s] ++ cap) hp 40 (int (billN off r s)) := by
  cases r with
  | none => exact ⟨96, [], rfl, F.wP, ct_128 s⟩
  | some g => exact ⟨98, [.pointer (d6 g)], rfl, F.wO, ct_130 s off g hs ho hr⟩
/-! Regions whose order is open -/
def regionAt (id : Nat) : Code → Array Oper
  | .region i ops _ => if i = id then ops else #[]
  | .seq x y => regionAt id x ++ regionAt id y
  | .block _ x => regionAt id x
  | .loop x => regionAt id x
  | .cond _ x y => regionAt id x ++ regionAt id y
  | _ => #[]
theorem xq1 (s off : Int) (r : Option Nat) (hs : 0 ≤ s ∧ s ≤ 1000000) (ho : 0 ≤ off ∧ off ≤ 100) (hr : RuleAt W Fc Lf o off r) : CT (.fol (ph W Fc Lf o N v) pr) 70 [.agg #[int s, ruleV r]] hp 60 (int (billN off r s)) := by
  refine xq0 F.dS rfl ⟨W, [], fun _ => False⟩ t8 fun n cf cs hk => ?_; refine P3 (H4 ?_); refine tr_box rfl rfl (fun h => by cases h) rfl fun g hg hn => ?_; refine lR rfl rfl (fun h => by cases h) rfl ?_; refine U6 (P3 (H4 ?_)); refine bJ ⟨g, 1, none⟩ rfl rfl (fun h => by cases h) rfl T.aT (fun _ _ _ => p9) rfl ?_; refine D9 (v := ruleV r) rfl rfl (fun h => by cases h) T.xD rfl (aR (vs := #[int s, ruleV r]) (List.mem_cons_self ..) rfl) ?_; refine bJ ⟨g, 0, none⟩ rfl rfl (fun h => by cases h) rfl T.aU (fun _ _ _ => p9) rfl ?_; refine D9 (v := int s) rfl rfl (fun h => by cases h) T.b9 rfl (aR (vs := #[int s, ruleV r]) (List.mem_cons_self ..) rfl) ?_; obtain ⟨f, cap, e, hcb, hct⟩ := ct_rule (W := W) (Fc := Fc) (Lf := Lf) (o := o) (N := N) (v := v) (pr := pr) (hp := (g, Obj.cells (Value.agg #[int s, ruleV r]).cells 141 (0, 0)) :: hp) s off r hs ho hr; refine wV (m := 40) rfl rfl (fun h => by cases h) hcb (by show some (ruleV r) = _; rw [e]) rfl hct ?_; refine lR rfl rfl (fun h => by cases h) rfl ?_; refine U6 ?_; refine rq0 rfl F.dS rfl rfl (fun _ h => List.mem_cons_of_mem _ h) ?_; exact TX.more _ hk (by omega)
section
variable {n : Nat} {cf : Frame} {cs : List Frame} {k : List Item} {s off : Int} {r : Option Nat} {g : Nat}
end 
set_option maxRecDepth 20000
def numN (how : Nat) (off : Int) (r : Option Nat) (s : Int) : Int := if how = 70 then billN off r s else s - billN off r s
variable {W : World} {Fc Lf o N : Nat} {v : Nat → Value} {pr : Pr} {hp : Hq}
theorem pq2 {how : Nat} (s off : Int) (r : Option Nat) (hs : 0 ≤ s ∧ s ≤ 1000000) (ho : 0 ≤ off ∧ off ≤ 100) (hr : RuleAt W Fc Lf o off r) (hw : how = 70 ∨ how = 70) : CT (.fol (ph W Fc Lf o N v) pr) how [.agg #[int s, ruleV r]] hp 100 (int (numN how off r s)) := by
  rcases hw with rfl | rfl
  · exact (xq1 s off r hs ho hr).more (by omega)
  exact (xq1 s off r hs ho hr).more (by omega)
theorem nz2 {how : Nat} (hw : how = 70 ∨ how = 70) : Callable Tryz.prog how := by
  rcases hw with rfl | rfl
  · exact F.cQ
  exact F.cQ
structure Base (W : World) (Fc Lf o how b3 b6 b7 : Nat) : Prop where
  h3 : W.heap[b3]? = some (.cells #[.func (.func how) #[] #[]] 138 (0, 0))
  n3 : b3 ≠ Fc ∧ b3 ≠ Lf ∧ b3 ≠ o
  h6 : W.heap[b6]? = some (.cells #[.chan (some Fc)] 149 (0, 0))
  n6 : b6 ≠ Fc ∧ b6 ≠ Lf ∧ b6 ≠ o
  h7 : W.heap[b7]? = some (.cells #[.chan (some Lf)] 150 (0, 0))
  n7 : b7 ≠ Fc ∧ b7 ≠ Lf ∧ b7 ≠ o
section
variable {n how b3 b6 b7 g8 g9 j : Nat} {cs : List Frame} {k : List Item} {s off : Int} {r : Option Nat}
noncomputable def o118 : Array Oper := regionAt 0 (Tryz.f81.body.getD .skip)
theorem sq7 (hs : 0 ≤ s ∧ s ≤ 1000000) (ho : 0 ≤ off ∧ off ≤ 100) (hr : RuleAt W Fc Lf o off r) (hw : how = 70 ∨ how = 70) (hB : Base W Fc Lf o how b3 b6 b7) (hend : TC (.fol (ph W Fc Lf o N v) (.send1 j)) ⟨Tryz.prog, Tryz.f81.ntmps, ⟨W, [], fun _ => False⟩, [], none⟩ (baseD 81) cs (n + 20) (.inRegion o118 [6] :: k) [(10, .agg #[int j, int (numN how off r s)]), (9, int (numN how off r s)), (8, .agg #[int s, ruleV r]), (7, .func (.func how) #[] #[]), (6, int j), (5, .chan (some Fc)), (0, .pointer (d6 b6)), (1, .pointer (d6 g8)), (2, .pointer (d6 b3)), (3, .pointer (d6 g9)), (4, .pointer (d6 b7))] [(g9, Obj.cells #[int s, ruleV r] 141 (0, 0)), (g8, Obj.cells #[int j] 3 (0, 0))]) : TA (.fol (ph W Fc Lf o N v) (.send1 j)) ⟨Tryz.prog, Tryz.f81.ntmps, ⟨W, [], fun _ => False⟩, [], none⟩ (baseD 81) cs k o118 (n + 20) 1 #[true, true, true, true, true, true, false] [(10, .agg #[int j, int (numN how off r s)]), (9, int (numN how off r s)), (8, .agg #[int s, ruleV r]), (7, .func (.func how) #[] #[]), (6, int j), (5, .chan (some Fc)), (0, .pointer (d6 b6)), (1, .pointer (d6 g8)), (2, .pointer (d6 b3)), (3, .pointer (d6 g9)), (4, .pointer (d6 b7))] [(g9, Obj.cells #[int s, ruleV r] 141 (0, 0)), (g8, Obj.cells #[int j] 3 (0, 0))] := by
  refine O3 (l := [6]) p9 (by simp) fun j hj rest hr => ?_; obtain ⟨t, rfl⟩ := hr; simp only [List.mem_cons, List.not_mem_nil, or_false] at hj; subst hj; exact hend
theorem nx3 (hs : 0 ≤ s ∧ s ≤ 1000000) (ho : 0 ≤ off ∧ off ≤ 100) (hr : RuleAt W Fc Lf o off r) (hw : how = 70 ∨ how = 70) (hB : Base W Fc Lf o how b3 b6 b7) (hend : TC (.fol (ph W Fc Lf o N v) (.send1 j)) ⟨Tryz.prog, Tryz.f81.ntmps, ⟨W, [], fun _ => False⟩, [], none⟩ (baseD 81) cs (n + 20) (.inRegion o118 [6] :: k) [(10, .agg #[int j, int (numN how off r s)]), (9, int (numN how off r s)), (8, .agg #[int s, ruleV r]), (7, .func (.func how) #[] #[]), (6, int j), (5, .chan (some Fc)), (0, .pointer (d6 b6)), (1, .pointer (d6 g8)), (2, .pointer (d6 b3)), (3, .pointer (d6 g9)), (4, .pointer (d6 b7))] [(g9, Obj.cells #[int s, ruleV r] 141 (0, 0)), (g8, Obj.cells #[int j] 3 (0, 0))]) : TA (.fol (ph W Fc Lf o N v) (.send1 j)) ⟨Tryz.prog, Tryz.f81.ntmps, ⟨W, [], fun _ => False⟩, [], none⟩ (baseD 81) cs k o118 (n + 21) 2 #[true, true, true, true, true, false, false] [(9, int (numN how off r s)), (8, .agg #[int s, ruleV r]), (7, .func (.func how) #[] #[]), (6, int j), (5, .chan (some Fc)), (0, .pointer (d6 b6)), (1, .pointer (d6 g8)), (2, .pointer (d6 b3)), (3, .pointer (d6 g9)), (4, .pointer (d6 b7))] [(g9, Obj.cells #[int s, ruleV r] 141 (0, 0)), (g8, Obj.cells #[int j] 3 (0, 0))] := by
  refine O3 (l := [5]) p9 (by simp) fun j hj rest hr => ?_; obtain ⟨t, rfl⟩ := hr; simp only [List.mem_cons, List.not_mem_nil, or_false] at hj; subst hj; refine pz1 [(0, int j), (1, int (numN how off r s))] rfl rfl (fun h => by cases h) rfl (T.dQ j (numN how off r s)) (fun _ _ => p9) ?_; exact D8 mC (sq7 hs ho hr hw hB hend t)
theorem s118_62 (hs : 0 ≤ s ∧ s ≤ 1000000) (ho : 0 ≤ off ∧ off ≤ 100) (hr : RuleAt W Fc Lf o off r) (hw : how = 70 ∨ how = 70) (hB : Base W Fc Lf o how b3 b6 b7) (hend : TC (.fol (ph W Fc Lf o N v) (.send1 j)) ⟨Tryz.prog, Tryz.f81.ntmps, ⟨W, [], fun _ => False⟩, [], none⟩ (baseD 81) cs (n + 20) (.inRegion o118 [6] :: k) [(10, .agg #[int j, int (numN how off r s)]), (9, int (numN how off r s)), (8, .agg #[int s, ruleV r]), (7, .func (.func how) #[] #[]), (6, int j), (5, .chan (some Fc)), (0, .pointer (d6 b6)), (1, .pointer (d6 g8)), (2, .pointer (d6 b3)), (3, .pointer (d6 g9)), (4, .pointer (d6 b7))] [(g9, Obj.cells #[int s, ruleV r] 141 (0, 0)), (g8, Obj.cells #[int j] 3 (0, 0))]) : TA (.fol (ph W Fc Lf o N v) (.send1 j)) ⟨Tryz.prog, Tryz.f81.ntmps, ⟨W, [], fun _ => False⟩, [], none⟩ (baseD 81) cs k o118 (n + 21) 2 #[false, true, true, true, true, true, false] [(10, .agg #[int j, int (numN how off r s)]), (9, int (numN how off r s)), (8, .agg #[int s, ruleV r]), (7, .func (.func how) #[] #[]), (6, int j), (0, .pointer (d6 b6)), (1, .pointer (d6 g8)), (2, .pointer (d6 b3)), (3, .pointer (d6 g9)), (4, .pointer (d6 b7))] [(g9, Obj.cells #[int s, ruleV r] 141 (0, 0)), (g8, Obj.cells #[int j] 3 (0, 0))] := by
  refine O3 (l := [0]) p9 (by simp) fun j hj rest hr => ?_; obtain ⟨t, rfl⟩ := hr; simp only [List.mem_cons, List.not_mem_nil, or_false] at hj; subst hj; refine D9 (v := .chan (some Fc)) rfl rfl (fun h => by cases h) T.w7 rfl (I3 hB.h6 hB.n6.1 hB.n6.2.1 hB.n6.2.2 rfl) ?_; exact D8 mC (sq7 hs ho hr hw hB hend t)
theorem jz9 (hs : 0 ≤ s ∧ s ≤ 1000000) (ho : 0 ≤ off ∧ off ≤ 100) (hr : RuleAt W Fc Lf o off r) (hw : how = 70 ∨ how = 70) (hB : Base W Fc Lf o how b3 b6 b7) (hend : TC (.fol (ph W Fc Lf o N v) (.send1 j)) ⟨Tryz.prog, Tryz.f81.ntmps, ⟨W, [], fun _ => False⟩, [], none⟩ (baseD 81) cs (n + 20) (.inRegion o118 [6] :: k) [(10, .agg #[int j, int (numN how off r s)]), (9, int (numN how off r s)), (8, .agg #[int s, ruleV r]), (7, .func (.func how) #[] #[]), (6, int j), (5, .chan (some Fc)), (0, .pointer (d6 b6)), (1, .pointer (d6 g8)), (2, .pointer (d6 b3)), (3, .pointer (d6 g9)), (4, .pointer (d6 b7))] [(g9, Obj.cells #[int s, ruleV r] 141 (0, 0)), (g8, Obj.cells #[int j] 3 (0, 0))]) : TA (.fol (ph W Fc Lf o N v) (.send1 j)) ⟨Tryz.prog, Tryz.f81.ntmps, ⟨W, [], fun _ => False⟩, [], none⟩ (baseD 81) cs k o118 (n + 122) 3 #[true, true, true, true, false, false, false] [(8, .agg #[int s, ruleV r]), (7, .func (.func how) #[] #[]), (6, int j), (5, .chan (some Fc)), (0, .pointer (d6 b6)), (1, .pointer (d6 g8)), (2, .pointer (d6 b3)), (3, .pointer (d6 g9)), (4, .pointer (d6 b7))] [(g9, Obj.cells #[int s, ruleV r] 141 (0, 0)), (g8, Obj.cells #[int j] 3 (0, 0))] := by
  refine O3 (l := [4]) p9 (by simp) fun j hj rest hr => ?_; obtain ⟨t, rfl⟩ := hr; simp only [List.mem_cons, List.not_mem_nil, or_false] at hj; subst hj; refine wV (m := 100) (f := how) (cap := []) (vs := [.agg #[int s, ruleV r]]) rfl rfl (fun h => by cases h) (nz2 hw) rfl rfl (pq2 s off r hs ho hr hw) ?_; exact D8 mC (nx3 hs ho hr hw hB hend t)
theorem sq9 (hs : 0 ≤ s ∧ s ≤ 1000000) (ho : 0 ≤ off ∧ off ≤ 100) (hr : RuleAt W Fc Lf o off r) (hw : how = 70 ∨ how = 70) (hB : Base W Fc Lf o how b3 b6 b7) (hend : TC (.fol (ph W Fc Lf o N v) (.send1 j)) ⟨Tryz.prog, Tryz.f81.ntmps, ⟨W, [], fun _ => False⟩, [], none⟩ (baseD 81) cs (n + 20) (.inRegion o118 [6] :: k) [(10, .agg #[int j, int (numN how off r s)]), (9, int (numN how off r s)), (8, .agg #[int s, ruleV r]), (7, .func (.func how) #[] #[]), (6, int j), (5, .chan (some Fc)), (0, .pointer (d6 b6)), (1, .pointer (d6 g8)), (2, .pointer (d6 b3)), (3, .pointer (d6 g9)), (4, .pointer (d6 b7))] [(g9, Obj.cells #[int s, ruleV r] 141 (0, 0)), (g8, Obj.cells #[int j] 3 (0, 0))]) : TA (.fol (ph W Fc Lf o N v) (.send1 j)) ⟨Tryz.prog, Tryz.f81.ntmps, ⟨W, [], fun _ => False⟩, [], none⟩ (baseD 81) cs k o118 (n + 22) 3 #[true, false, true, true, true, false, false] [(9, int (numN how off r s)), (8, .agg #[int s, ruleV r]), (7, .func (.func how) #[] #[]), (5, .chan (some Fc)), (0, .pointer (d6 b6)), (1, .pointer (d6 g8)), (2, .pointer (d6 b3)), (3, .pointer (d6 g9)), (4, .pointer (d6 b7))] [(g9, Obj.cells #[int s, ruleV r] 141 (0, 0)), (g8, Obj.cells #[int j] 3 (0, 0))] := by
  refine O3 (l := [1]) p9 (by simp) fun j hj rest hr => ?_; obtain ⟨t, rfl⟩ := hr; simp only [List.mem_cons, List.not_mem_nil, or_false] at hj; subst hj; refine D9 (v := int j) rfl rfl (fun h => by cases h) T.b9 rfl (aR (vs := #[int j]) (List.mem_cons_of_mem _ (List.mem_cons_self ..)) rfl) ?_; exact D8 mC (nx3 hs ho hr hw hB hend t)
theorem sq8 (hs : 0 ≤ s ∧ s ≤ 1000000) (ho : 0 ≤ off ∧ off ≤ 100) (hr : RuleAt W Fc Lf o off r) (hw : how = 70 ∨ how = 70) (hB : Base W Fc Lf o how b3 b6 b7) (hend : TC (.fol (ph W Fc Lf o N v) (.send1 j)) ⟨Tryz.prog, Tryz.f81.ntmps, ⟨W, [], fun _ => False⟩, [], none⟩ (baseD 81) cs (n + 20) (.inRegion o118 [6] :: k) [(10, .agg #[int j, int (numN how off r s)]), (9, int (numN how off r s)), (8, .agg #[int s, ruleV r]), (7, .func (.func how) #[] #[]), (6, int j), (5, .chan (some Fc)), (0, .pointer (d6 b6)), (1, .pointer (d6 g8)), (2, .pointer (d6 b3)), (3, .pointer (d6 g9)), (4, .pointer (d6 b7))] [(g9, Obj.cells #[int s, ruleV r] 141 (0, 0)), (g8, Obj.cells #[int j] 3 (0, 0))]) : TA (.fol (ph W Fc Lf o N v) (.send1 j)) ⟨Tryz.prog, Tryz.f81.ntmps, ⟨W, [], fun _ => False⟩, [], none⟩ (baseD 81) cs k o118 (n + 22) 3 #[false, true, true, true, true, false, false] [(9, int (numN how off r s)), (8, .agg #[int s, ruleV r]), (7, .func (.func how) #[] #[]), (6, int j), (0, .pointer (d6 b6)), (1, .pointer (d6 g8)), (2, .pointer (d6 b3)), (3, .pointer (d6 g9)), (4, .pointer (d6 b7))] [(g9, Obj.cells #[int s, ruleV r] 141 (0, 0)), (g8, Obj.cells #[int j] 3 (0, 0))] := by
  refine O3 (l := [0, 5]) p9 (by simp) fun j hj rest hr => ?_; obtain ⟨t, rfl⟩ := hr; simp only [List.mem_cons, List.not_mem_nil, or_false] at hj
  rcases hj with rfl | rfl
  · refine D9 (v := .chan (some Fc)) rfl rfl (fun h => by cases h) T.w7 rfl (I3 hB.h6 hB.n6.1 hB.n6.2.1 hB.n6.2.2 rfl) ?_
    exact D8 mC (nx3 hs ho hr hw hB hend t)
  refine pz1 [(0, int j), (1, int (numN how off r s))] rfl rfl (fun h => by cases h) rfl (T.dQ j (numN how off r s)) (fun _ _ => p9) ?_; exact D8 mC (s118_62 hs ho hr hw hB hend t)
theorem rq5 (hs : 0 ≤ s ∧ s ≤ 1000000) (ho : 0 ≤ off ∧ off ≤ 100) (hr : RuleAt W Fc Lf o off r) (hw : how = 70 ∨ how = 70) (hB : Base W Fc Lf o how b3 b6 b7) (hend : TC (.fol (ph W Fc Lf o N v) (.send1 j)) ⟨Tryz.prog, Tryz.f81.ntmps, ⟨W, [], fun _ => False⟩, [], none⟩ (baseD 81) cs (n + 20) (.inRegion o118 [6] :: k) [(10, .agg #[int j, int (numN how off r s)]), (9, int (numN how off r s)), (8, .agg #[int s, ruleV r]), (7, .func (.func how) #[] #[]), (6, int j), (5, .chan (some Fc)), (0, .pointer (d6 b6)), (1, .pointer (d6 g8)), (2, .pointer (d6 b3)), (3, .pointer (d6 g9)), (4, .pointer (d6 b7))] [(g9, Obj.cells #[int s, ruleV r] 141 (0, 0)), (g8, Obj.cells #[int j] 3 (0, 0))]) : TA (.fol (ph W Fc Lf o N v) (.send1 j)) ⟨Tryz.prog, Tryz.f81.ntmps, ⟨W, [], fun _ => False⟩, [], none⟩ (baseD 81) cs k o118 (n + 123) 4 #[true, true, true, false, false, false, false] [(7, .func (.func how) #[] #[]), (6, int j), (5, .chan (some Fc)), (0, .pointer (d6 b6)), (1, .pointer (d6 g8)), (2, .pointer (d6 b3)), (3, .pointer (d6 g9)), (4, .pointer (d6 b7))] [(g9, Obj.cells #[int s, ruleV r] 141 (0, 0)), (g8, Obj.cells #[int j] 3 (0, 0))] := by
  refine O3 (l := [3]) p9 (by simp) fun j hj rest hr => ?_; obtain ⟨t, rfl⟩ := hr; simp only [List.mem_cons, List.not_mem_nil, or_false] at hj; subst hj; refine dW (vs := [int s, ruleV r]) rfl rfl (fun h => by cases h) T.H7 T.B6 rfl rfl (jY (vs := #[int s, ruleV r]) (List.mem_cons_self ..) fun i u hu => by rw [Nat.zero_add]; simpa using hu) ?_; exact D8 mC (jz9 hs ho hr hw hB hend t)
theorem nx6 (hs : 0 ≤ s ∧ s ≤ 1000000) (ho : 0 ≤ off ∧ off ≤ 100) (hr : RuleAt W Fc Lf o off r) (hw : how = 70 ∨ how = 70) (hB : Base W Fc Lf o how b3 b6 b7) (hend : TC (.fol (ph W Fc Lf o N v) (.send1 j)) ⟨Tryz.prog, Tryz.f81.ntmps, ⟨W, [], fun _ => False⟩, [], none⟩ (baseD 81) cs (n + 20) (.inRegion o118 [6] :: k) [(10, .agg #[int j, int (numN how off r s)]), (9, int (numN how off r s)), (8, .agg #[int s, ruleV r]), (7, .func (.func how) #[] #[]), (6, int j), (5, .chan (some Fc)), (0, .pointer (d6 b6)), (1, .pointer (d6 g8)), (2, .pointer (d6 b3)), (3, .pointer (d6 g9)), (4, .pointer (d6 b7))] [(g9, Obj.cells #[int s, ruleV r] 141 (0, 0)), (g8, Obj.cells #[int j] 3 (0, 0))]) : TA (.fol (ph W Fc Lf o N v) (.send1 j)) ⟨Tryz.prog, Tryz.f81.ntmps, ⟨W, [], fun _ => False⟩, [], none⟩ (baseD 81) cs k o118 (n + 123) 4 #[true, true, false, true, false, false, false] [(8, .agg #[int s, ruleV r]), (6, int j), (5, .chan (some Fc)), (0, .pointer (d6 b6)), (1, .pointer (d6 g8)), (2, .pointer (d6 b3)), (3, .pointer (d6 g9)), (4, .pointer (d6 b7))] [(g9, Obj.cells #[int s, ruleV r] 141 (0, 0)), (g8, Obj.cells #[int j] 3 (0, 0))] := by
  refine O3 (l := [2]) p9 (by simp) fun j hj rest hr => ?_; obtain ⟨t, rfl⟩ := hr; simp only [List.mem_cons, List.not_mem_nil, or_false] at hj; subst hj; refine D9 (v := .func (.func how) #[] #[]) rfl rfl (fun h => by cases h) T.C1 rfl (I3 hB.h3 hB.n3.1 hB.n3.2.1 hB.n3.2.2 rfl) ?_; exact D8 mC (jz9 hs ho hr hw hB hend t)
theorem nx5 (hs : 0 ≤ s ∧ s ≤ 1000000) (ho : 0 ≤ off ∧ off ≤ 100) (hr : RuleAt W Fc Lf o off r) (hw : how = 70 ∨ how = 70) (hB : Base W Fc Lf o how b3 b6 b7) (hend : TC (.fol (ph W Fc Lf o N v) (.send1 j)) ⟨Tryz.prog, Tryz.f81.ntmps, ⟨W, [], fun _ => False⟩, [], none⟩ (baseD 81) cs (n + 20) (.inRegion o118 [6] :: k) [(10, .agg #[int j, int (numN how off r s)]), (9, int (numN how off r s)), (8, .agg #[int s, ruleV r]), (7, .func (.func how) #[] #[]), (6, int j), (5, .chan (some Fc)), (0, .pointer (d6 b6)), (1, .pointer (d6 g8)), (2, .pointer (d6 b3)), (3, .pointer (d6 g9)), (4, .pointer (d6 b7))] [(g9, Obj.cells #[int s, ruleV r] 141 (0, 0)), (g8, Obj.cells #[int j] 3 (0, 0))]) : TA (.fol (ph W Fc Lf o N v) (.send1 j)) ⟨Tryz.prog, Tryz.f81.ntmps, ⟨W, [], fun _ => False⟩, [], none⟩ (baseD 81) cs k o118 (n + 123) 4 #[true, false, true, true, false, false, false] [(8, .agg #[int s, ruleV r]), (7, .func (.func how) #[] #[]), (5, .chan (some Fc)), (0, .pointer (d6 b6)), (1, .pointer (d6 g8)), (2, .pointer (d6 b3)), (3, .pointer (d6 g9)), (4, .pointer (d6 b7))] [(g9, Obj.cells #[int s, ruleV r] 141 (0, 0)), (g8, Obj.cells #[int j] 3 (0, 0))] := by
  refine O3 (l := [1, 4]) p9 (by simp) fun j hj rest hr => ?_; obtain ⟨t, rfl⟩ := hr; simp only [List.mem_cons, List.not_mem_nil, or_false] at hj
  rcases hj with rfl | rfl
  · refine D9 (v := int j) rfl rfl (fun h => by cases h) T.b9 rfl (aR (vs := #[int j]) (List.mem_cons_of_mem _ (List.mem_cons_self ..)) rfl) ?_
    exact D8 mC (jz9 hs ho hr hw hB hend t)
  refine wV (m := 100) (f := how) (cap := []) (vs := [.agg #[int s, ruleV r]]) rfl rfl (fun h => by cases h) (nz2 hw) rfl rfl (pq2 s off r hs ho hr hw) ?_; exact D8 mC (sq9 hs ho hr hw hB hend t)
theorem nx4 (hs : 0 ≤ s ∧ s ≤ 1000000) (ho : 0 ≤ off ∧ off ≤ 100) (hr : RuleAt W Fc Lf o off r) (hw : how = 70 ∨ how = 70) (hB : Base W Fc Lf o how b3 b6 b7) (hend : TC (.fol (ph W Fc Lf o N v) (.send1 j)) ⟨Tryz.prog, Tryz.f81.ntmps, ⟨W, [], fun _ => False⟩, [], none⟩ (baseD 81) cs (n + 20) (.inRegion o118 [6] :: k) [(10, .agg #[int j, int (numN how off r s)]), (9, int (numN how off r s)), (8, .agg #[int s, ruleV r]), (7, .func (.func how) #[] #[]), (6, int j), (5, .chan (some Fc)), (0, .pointer (d6 b6)), (1, .pointer (d6 g8)), (2, .pointer (d6 b3)), (3, .pointer (d6 g9)), (4, .pointer (d6 b7))] [(g9, Obj.cells #[int s, ruleV r] 141 (0, 0)), (g8, Obj.cells #[int j] 3 (0, 0))]) : TA (.fol (ph W Fc Lf o N v) (.send1 j)) ⟨Tryz.prog, Tryz.f81.ntmps, ⟨W, [], fun _ => False⟩, [], none⟩ (baseD 81) cs k o118 (n + 123) 4 #[false, true, true, true, false, false, false] [(8, .agg #[int s, ruleV r]), (7, .func (.func how) #[] #[]), (6, int j), (0, .pointer (d6 b6)), (1, .pointer (d6 g8)), (2, .pointer (d6 b3)), (3, .pointer (d6 g9)), (4, .pointer (d6 b7))] [(g9, Obj.cells #[int s, ruleV r] 141 (0, 0)), (g8, Obj.cells #[int j] 3 (0, 0))] := by
  refine O3 (l := [0, 4]) p9 (by simp) fun j hj rest hr => ?_; obtain ⟨t, rfl⟩ := hr; simp only [List.mem_cons, List.not_mem_nil, or_false] at hj
  rcases hj with rfl | rfl
  · refine D9 (v := .chan (some Fc)) rfl rfl (fun h => by cases h) T.w7 rfl (I3 hB.h6 hB.n6.1 hB.n6.2.1 hB.n6.2.2 rfl) ?_
    exact D8 mC (jz9 hs ho hr hw hB hend t)
  refine wV (m := 100) (f := how) (cap := []) (vs := [.agg #[int s, ruleV r]]) rfl rfl (fun h => by cases h) (nz2 hw) rfl rfl (pq2 s off r hs ho hr hw) ?_; exact D8 mC (sq8 hs ho hr hw hB hend t)
theorem s118_28 (hs : 0 ≤ s ∧ s ≤ 1000000) (ho : 0 ≤ off ∧ off ≤ 100) (hr : RuleAt W Fc Lf o off r) (hw : how = 70 ∨ how = 70) (hB : Base W Fc Lf o how b3 b6 b7) (hend : TC (.fol (ph W Fc Lf o N v) (.send1 j)) ⟨Tryz.prog, Tryz.f81.ntmps, ⟨W, [], fun _ => False⟩, [], none⟩ (baseD 81) cs (n + 20) (.inRegion o118 [6] :: k) [(10, .agg #[int j, int (numN how off r s)]), (9, int (numN how off r s)), (8, .agg #[int s, ruleV r]), (7, .func (.func how) #[] #[]), (6, int j), (5, .chan (some Fc)), (0, .pointer (d6 b6)), (1, .pointer (d6 g8)), (2, .pointer (d6 b3)), (3, .pointer (d6 g9)), (4, .pointer (d6 b7))] [(g9, Obj.cells #[int s, ruleV r] 141 (0, 0)), (g8, Obj.cells #[int j] 3 (0, 0))]) : TA (.fol (ph W Fc Lf o N v) (.send1 j)) ⟨Tryz.prog, Tryz.f81.ntmps, ⟨W, [], fun _ => False⟩, [], none⟩ (baseD 81) cs k o118 (n + 23) 4 #[false, false, true, true, true, false, false] [(9, int (numN how off r s)), (8, .agg #[int s, ruleV r]), (7, .func (.func how) #[] #[]), (0, .pointer (d6 b6)), (1, .pointer (d6 g8)), (2, .pointer (d6 b3)), (3, .pointer (d6 g9)), (4, .pointer (d6 b7))] [(g9, Obj.cells #[int s, ruleV r] 141 (0, 0)), (g8, Obj.cells #[int j] 3 (0, 0))] := by
  refine O3 (l := [0, 1]) p9 (by simp) fun j hj rest hr => ?_; obtain ⟨t, rfl⟩ := hr; simp only [List.mem_cons, List.not_mem_nil, or_false] at hj
  rcases hj with rfl | rfl
  · refine D9 (v := .chan (some Fc)) rfl rfl (fun h => by cases h) T.w7 rfl (I3 hB.h6 hB.n6.1 hB.n6.2.1 hB.n6.2.2 rfl) ?_
    exact D8 mC (sq9 hs ho hr hw hB hend t)
  refine D9 (v := int j) rfl rfl (fun h => by cases h) T.b9 rfl (aR (vs := #[int j]) (List.mem_cons_of_mem _ (List.mem_cons_self ..)) rfl) ?_; exact D8 mC (sq8 hs ho hr hw hB hend t)
theorem vx2 (hs : 0 ≤ s ∧ s ≤ 1000000) (ho : 0 ≤ off ∧ off ≤ 100) (hr : RuleAt W Fc Lf o off r) (hw : how = 70 ∨ how = 70) (hB : Base W Fc Lf o how b3 b6 b7) (hend : TC (.fol (ph W Fc Lf o N v) (.send1 j)) ⟨Tryz.prog, Tryz.f81.ntmps, ⟨W, [], fun _ => False⟩, [], none⟩ (baseD 81) cs (n + 20) (.inRegion o118 [6] :: k) [(10, .agg #[int j, int (numN how off r s)]), (9, int (numN how off r s)), (8, .agg #[int s, ruleV r]), (7, .func (.func how) #[] #[]), (6, int j), (5, .chan (some Fc)), (0, .pointer (d6 b6)), (1, .pointer (d6 g8)), (2, .pointer (d6 b3)), (3, .pointer (d6 g9)), (4, .pointer (d6 b7))] [(g9, Obj.cells #[int s, ruleV r] 141 (0, 0)), (g8, Obj.cells #[int j] 3 (0, 0))]) : TA (.fol (ph W Fc Lf o N v) (.send1 j)) ⟨Tryz.prog, Tryz.f81.ntmps, ⟨W, [], fun _ => False⟩, [], none⟩ (baseD 81) cs k o118 (n + 124) 5 #[true, true, false, false, false, false, false] [(6, int j), (5, .chan (some Fc)), (0, .pointer (d6 b6)), (1, .pointer (d6 g8)), (2, .pointer (d6 b3)), (3, .pointer (d6 g9)), (4, .pointer (d6 b7))] [(g9, Obj.cells #[int s, ruleV r] 141 (0, 0)), (g8, Obj.cells #[int j] 3 (0, 0))] := by
  refine O3 (l := [2, 3]) p9 (by simp) fun j hj rest hr => ?_; obtain ⟨t, rfl⟩ := hr; simp only [List.mem_cons, List.not_mem_nil, or_false] at hj
  rcases hj with rfl | rfl
  · refine D9 (v := .func (.func how) #[] #[]) rfl rfl (fun h => by cases h) T.C1 rfl (I3 hB.h3 hB.n3.1 hB.n3.2.1 hB.n3.2.2 rfl) ?_
    exact D8 mC (rq5 hs ho hr hw hB hend t)
  refine dW (vs := [int s, ruleV r]) rfl rfl (fun h => by cases h) T.H7 T.B6 rfl rfl (jY (vs := #[int s, ruleV r]) (List.mem_cons_self ..) fun i u hu => by rw [Nat.zero_add]; simpa using hu) ?_; exact D8 mC (nx6 hs ho hr hw hB hend t)
theorem vx1 (hs : 0 ≤ s ∧ s ≤ 1000000) (ho : 0 ≤ off ∧ off ≤ 100) (hr : RuleAt W Fc Lf o off r) (hw : how = 70 ∨ how = 70) (hB : Base W Fc Lf o how b3 b6 b7) (hend : TC (.fol (ph W Fc Lf o N v) (.send1 j)) ⟨Tryz.prog, Tryz.f81.ntmps, ⟨W, [], fun _ => False⟩, [], none⟩ (baseD 81) cs (n + 20) (.inRegion o118 [6] :: k) [(10, .agg #[int j, int (numN how off r s)]), (9, int (numN how off r s)), (8, .agg #[int s, ruleV r]), (7, .func (.func how) #[] #[]), (6, int j), (5, .chan (some Fc)), (0, .pointer (d6 b6)), (1, .pointer (d6 g8)), (2, .pointer (d6 b3)), (3, .pointer (d6 g9)), (4, .pointer (d6 b7))] [(g9, Obj.cells #[int s, ruleV r] 141 (0, 0)), (g8, Obj.cells #[int j] 3 (0, 0))]) : TA (.fol (ph W Fc Lf o N v) (.send1 j)) ⟨Tryz.prog, Tryz.f81.ntmps, ⟨W, [], fun _ => False⟩, [], none⟩ (baseD 81) cs k o118 (n + 124) 5 #[true, false, true, false, false, false, false] [(7, .func (.func how) #[] #[]), (5, .chan (some Fc)), (0, .pointer (d6 b6)), (1, .pointer (d6 g8)), (2, .pointer (d6 b3)), (3, .pointer (d6 g9)), (4, .pointer (d6 b7))] [(g9, Obj.cells #[int s, ruleV r] 141 (0, 0)), (g8, Obj.cells #[int j] 3 (0, 0))] := by
  refine O3 (l := [1, 3]) p9 (by simp) fun j hj rest hr => ?_; obtain ⟨t, rfl⟩ := hr; simp only [List.mem_cons, List.not_mem_nil, or_false] at hj
  rcases hj with rfl | rfl
  · refine D9 (v := int j) rfl rfl (fun h => by cases h) T.b9 rfl (aR (vs := #[int j]) (List.mem_cons_of_mem _ (List.mem_cons_self ..)) rfl) ?_
    exact D8 mC (rq5 hs ho hr hw hB hend t)
  refine dW (vs := [int s, ruleV r]) rfl rfl (fun h => by cases h) T.H7 T.B6 rfl rfl (jY (vs := #[int s, ruleV r]) (List.mem_cons_self ..) fun i u hu => by rw [Nat.zero_add]; simpa using hu) ?_; exact D8 mC (nx5 hs ho hr hw hB hend t)
theorem vx0 (hs : 0 ≤ s ∧ s ≤ 1000000) (ho : 0 ≤ off ∧ off ≤ 100) (hr : RuleAt W Fc Lf o off r) (hw : how = 70 ∨ how = 70) (hB : Base W Fc Lf o how b3 b6 b7) (hend : TC (.fol (ph W Fc Lf o N v) (.send1 j)) ⟨Tryz.prog, Tryz.f81.ntmps, ⟨W, [], fun _ => False⟩, [], none⟩ (baseD 81) cs (n + 20) (.inRegion o118 [6] :: k) [(10, .agg #[int j, int (numN how off r s)]), (9, int (numN how off r s)), (8, .agg #[int s, ruleV r]), (7, .func (.func how) #[] #[]), (6, int j), (5, .chan (some Fc)), (0, .pointer (d6 b6)), (1, .pointer (d6 g8)), (2, .pointer (d6 b3)), (3, .pointer (d6 g9)), (4, .pointer (d6 b7))] [(g9, Obj.cells #[int s, ruleV r] 141 (0, 0)), (g8, Obj.cells #[int j] 3 (0, 0))]) : TA (.fol (ph W Fc Lf o N v) (.send1 j)) ⟨Tryz.prog, Tryz.f81.ntmps, ⟨W, [], fun _ => False⟩, [], none⟩ (baseD 81) cs k o118 (n + 124) 5 #[false, true, true, false, false, false, false] [(7, .func (.func how) #[] #[]), (6, int j), (0, .pointer (d6 b6)), (1, .pointer (d6 g8)), (2, .pointer (d6 b3)), (3, .pointer (d6 g9)), (4, .pointer (d6 b7))] [(g9, Obj.cells #[int s, ruleV r] 141 (0, 0)), (g8, Obj.cells #[int j] 3 (0, 0))] := by
  refine O3 (l := [0, 3]) p9 (by simp) fun j hj rest hr => ?_; obtain ⟨t, rfl⟩ := hr; simp only [List.mem_cons, List.not_mem_nil, or_false] at hj
  rcases hj with rfl | rfl
  · refine D9 (v := .chan (some Fc)) rfl rfl (fun h => by cases h) T.w7 rfl (I3 hB.h6 hB.n6.1 hB.n6.2.1 hB.n6.2.2 rfl) ?_
    exact D8 mC (rq5 hs ho hr hw hB hend t)
  refine dW (vs := [int s, ruleV r]) rfl rfl (fun h => by cases h) T.H7 T.B6 rfl rfl (jY (vs := #[int s, ruleV r]) (List.mem_cons_self ..) fun i u hu => by rw [Nat.zero_add]; simpa using hu) ?_; exact D8 mC (nx4 hs ho hr hw hB hend t)
theorem vq9 (hs : 0 ≤ s ∧ s ≤ 1000000) (ho : 0 ≤ off ∧ off ≤ 100) (hr : RuleAt W Fc Lf o off r) (hw : how = 70 ∨ how = 70) (hB : Base W Fc Lf o how b3 b6 b7) (hend : TC (.fol (ph W Fc Lf o N v) (.send1 j)) ⟨Tryz.prog, Tryz.f81.ntmps, ⟨W, [], fun _ => False⟩, [], none⟩ (baseD 81) cs (n + 20) (.inRegion o118 [6] :: k) [(10, .agg #[int j, int (numN how off r s)]), (9, int (numN how off r s)), (8, .agg #[int s, ruleV r]), (7, .func (.func how) #[] #[]), (6, int j), (5, .chan (some Fc)), (0, .pointer (d6 b6)), (1, .pointer (d6 g8)), (2, .pointer (d6 b3)), (3, .pointer (d6 g9)), (4, .pointer (d6 b7))] [(g9, Obj.cells #[int s, ruleV r] 141 (0, 0)), (g8, Obj.cells #[int j] 3 (0, 0))]) : TA (.fol (ph W Fc Lf o N v) (.send1 j)) ⟨Tryz.prog, Tryz.f81.ntmps, ⟨W, [], fun _ => False⟩, [], none⟩ (baseD 81) cs k o118 (n + 124) 5 #[true, false, false, true, false, false, false] [(8, .agg #[int s, ruleV r]), (5, .chan (some Fc)), (0, .pointer (d6 b6)), (1, .pointer (d6 g8)), (2, .pointer (d6 b3)), (3, .pointer (d6 g9)), (4, .pointer (d6 b7))] [(g9, Obj.cells #[int s, ruleV r] 141 (0, 0)), (g8, Obj.cells #[int j] 3 (0, 0))] := by
  refine O3 (l := [1, 2]) p9 (by simp) fun j hj rest hr => ?_; obtain ⟨t, rfl⟩ := hr; simp only [List.mem_cons, List.not_mem_nil, or_false] at hj
  rcases hj with rfl | rfl
  · refine D9 (v := int j) rfl rfl (fun h => by cases h) T.b9 rfl (aR (vs := #[int j]) (List.mem_cons_of_mem _ (List.mem_cons_self ..)) rfl) ?_
    exact D8 mC (nx6 hs ho hr hw hB hend t)
  refine D9 (v := .func (.func how) #[] #[]) rfl rfl (fun h => by cases h) T.C1 rfl (I3 hB.h3 hB.n3.1 hB.n3.2.1 hB.n3.2.2 rfl) ?_; exact D8 mC (nx5 hs ho hr hw hB hend t)
theorem sx1 (hs : 0 ≤ s ∧ s ≤ 1000000) (ho : 0 ≤ off ∧ off ≤ 100) (hr : RuleAt W Fc Lf o off r) (hw : how = 70 ∨ how = 70) (hB : Base W Fc Lf o how b3 b6 b7) (hend : TC (.fol (ph W Fc Lf o N v) (.send1 j)) ⟨Tryz.prog, Tryz.f81.ntmps, ⟨W, [], fun _ => False⟩, [], none⟩ (baseD 81) cs (n + 20) (.inRegion o118 [6] :: k) [(10, .agg #[int j, int (numN how off r s)]), (9, int (numN how off r s)), (8, .agg #[int s, ruleV r]), (7, .func (.func how) #[] #[]), (6, int j), (5, .chan (some Fc)), (0, .pointer (d6 b6)), (1, .pointer (d6 g8)), (2, .pointer (d6 b3)), (3, .pointer (d6 g9)), (4, .pointer (d6 b7))] [(g9, Obj.cells #[int s, ruleV r] 141 (0, 0)), (g8, Obj.cells #[int j] 3 (0, 0))]) : TA (.fol (ph W Fc Lf o N v) (.send1 j)) ⟨Tryz.prog, Tryz.f81.ntmps, ⟨W, [], fun _ => False⟩, [], none⟩ (baseD 81) cs k o118 (n + 124) 5 #[false, true, false, true, false, false, false] [(8, .agg #[int s, ruleV r]), (6, int j), (0, .pointer (d6 b6)), (1, .pointer (d6 g8)), (2, .pointer (d6 b3)), (3, .pointer (d6 g9)), (4, .pointer (d6 b7))] [(g9, Obj.cells #[int s, ruleV r] 141 (0, 0)), (g8, Obj.cells #[int j] 3 (0, 0))] := by
  refine O3 (l := [0, 2]) p9 (by simp) fun j hj rest hr => ?_; obtain ⟨t, rfl⟩ := hr; simp only [List.mem_cons, List.not_mem_nil, or_false] at hj
  rcases hj with rfl | rfl
  · refine D9 (v := .chan (some Fc)) rfl rfl (fun h => by cases h) T.w7 rfl (I3 hB.h6 hB.n6.1 hB.n6.2.1 hB.n6.2.2 rfl) ?_
    exact D8 mC (nx6 hs ho hr hw hB hend t)
  refine D9 (v := .func (.func how) #[] #[]) rfl rfl (fun h => by cases h) T.C1 rfl (I3 hB.h3 hB.n3.1 hB.n3.2.1 hB.n3.2.2 rfl) ?_; exact D8 mC (nx4 hs ho hr hw hB hend t)
theorem sx0 (hs : 0 ≤ s ∧ s ≤ 1000000) (ho : 0 ≤ off ∧ off ≤ 100) (hr : RuleAt W Fc Lf o off r) (hw : how = 70 ∨ how = 70) (hB : Base W Fc Lf o how b3 b6 b7) (hend : TC (.fol (ph W Fc Lf o N v) (.send1 j)) ⟨Tryz.prog, Tryz.f81.ntmps, ⟨W, [], fun _ => False⟩, [], none⟩ (baseD 81) cs (n + 20) (.inRegion o118 [6] :: k) [(10, .agg #[int j, int (numN how off r s)]), (9, int (numN how off r s)), (8, .agg #[int s, ruleV r]), (7, .func (.func how) #[] #[]), (6, int j), (5, .chan (some Fc)), (0, .pointer (d6 b6)), (1, .pointer (d6 g8)), (2, .pointer (d6 b3)), (3, .pointer (d6 g9)), (4, .pointer (d6 b7))] [(g9, Obj.cells #[int s, ruleV r] 141 (0, 0)), (g8, Obj.cells #[int j] 3 (0, 0))]) : TA (.fol (ph W Fc Lf o N v) (.send1 j)) ⟨Tryz.prog, Tryz.f81.ntmps, ⟨W, [], fun _ => False⟩, [], none⟩ (baseD 81) cs k o118 (n + 124) 5 #[false, false, true, true, false, false, false] [(8, .agg #[int s, ruleV r]), (7, .func (.func how) #[] #[]), (0, .pointer (d6 b6)), (1, .pointer (d6 g8)), (2, .pointer (d6 b3)), (3, .pointer (d6 g9)), (4, .pointer (d6 b7))] [(g9, Obj.cells #[int s, ruleV r] 141 (0, 0)), (g8, Obj.cells #[int j] 3 (0, 0))] := by
  refine O3 (l := [0, 1, 4]) p9 (by simp) fun j hj rest hr => ?_; obtain ⟨t, rfl⟩ := hr; simp only [List.mem_cons, List.not_mem_nil, or_false] at hj
  rcases hj with rfl | rfl | rfl
  · refine D9 (v := .chan (some Fc)) rfl rfl (fun h => by cases h) T.w7 rfl (I3 hB.h6 hB.n6.1 hB.n6.2.1 hB.n6.2.2 rfl) ?_
    exact D8 mC (nx5 hs ho hr hw hB hend t)
  · refine D9 (v := int j) rfl rfl (fun h => by cases h) T.b9 rfl (aR (vs := #[int j]) (List.mem_cons_of_mem _ (List.mem_cons_self ..)) rfl) ?_
    exact D8 mC (nx4 hs ho hr hw hB hend t)
  refine wV (m := 100) (f := how) (cap := []) (vs := [.agg #[int s, ruleV r]]) rfl rfl (fun h => by cases h) (nz2 hw) rfl rfl (pq2 s off r hs ho hr hw) ?_; exact D8 mC (s118_28 hs ho hr hw hB hend t)
theorem s118_1 (hs : 0 ≤ s ∧ s ≤ 1000000) (ho : 0 ≤ off ∧ off ≤ 100) (hr : RuleAt W Fc Lf o off r) (hw : how = 70 ∨ how = 70) (hB : Base W Fc Lf o how b3 b6 b7) (hend : TC (.fol (ph W Fc Lf o N v) (.send1 j)) ⟨Tryz.prog, Tryz.f81.ntmps, ⟨W, [], fun _ => False⟩, [], none⟩ (baseD 81) cs (n + 20) (.inRegion o118 [6] :: k) [(10, .agg #[int j, int (numN how off r s)]), (9, int (numN how off r s)), (8, .agg #[int s, ruleV r]), (7, .func (.func how) #[] #[]), (6, int j), (5, .chan (some Fc)), (0, .pointer (d6 b6)), (1, .pointer (d6 g8)), (2, .pointer (d6 b3)), (3, .pointer (d6 g9)), (4, .pointer (d6 b7))] [(g9, Obj.cells #[int s, ruleV r] 141 (0, 0)), (g8, Obj.cells #[int j] 3 (0, 0))]) : TA (.fol (ph W Fc Lf o N v) (.send1 j)) ⟨Tryz.prog, Tryz.f81.ntmps, ⟨W, [], fun _ => False⟩, [], none⟩ (baseD 81) cs k o118 (n + 125) 6 #[true, false, false, false, false, false, false] [(5, .chan (some Fc)), (0, .pointer (d6 b6)), (1, .pointer (d6 g8)), (2, .pointer (d6 b3)), (3, .pointer (d6 g9)), (4, .pointer (d6 b7))] [(g9, Obj.cells #[int s, ruleV r] 141 (0, 0)), (g8, Obj.cells #[int j] 3 (0, 0))] := by
  refine O3 (l := [1, 2, 3]) p9 (by simp) fun j hj rest hr => ?_; obtain ⟨t, rfl⟩ := hr; simp only [List.mem_cons, List.not_mem_nil, or_false] at hj
  rcases hj with rfl | rfl | rfl
  · refine D9 (v := int j) rfl rfl (fun h => by cases h) T.b9 rfl (aR (vs := #[int j]) (List.mem_cons_of_mem _ (List.mem_cons_self ..)) rfl) ?_
    exact D8 mC (vx2 hs ho hr hw hB hend t)
  · refine D9 (v := .func (.func how) #[] #[]) rfl rfl (fun h => by cases h) T.C1 rfl (I3 hB.h3 hB.n3.1 hB.n3.2.1 hB.n3.2.2 rfl) ?_
    exact D8 mC (vx1 hs ho hr hw hB hend t)
  refine dW (vs := [int s, ruleV r]) rfl rfl (fun h => by cases h) T.H7 T.B6 rfl rfl (jY (vs := #[int s, ruleV r]) (List.mem_cons_self ..) fun i u hu => by rw [Nat.zero_add]; simpa using hu) ?_; exact D8 mC (vq9 hs ho hr hw hB hend t)
theorem s118_2 (hs : 0 ≤ s ∧ s ≤ 1000000) (ho : 0 ≤ off ∧ off ≤ 100) (hr : RuleAt W Fc Lf o off r) (hw : how = 70 ∨ how = 70) (hB : Base W Fc Lf o how b3 b6 b7) (hend : TC (.fol (ph W Fc Lf o N v) (.send1 j)) ⟨Tryz.prog, Tryz.f81.ntmps, ⟨W, [], fun _ => False⟩, [], none⟩ (baseD 81) cs (n + 20) (.inRegion o118 [6] :: k) [(10, .agg #[int j, int (numN how off r s)]), (9, int (numN how off r s)), (8, .agg #[int s, ruleV r]), (7, .func (.func how) #[] #[]), (6, int j), (5, .chan (some Fc)), (0, .pointer (d6 b6)), (1, .pointer (d6 g8)), (2, .pointer (d6 b3)), (3, .pointer (d6 g9)), (4, .pointer (d6 b7))] [(g9, Obj.cells #[int s, ruleV r] 141 (0, 0)), (g8, Obj.cells #[int j] 3 (0, 0))]) : TA (.fol (ph W Fc Lf o N v) (.send1 j)) ⟨Tryz.prog, Tryz.f81.ntmps, ⟨W, [], fun _ => False⟩, [], none⟩ (baseD 81) cs k o118 (n + 125) 6 #[false, true, false, false, false, false, false] [(6, int j), (0, .pointer (d6 b6)), (1, .pointer (d6 g8)), (2, .pointer (d6 b3)), (3, .pointer (d6 g9)), (4, .pointer (d6 b7))] [(g9, Obj.cells #[int s, ruleV r] 141 (0, 0)), (g8, Obj.cells #[int j] 3 (0, 0))] := by
  refine O3 (l := [0, 2, 3]) p9 (by simp) fun j hj rest hr => ?_; obtain ⟨t, rfl⟩ := hr; simp only [List.mem_cons, List.not_mem_nil, or_false] at hj
  rcases hj with rfl | rfl | rfl
  · refine D9 (v := .chan (some Fc)) rfl rfl (fun h => by cases h) T.w7 rfl (I3 hB.h6 hB.n6.1 hB.n6.2.1 hB.n6.2.2 rfl) ?_
    exact D8 mC (vx2 hs ho hr hw hB hend t)
  · refine D9 (v := .func (.func how) #[] #[]) rfl rfl (fun h => by cases h) T.C1 rfl (I3 hB.h3 hB.n3.1 hB.n3.2.1 hB.n3.2.2 rfl) ?_
    exact D8 mC (vx0 hs ho hr hw hB hend t)
  refine dW (vs := [int s, ruleV r]) rfl rfl (fun h => by cases h) T.H7 T.B6 rfl rfl (jY (vs := #[int s, ruleV r]) (List.mem_cons_self ..) fun i u hu => by rw [Nat.zero_add]; simpa using hu) ?_; exact D8 mC (sx1 hs ho hr hw hB hend t)
theorem s118_4 (hs : 0 ≤ s ∧ s ≤ 1000000) (ho : 0 ≤ off ∧ off ≤ 100) (hr : RuleAt W Fc Lf o off r) (hw : how = 70 ∨ how = 70) (hB : Base W Fc Lf o how b3 b6 b7) (hend : TC (.fol (ph W Fc Lf o N v) (.send1 j)) ⟨Tryz.prog, Tryz.f81.ntmps, ⟨W, [], fun _ => False⟩, [], none⟩ (baseD 81) cs (n + 20) (.inRegion o118 [6] :: k) [(10, .agg #[int j, int (numN how off r s)]), (9, int (numN how off r s)), (8, .agg #[int s, ruleV r]), (7, .func (.func how) #[] #[]), (6, int j), (5, .chan (some Fc)), (0, .pointer (d6 b6)), (1, .pointer (d6 g8)), (2, .pointer (d6 b3)), (3, .pointer (d6 g9)), (4, .pointer (d6 b7))] [(g9, Obj.cells #[int s, ruleV r] 141 (0, 0)), (g8, Obj.cells #[int j] 3 (0, 0))]) : TA (.fol (ph W Fc Lf o N v) (.send1 j)) ⟨Tryz.prog, Tryz.f81.ntmps, ⟨W, [], fun _ => False⟩, [], none⟩ (baseD 81) cs k o118 (n + 125) 6 #[false, false, true, false, false, false, false] [(7, .func (.func how) #[] #[]), (0, .pointer (d6 b6)), (1, .pointer (d6 g8)), (2, .pointer (d6 b3)), (3, .pointer (d6 g9)), (4, .pointer (d6 b7))] [(g9, Obj.cells #[int s, ruleV r] 141 (0, 0)), (g8, Obj.cells #[int j] 3 (0, 0))] := by
  refine O3 (l := [0, 1, 3]) p9 (by simp) fun j hj rest hr => ?_; obtain ⟨t, rfl⟩ := hr; simp only [List.mem_cons, List.not_mem_nil, or_false] at hj
  rcases hj with rfl | rfl | rfl
  · refine D9 (v := .chan (some Fc)) rfl rfl (fun h => by cases h) T.w7 rfl (I3 hB.h6 hB.n6.1 hB.n6.2.1 hB.n6.2.2 rfl) ?_
    exact D8 mC (vx1 hs ho hr hw hB hend t)
  · refine D9 (v := int j) rfl rfl (fun h => by cases h) T.b9 rfl (aR (vs := #[int j]) (List.mem_cons_of_mem _ (List.mem_cons_self ..)) rfl) ?_
    exact D8 mC (vx0 hs ho hr hw hB hend t)
  refine dW (vs := [int s, ruleV r]) rfl rfl (fun h => by cases h) T.H7 T.B6 rfl rfl (jY (vs := #[int s, ruleV r]) (List.mem_cons_self ..) fun i u hu => by rw [Nat.zero_add]; simpa using hu) ?_; exact D8 mC (sx0 hs ho hr hw hB hend t)
theorem s118_8 (hs : 0 ≤ s ∧ s ≤ 1000000) (ho : 0 ≤ off ∧ off ≤ 100) (hr : RuleAt W Fc Lf o off r) (hw : how = 70 ∨ how = 70) (hB : Base W Fc Lf o how b3 b6 b7) (hend : TC (.fol (ph W Fc Lf o N v) (.send1 j)) ⟨Tryz.prog, Tryz.f81.ntmps, ⟨W, [], fun _ => False⟩, [], none⟩ (baseD 81) cs (n + 20) (.inRegion o118 [6] :: k) [(10, .agg #[int j, int (numN how off r s)]), (9, int (numN how off r s)), (8, .agg #[int s, ruleV r]), (7, .func (.func how) #[] #[]), (6, int j), (5, .chan (some Fc)), (0, .pointer (d6 b6)), (1, .pointer (d6 g8)), (2, .pointer (d6 b3)), (3, .pointer (d6 g9)), (4, .pointer (d6 b7))] [(g9, Obj.cells #[int s, ruleV r] 141 (0, 0)), (g8, Obj.cells #[int j] 3 (0, 0))]) : TA (.fol (ph W Fc Lf o N v) (.send1 j)) ⟨Tryz.prog, Tryz.f81.ntmps, ⟨W, [], fun _ => False⟩, [], none⟩ (baseD 81) cs k o118 (n + 125) 6 #[false, false, false, true, false, false, false] [(8, .agg #[int s, ruleV r]), (0, .pointer (d6 b6)), (1, .pointer (d6 g8)), (2, .pointer (d6 b3)), (3, .pointer (d6 g9)), (4, .pointer (d6 b7))] [(g9, Obj.cells #[int s, ruleV r] 141 (0, 0)), (g8, Obj.cells #[int j] 3 (0, 0))] := by
  refine O3 (l := [0, 1, 2]) p9 (by simp) fun j hj rest hr => ?_; obtain ⟨t, rfl⟩ := hr; simp only [List.mem_cons, List.not_mem_nil, or_false] at hj
  rcases hj with rfl | rfl | rfl
  · refine D9 (v := .chan (some Fc)) rfl rfl (fun h => by cases h) T.w7 rfl (I3 hB.h6 hB.n6.1 hB.n6.2.1 hB.n6.2.2 rfl) ?_
    exact D8 mC (vq9 hs ho hr hw hB hend t)
  · refine D9 (v := int j) rfl rfl (fun h => by cases h) T.b9 rfl (aR (vs := #[int j]) (List.mem_cons_of_mem _ (List.mem_cons_self ..)) rfl) ?_
    exact D8 mC (sx1 hs ho hr hw hB hend t)
  refine D9 (v := .func (.func how) #[] #[]) rfl rfl (fun h => by cases h) T.C1 rfl (I3 hB.h3 hB.n3.1 hB.n3.2.1 hB.n3.2.2 rfl) ?_; exact D8 mC (sx0 hs ho hr hw hB hend t)
theorem s118_0 (hs : 0 ≤ s ∧ s ≤ 1000000) (ho : 0 ≤ off ∧ off ≤ 100) (hr : RuleAt W Fc Lf o off r) (hw : how = 70 ∨ how = 70) (hB : Base W Fc Lf o how b3 b6 b7) (hend : TC (.fol (ph W Fc Lf o N v) (.send1 j)) ⟨Tryz.prog, Tryz.f81.ntmps, ⟨W, [], fun _ => False⟩, [], none⟩ (baseD 81) cs (n + 20) (.inRegion o118 [6] :: k) [(10, .agg #[int j, int (numN how off r s)]), (9, int (numN how off r s)), (8, .agg #[int s, ruleV r]), (7, .func (.func how) #[] #[]), (6, int j), (5, .chan (some Fc)), (0, .pointer (d6 b6)), (1, .pointer (d6 g8)), (2, .pointer (d6 b3)), (3, .pointer (d6 g9)), (4, .pointer (d6 b7))] [(g9, Obj.cells #[int s, ruleV r] 141 (0, 0)), (g8, Obj.cells #[int j] 3 (0, 0))]) : TA (.fol (ph W Fc Lf o N v) (.send1 j)) ⟨Tryz.prog, Tryz.f81.ntmps, ⟨W, [], fun _ => False⟩, [], none⟩ (baseD 81) cs k o118 (n + 126) 7 #[false, false, false, false, false, false, false] [(0, .pointer (d6 b6)), (1, .pointer (d6 g8)), (2, .pointer (d6 b3)), (3, .pointer (d6 g9)), (4, .pointer (d6 b7))] [(g9, Obj.cells #[int s, ruleV r] 141 (0, 0)), (g8, Obj.cells #[int j] 3 (0, 0))] := by
  refine O3 (l := [0, 1, 2, 3]) p9 (by simp) fun j hj rest hr => ?_; obtain ⟨t, rfl⟩ := hr; simp only [List.mem_cons, List.not_mem_nil, or_false] at hj
  rcases hj with rfl | rfl | rfl | rfl
  · refine D9 (v := .chan (some Fc)) rfl rfl (fun h => by cases h) T.w7 rfl (I3 hB.h6 hB.n6.1 hB.n6.2.1 hB.n6.2.2 rfl) ?_
    exact D8 mC (s118_1 hs ho hr hw hB hend t)
  · refine D9 (v := int j) rfl rfl (fun h => by cases h) T.b9 rfl (aR (vs := #[int j]) (List.mem_cons_of_mem _ (List.mem_cons_self ..)) rfl) ?_
    exact D8 mC (s118_2 hs ho hr hw hB hend t)
  · refine D9 (v := .func (.func how) #[] #[]) rfl rfl (fun h => by cases h) T.C1 rfl (I3 hB.h3 hB.n3.1 hB.n3.2.1 hB.n3.2.2 rfl) ?_
    exact D8 mC (s118_4 hs ho hr hw hB hend t)
  refine dW (vs := [int s, ruleV r]) rfl rfl (fun h => by cases h) T.H7 T.B6 rfl rfl (jY (vs := #[int s, ruleV r]) (List.mem_cons_self ..) fun i u hu => by rw [Nat.zero_add]; simpa using hu) ?_; exact D8 mC (s118_8 hs ho hr hw hB hend t)
end
theorem fol_w {how b3 b6 b7 g8 g9 j : Nat} {s off : Int} {r : Option Nat} (hs : 0 ≤ s ∧ s ≤ 1000000) (ho : 0 ≤ off ∧ off ≤ 100) (hr : RuleAt W Fc Lf o off r) (hw : how = 70 ∨ how = 70) (hB : Base W Fc Lf o how b3 b6 b7) (hv : v j = .agg #[int j, int (numN how off r s)]) :
    Fol (ph W Fc Lf o N v) 300 (.send1 j) (born Tryz.prog ⟨.fn (.func 81) [Value.pointer (d6 b6), .pointer (d6 g8), .pointer (d6 b3), .pointer (d6 g9), .pointer (d6 b7)].toArray, #[]⟩).frame [] [(g9, Obj.cells #[int s, ruleV r] 141 (0, 0)), (g8, Obj.cells #[int j] 3 (0, 0))] := by
  refine qx4 (m := 299) (p := ph W Fc Lf o N v) F.nX rfl rfl ⟨W, [], fun _ => False⟩ t8 (P3 (gJ (m := 150 + 20 + 106 + 1) (by omega) (rq1 mixed ?_))); refine (fun t => s118_0 hs ho hr hw hB ?_ t); refine xx0 (j := j) rfl (fun h => by cases h) rfl (by show _ = some (v j); rw [hv]; rfl) ?_; refine U6 (H4 ?_); refine D9 (v := .chan (some Lf)) rfl rfl (fun h => by cases h) T.pR rfl (I3 hB.h7 hB.n7.1 hB.n7.2.1 hB.n7.2.2 rfl) ?_; refine xq9 rfl (fun h => by cases h) rfl rfl fun a ha => ?_; refine QuitsD.ctl rfl (fun w => stepG_region_end) ?_; refine QuitsD.ctl rfl (fun w => stepG_end) ?_; exact ix4 (kx5 F.nX rfl ha.d) (by omega)
set_option maxRecDepth 20000
def blockAt (id : Nat) : Code → Code
  | .block i x => if i = id then x else blockAt id x
  | .seq x y => match blockAt id x with
    | .skip => blockAt id y
    | c => c
  | .loop x => blockAt id x
  | .cond _ x y => match blockAt id x with
    | .skip => blockAt id y
    | c => c
  | _ => .skip
def unLoop : Code → Code
  | .loop x => x
  | _ => .skip
variable {W : World} {Fc Lf o N : Nat} {v : Nat → Value} {hp : Hq}
noncomputable def body119 : Code := unLoop (blockAt 0 (Tryz.f82.body.getD .skip))
theorem loop119 {b3 b5 b6 b7 how : Nat} {c : Cx} {cs : List Frame} {k : List Item} (hP : c.P = Tryz.prog) (hn : c.n = 11) (hN : N ≤ 1000) (hB : Base W Fc Lf o how b3 b6 b7)
    (hend : TC (.fol (ph W Fc Lf o N v) .close) c (baseD 82) cs 20 k [(4, int N), (0, .pointer (d6 b5)), (1, .pointer (d6 b7)), (2, .pointer (d6 b6))] hp) :
    ∀ (m i : Nat), i + m = N → TC (.fol (ph W Fc Lf o N v) (nxt m)) c (baseD 82) cs (30 * m + 30) (.code body119 :: .inLoop body119 :: .inBlock 0 :: k) [(5, int i), (4, int N), (0, .pointer (d6 b5)), (1, .pointer (d6 b7)), (2, .pointer (d6 b6))] hp := by
  obtain ⟨P, cn, cb, D, rd⟩ := c; simp only at hP hn; subst hP hn; intro m
  induction m with
  | zero =>
    intro i hi; refine P3 (H4 ?_); refine nj9 rfl rfl (fun h => by cases h) rfl rfl ?_; refine U6 (P3 ?_); refine cq6 false (by show some (Value.bool (decide ((i : Int) < (N : Int)))) = _; rw [decide_eq_false (by omega)]) ?_; refine sq5 k rfl ?_; exact gJ (m := 20) (by omega) (D8 mC hend)
  | succ m ih =>
    intro i hi; rw [show 30 * (m + 1) + 30 = (30 * m + 30) + 30 by omega]; refine P3 (H4 ?_); refine nj9 rfl rfl (fun h => by cases h) rfl rfl ?_; refine U6 (P3 ?_); refine cq6 true (by show some (Value.bool (decide ((i : Int) < (N : Int)))) = _; rw [decide_eq_true (by omega)]) ?_; refine nq7 (P3 (rZ (H4 ?_))); refine D9 (v := .chan (some Lf)) rfl rfl (fun h => by cases h) T.pR rfl (I3 hB.h7 hB.n7.1 hB.n7.2.1 hB.n7.2.2 rfl) ?_; refine at_recv rfl rfl (fun h => by cases h) Tryz.underlying150 (z := .bool false) (fun _ => p9) rfl ?_; refine U6 (ax0 (H4 ?_)); refine rj4 ((i + 1 : Nat) : Int) rfl rfl (fun h => by cases h) rfl rfl (by omega) r6 ?_; refine yS rfl rfl (fun h => by cases h) rfl ?_; refine U6 (mj9 ?_); exact gJ (m := 30 * m + 30) (by omega) (D8 mC (ih (i + 1) (by omega)))
theorem fol_c {how b3 b5 b6 b7 : Nat} (hN : N ≤ 1000) (hB : Base W Fc Lf o how b3 b6 b7) {fz : Nat × Nat} (h5 : W.heap[b5]? = some (.cells #[.slice (d6 o) N N] 24 fz)) (n5 : b5 ≠ Fc ∧ b5 ≠ Lf ∧ b5 ≠ o) :
    Fol (ph W Fc Lf o N v) (60 * N + 60) (nxt N) (born Tryz.prog ⟨.fn (.func 82) [Value.pointer (d6 b5), .pointer (d6 b7), .pointer (d6 b6)].toArray, #[]⟩).frame [] [] := by
  refine qx4 (m := 60 * N + 59) (p := ph W Fc Lf o N v) F.nW rfl rfl ⟨W, [], fun _ => False⟩ t8 (gJ (m := 30 * N + 30 + 10) (by omega) ?_); refine P3 (P3 (H4 ?_)); refine D9 (v := .slice (d6 o) N N) rfl rfl (fun h => by cases h) T.k8 rfl (I3 h5 n5.1 n5.2.1 n5.2.2 rfl) ?_; refine tr_len rfl rfl (fun h => by cases h) Tryz.underlying24 rfl ?_; refine yS rfl rfl (fun h => by cases h) rfl ?_; refine U6 (rZ (nq8 ?_)); refine gJ (m := 30 * N + 30) (by omega) ?_; refine D8 mC (loop119 (b3 := b3) (b5 := b5) (b6 := b6) (b7 := b7) (how := how) rfl rfl hN hB ?_ N 0 (by omega)); refine H4 ?_; refine D9 (v := .chan (some Fc)) rfl rfl (fun h => by cases h) T.w7 rfl (I3 hB.h6 hB.n6.1 hB.n6.2.1 hB.n6.2.2 rfl) ?_; refine xx4 rfl (fun h => by cases h) rfl rfl p9 fun a ha => ?_; refine QuitsD.ctl rfl (fun w => stepG_region_end) ?_; refine QuitsD.ctl rfl (fun w => stepG_end) ?_; exact ix4 (kx5 F.nW rfl ha.d) (by omega)
end Go.Proofs.YtcdopfjiadifhaaGreatDoor
end
section
namespace Go.W
open Go Go.Conc Go.RowKit
theorem uz7 {p : Ph} {b : Bx} {w : World} {hp0 rest : Hp} {L : List Fact} {f l o o' : Obj} (h : WI b p.W hp0 L) (hpp : hp0.Perm ((p.F, f) :: (p.Lf, l) :: (p.o, o) :: rest)) (he : Sur p w) (ho : w.heap[p.o]? = some o') : WI b w ((p.o, o') :: rest) L := by
  have h := h.perm hpp; have nd := h.nd; simp only [List.map_cons, List.nodup_cons, List.mem_cons, not_or] at nd; obtain ⟨⟨n1, n2, n3⟩, ⟨n4, n5⟩, n6, n7⟩ := nd; have hlt : ∀ {k : Nat} {x : Obj}, (k, x) ∈ ((p.F, f) :: (p.Lf, l) :: (p.o, o) :: rest) → k < p.W.heap.size := fun hm => I4 (h.own _ hm); have hkeep : ∀ k, k < p.W.heap.size → k ≠ p.F → k ≠ p.Lf → k ≠ p.o → w.heap[k]? = p.W.heap[k]? := he.block; have hs : ∀ q ∈ ((p.F, f) :: (p.Lf, l) :: (p.o, o) :: rest), q.1 ∈ b.S0 ∨ b.w0.heap.size ≤ q.1 := h.s0; refine { ext := ⟨he.os.trans h.ext.os, he.tape.trans h.ext.tape, he.output.trans h.ext.output, Nat.le_trans h.ext.size he.size, fun k hk hn => ?_, h.ext.dr⟩, own := fun q hq => ?_, nd := ?_, s0 := fun q hq => ?_, fs := fun F hF => ?_, ap := fun F hF q hq => ?_, al := h.al }
  · have no : ∀ q ∈ ((p.F, f) :: (p.Lf, l) :: (p.o, o) :: rest), k ≠ q.1 := fun q hq e => by
      rcases hs q hq with h1 | h1
      · exact hn (e ▸ h1)
      omega
    exact (hkeep k (Nat.lt_of_lt_of_le hk h.ext.size) (no (p.F, f) (by simp)) (no (p.Lf, l) (by simp)) (no (p.o, o) (by simp))).trans (h.ext.block k hk hn)
  · rcases List.mem_cons.1 hq with rfl | hq
    · exact ho
    have hm : q ∈ ((p.F, f) :: (p.Lf, l) :: (p.o, o) :: rest) := by simp [hq]
    have h1 := h.own q hm; have hne : ∀ z, z ∉ rest.map (·.1) → q.1 ≠ z := fun z hz e => hz (List.mem_map.2 ⟨q, hq, e⟩); exact (hkeep q.1 (I4 h1) (hne _ n3) (hne _ n5) (hne _ n6)).trans h1
  · simp only [List.map_cons, List.nodup_cons]
    exact ⟨n6, n7⟩
  · rcases List.mem_cons.1 hq with rfl | hq
    · exact hs (p.o, o) (by simp)
    exact hs q (by simp [hq])
  · have ap := h.ap F hF
    refine F.st p.W w (fun k hk => ?_) (h.fs F hF); have no : ∀ q ∈ ((p.F, f) :: (p.Lf, l) :: (p.o, o) :: rest), k ≠ q.1 := fun q hq e => ap q hq (e ▸ hk); exact hkeep k (F.lt _ (h.fs F hF) k hk) (no (p.F, f) (by simp)) (no (p.Lf, l) (by simp)) (no (p.o, o) (by simp))
  rcases List.mem_cons.1 hq with rfl | hq
  · exact h.ap F hF (p.o, o) (by simp)
  exact h.ap F hF q (by simp [hq])
theorem hc_co {c : Cx} {x : Code} {Q : Exit → Act → World → Prop} {fr : Fr} {hp : Hp} {L : List Fact}
    (h : ∀ a w, Ok c a fr → WI c.b w hp L → ∀ (b : Frame) (k : List Item) (cs : List Frame) (Goal : Goroutine → World → Prop), b.kind ≠ .early → (∀ e a' w', Q e a' w' → Conts c.P b k cs Goal e a' w') → Co c.P (G (b.at a (.code x :: k)) cs) w Goal) : HC c x Q fr hp L := h
theorem co_hc {c : Cx} {x : Code} {Q : Exit → Act → World → Prop} {fr : Fr} {hp : Hp} {L : List Fact} (h : HC c x Q fr hp L) {a : Act} {w : World} (ha : Ok c a fr) (hw : WI c.b w hp L) {b : Frame} {k : List Item} {cs : List Frame} {Goal : Goroutine → World → Prop} (hk : b.kind ≠ .early)
    (hc : ∀ e a' w', Q e a' w' → Conts c.P b k cs Goal e a' w') : Co c.P (G (b.at a (.code x :: k)) cs) w Goal := h a w ha hw b k cs Goal hk hc
theorem hq_of {c : Cx} {e : Exit} {Q : Exit → Act → World → Prop} {fr : Fr} {hp : Hp} {L : List Fact} (h : ∀ a w, Ok c a fr → WI c.b w hp L → Q e a w) : HQ c Q e fr hp L := h
theorem blk_P {g : Nat} {o : Obj} {w : World} (h : (Blk g o).P w) : w.heap[g]? = some o := h
theorem blk_ne {b : Bx} {w : World} {hp : Hp} {L : List Fact} {g : Nat} {o : Obj} (h : WI b w hp L) (hm : Blk g o ∈ L) (q : Nat × Obj) (hq : q ∈ hp) : q.1 ≠ g := fun e => h.ap _ hm q hq e
theorem row_ne {b : Bx} {w : World} {hp : Hp} {L : List Fact} {ad : Addr} {us : List Value} (h : WI b w hp L) (hm : Row (some ad) us ∈ L) (hne : us ≠ []) (q : Nat × Obj) (hq : q ∈ hp) : q.1 ≠ ad.block := fun e => h.ap _ hm q hq ⟨ad, rfl, e.symm, hne⟩
theorem folM_of {p : Ph} {Goal : Goroutine → World → Prop} {ms : Ms} {c : Cx} {b : Frame} {cs : List Frame} {n : Nat} {ks : List Item} {fr : Fr} {hp : Hq} {a : Act} (h : TC (.folM p Goal ms) c b cs n ks fr hp) (ha : Ok c a fr) : FolM p Goal n ms (b.at a ks) cs hp := h a ha
section
variable {X : TX} {c : Cx} {b : Frame} {cs : List Frame} {n : Nat} {k : List Item} {fr : Fr} {hp hp' : Hq}
theorem rq2 {x : Code} (hs : ∀ q ∈ hp', q ∈ hp) (kk : TC X c b cs n (.code x :: .inLoop x :: k) fr hp') : TC X c b cs (n + 1) (.inLoop x :: k) fr hp := fun a ha =>
  X.lift _ _ _ _ fun w he hh => ⟨_, _, w, #[], hp', stepG_inLoop, by simp, px9 hh hs, kk a ha⟩
end
end Go.W
end
section
namespace Go.Proofs.YtcdopfjiadifhaaGreatDoor
open Go Go.W Go.Conc
set_option maxRecDepth 20000
attribute [local irreducible] HL HC HQ HB Row Rows2 Blk Facts
set_option maxRecDepth 20000
abbrev Ac := Int × Option Nat
instance : El Ac where
  default := (0, none)
  cells x := [int x.1, ruleV x.2]
  sz := 2
  len _ := rfl
  one a u h := by
    simp at h
    rcases h with h | h <;> subst h
    · rfl
    cases a.2 <;> rfl
def acN (how : Nat) (off : Int) (acc : List Ac) (j : Nat) : Int := numN how off (acc.getD j default).2 (acc.getD j default).1
def acV (how : Nat) (off : Int) (acc : List Ac) (j : Nat) : Value := .agg #[int j, int (acN how off acc j)]
structure Main0 (W : World) (Fc Lf o how b3 b5 b6 b7 : Nat) (ad : Addr) (off : Int) (acc : List Ac) : Prop where
  hB : Base W Fc Lf o how b3 b6 b7
  hw : how = 70 ∨ how = 70
  h5 : W.heap[b5]? = some (.cells #[.slice (d6 o) acc.length acc.length] 24 (0, 0))
  n5 : b5 ≠ Fc ∧ b5 ≠ Lf ∧ b5 ≠ o
  row : (Row (some ad) (rows acc)).P W
  nA : ad.block ≠ Fc ∧ ad.block ≠ Lf ∧ ad.block ≠ o
  lenA : acc.length ≤ 1000
  offB : 0 ≤ off ∧ off ≤ 100
  each : ∀ x ∈ acc, (0 ≤ x.1 ∧ x.1 ≤ 1000000) ∧ RuleAt W Fc Lf o off x.2
section
variable {W : World} {Fc Lf o how b3 b5 b6 b7 : Nat} {ad : Addr} {off : Int} {acc : List Ac} {cap : Nat} {Goal : Goroutine → World → Prop}
abbrev ptrB (g : Nat) : Value := .pointer (d6 g)
abbrev fr0 (b2 b3 b5 b6 b7 : Nat) : Fr := [(2, ptrB b2), (3, ptrB b3), (5, ptrB b5), (6, ptrB b6), (7, ptrB b7)]
noncomputable def bodyA : Code := unLoop (blockAt 0 (Tryz.f69.body.getD .skip))
noncomputable def bodyB : Code := unLoop (blockAt 2 (Tryz.f69.body.getD .skip))
theorem spawns {b2 : Nat} {c : Cx} {b : Frame} {cs : List Frame} {k : List Item} {ob : Obj} (hP : c.P = Tryz.prog) (hn : c.n = 41) (hk : b.kind ≠ .early) (h : Main0 W Fc Lf o how b3 b5 b6 b7 ad off acc)
    (n : Nat) (hend : TC (.folM (ph W Fc Lf o acc.length (acV how off acc)) Goal (.sp acc.length)) c b cs n k (fr0 b2 b3 b5 b6 b7) [(o, ob)]) :
    ∀ (m i : Nat), i + m = acc.length → TC (.folM (ph W Fc Lf o acc.length (acV how off acc)) Goal (.sp i)) c b cs (n + 10 + 40 * m) (.code bodyA :: .inLoop bodyA :: .inBlock 0 :: k) ((22, int i) :: (20, .slice (some ad) acc.length cap) :: (21, int acc.length) :: fr0 b2 b3 b5 b6 b7) [(o, ob)] := by
  obtain ⟨P, cn, cb, D, rd⟩ := c; simp only at hP hn; subst hP hn; have hk' : b.kind ≠ .early := hk; have hl := h.lenA; intro m
  induction m with
  | zero =>
    intro i hi; obtain rfl : i = acc.length := by omega
    refine gJ (m := n + 7) (by omega) ?_; refine P3 (H4 ?_); refine nj9 rfl rfl hk' rfl rfl ?_; refine U6 (P3 ?_); refine cq6 false (by show some (Value.bool (decide ((acc.length : Int) < (acc.length : Int)))) = _; rw [decide_eq_false (by omega)]) ?_; refine sq5 k rfl ?_; exact D8 mC hend
  | succ m ih =>
    intro i hi; have hi' : i < acc.length := by omega
    have hx := h.each (acc.getD i default) (by rw [List.getD_eq_getElem?_getD, List.getElem?_eq_getElem hi']; exact List.getElem_mem hi'); rw [show n + 10 + 40 * (m + 1) = (n + 10 + 40 * m) + 40 by omega]; refine P3 (H4 ?_); refine nj9 rfl rfl hk' rfl rfl ?_; refine U6 (P3 ?_); refine cq6 true (by show some (Value.bool (decide ((i : Int) < (acc.length : Int)))) = _; rw [decide_eq_true (by omega)]) ?_; refine nq7 (P3 (rZ (P3 (H4 ?_)))); refine yS rfl rfl hk' rfl ?_; refine bz9 i (ad.add (i * 2)) rfl rfl hk' Tryz.underlying151 T.B6 rfl rfl rfl hi' rfl ?_; refine dW (vs := [int (acc.getD i default).1, ruleV (acc.getD i default).2]) rfl rfl hk' T.H7 T.B6 rfl rfl (xq8 h.row (by simp) h.nA.1 h.nA.2.1 h.nA.2.2 fun j u hu => K2 (α := Ac) hi' j u hu) ?_; refine kq4 rfl rfl hk' T.yT (fun _ _ => p9) fun g8 hg8 hn8 => ?_; refine kq4 rfl rfl hk' T.aq9 (fun _ _ => p9) fun g9 hg9 hn9 => ?_; have n8 : g8 ≠ o := fun e => hn8 ⟨_, List.mem_cons_self .., e.symm⟩; have n98 : g9 ≠ g8 := fun e => hn9 ⟨_, List.mem_cons_self .., e.symm⟩; have n9 : g9 ≠ o := fun e => hn9 ⟨_, List.mem_cons_of_mem _ (List.mem_cons_self ..), e.symm⟩; refine pz0 (hp' := [(g9, Obj.cells #[.int .i64 0, .nilFunc] 141 (0, 0)), (o, ob)]) rfl hk' rfl rfl (List.Perm.swap _ _ _) (by rintro ⟨q, hq, e⟩; simp at hq; rcases hq with rfl | rfl <;> simp at e <;> omega) T.m9 rfl rfl ?_; refine mj6 (hp' := [(g8, Obj.cells #[int i] 3 (0, 0)), (o, ob)]) rfl hk' rfl rfl (List.Perm.swap _ _ _) (by rintro ⟨q, hq, e⟩; simp at hq; rcases hq with rfl | rfl <;> simp at e <;> omega) T.B6 rfl (by show ([int (acc.getD i default).1, ruleV (acc.getD i default).2]).all _ = true; rw [List.all_eq_true]; intro u hu; exact El.one (acc.getD i default) u hu) ?_; refine U6 (H4 ?_); refine ix0 rfl rfl hk' rfl rfl ?_
    refine at_go (f := 81) (cap := [ptrB b6, ptrB g8, ptrB b3, ptrB g9, ptrB b7]) (h1 := [(g9, Obj.cells #[int (acc.getD i default).1, ruleV (acc.getD i default).2] 141 (0, 0)), (g8, Obj.cells #[int i] 3 (0, 0))]) (h2 := [(o, ob)]) rfl hk' rfl (by intro q hq; simp at hq; rcases hq with rfl | rfl <;> simp) (by intro q hq; simp at hq; subst hq; simp)
      (by rintro k ⟨q, hq, e⟩ ⟨q', hq', e'⟩; simp at hq hq'; subst hq'; rcases hq with rfl | rfl <;> simp at e e' <;> omega) (by intro q hq; simp at hq; rcases hq with rfl | rfl; exact hg9; exact hg8)
      (.inl ⟨hi', fol_w hx.1 h.offB hx.2 h.hw h.hB rfl, ?_⟩)
    refine U6 (ax0 (H4 ?_)); refine rj4 ((i + 1 : Nat) : Int) rfl rfl hk' rfl rfl (by omega) r6 (yS rfl rfl hk' rfl ?_); refine U6 (mj9 ?_); exact gJ (m := n + 10 + 40 * m) (by omega) (D8 mC (ih (i + 1) (by omega)))
end
end Go.Proofs.YtcdopfjiadifhaaGreatDoor
end
