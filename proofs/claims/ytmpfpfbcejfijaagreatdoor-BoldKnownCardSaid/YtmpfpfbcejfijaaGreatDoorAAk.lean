/- Texts of this claim, one behind another. -/
import Derived.Conc.AppendEvents3
import Derived.Conc.DeferLaws
import Derived.Test.YtmpfpfbcejfijaaGreatDoorAAj
import Derived.Test.YtmpfpfbcejfijaaGreatDoorAAe
set_option linter.unusedVariables false
set_option linter.unusedSimpArgs false
section
namespace Go.W
open Go Go.Conc Go.RowKit
section
variable {X : TX} {c : Cx} {b : Frame} {cs : List Frame} {n : Nat} {k : List Item} {fr : Fr} {hp : Hq} {ops : Array Oper} {i : Nat} {rest : List Nat}
variable {d : Tmp} {ty : TypeId} {pos : String} {af : Array Edge}
/-! ### What may be listed -/
theorem uA {p : Ph} {e : Event} {ad : Addr} (h : e.loc = .cell ad) (hk : (e.write = false ∧ RdT p ad.block) ∨ Has hp ad.block) : EvIn p hp e := by
  obtain ⟨l, wr, sy⟩ := e; simp only at h; subst h; refine ⟨⟨by simp, by simp⟩, fun x hx _ k' hk' => ?_⟩; have e1 : MemAct.ofEvent ⟨.cell ad, wr, sy⟩ = .access ⟨.cell ad, wr, sy⟩ := rfl; rw [e1] at hx; simp only [MemAct.touch?, Option.some.injEq] at hx; subst hx; simp only [blk, Option.some.injEq] at hk'; subst hk'; exact hk
def AtC (X : TX) (hp : Hq) (ad : Addr) (v : Value) : Prop := (RdT X.p ad.block ∨ Has hp ad.block) ∧ ∀ w, Sur X.p w → Held hp w → w.cell? ad = some v
def AtCs (X : TX) (hp : Hq) (ad : Addr) (vs : List Value) : Prop := (RdT X.p ad.block ∨ Has hp ad.block) ∧ ∀ w, Sur X.p w → Held hp w → ∀ j u, vs[j]? = some u → w.cell? (ad.add j) = some u
theorem bj2 {p : Ph} {e : Event} {ad : Addr} (h : e.loc = .cell ad) (hw : e.write = false) (hk : RdT p ad.block ∨ Has hp ad.block) : EvIn p hp e := uA h (hk.imp (fun h => ⟨hw, h⟩) id)
theorem w9 {t : TypeId} {x : Operand} {ad : Addr} {v : Value} (ho : ops[i]? = some ⟨some d, .load t x, ty, pos, af, none⟩) (hd : Nat.blt d c.n = true) (hk : b.kind ≠ .early) (ht' : NoR X.p.P t) (hx : ev fr x = some (.pointer (some ad))) (hc : AtC X hp ad v)
    (kk : TC X c b cs n (.inRegion ops rest :: k) ((d, v) :: fr) hp) : TC X c b cs (n + 1) (.inRegion ops (i :: rest) :: k) fr hp :=
  bM v ho rfl rfl hd hk (fun a w ha he hh => by
    obtain ⟨dd, ht, hr⟩ := ht'
    have hagg : (isAgg t).run X.p.P w = .ok false w := by
      unfold isAgg; rw [Sem.run_bind, run_underlying ht w]
      cases dd <;> simp_all [TypeDesc.isRow]
    have hcw := hc.2 w he hh; refine ⟨by simp only [execOp, ha.ev hx, Instr.loadAt, Instr.sureAddr, loadVar, Sem.run_bind, Sem.run_pure, Result.andThen_ok, hagg, Bool.false_eq_true, if_false, run_load, hcw], fun e hev => ?_⟩; simp only [execOp, ha.ev hx, Instr.loadAt, Instr.sureAddr, loadVar, Sem.events_bind, Sem.run_bind, Sem.run_pure, Sem.events_pure, Result.andThen_ok, Result.evThen_ok, hagg, events_isAgg, Bool.false_eq_true, if_false, run_load, hcw] at hev
    rcases events_load_at w ad _ _ hcw e hev with h1 | ⟨h1, h2⟩
    · simp at h1
    exact bj2 h1 h2 hc.1) kk
theorem M6 {t : TypeId} {x : Operand} {ad : Addr} {vs : List Value} {sz : Nat} (ho : ops[i]? = some ⟨some d, .load t x, ty, pos, af, none⟩) (hd : Nat.blt d c.n = true) (hk : b.kind ≠ .early) (ht' : IsR X.p.P t) (hz' : Sz X.p.P t sz) (hx : ev fr x = some (.pointer (some ad))) (hn : vs.length = sz) (hc : AtCs X hp ad vs)
    (kk : TC X c b cs n (.inRegion ops rest :: k) ((d, .agg vs.toArray) :: fr) hp) : TC X c b cs (n + 1) (.inRegion ops (i :: rest) :: k) fr hp :=
  bM _ ho rfl rfl hd hk (fun a w ha he hh => by
    obtain ⟨dd, ht, hr⟩ := ht'; have hz : (X.p.P.info? t).map (·.size) = some vs.length := by rw [hn]; exact hz'
    have hagg : (isAgg t).run X.p.P w = .ok true w := by
      unfold isAgg; rw [Sem.run_bind, run_underlying ht w]
      cases dd <;> simp_all [TypeDesc.isRow]
    have hcw := hc.2 w he hh; have hl := run_loadCells_list (P := X.p.P) w ad vs hcw; have hs := N7 hz w; refine ⟨by simp only [execOp, ha.ev hx, Instr.loadAt, Instr.sureAddr, loadVar, Sem.run_bind, Sem.run_pure, Result.andThen_ok, hagg, if_true, hs, hl], fun e hev => ?_⟩; simp only [execOp, ha.ev hx, Instr.loadAt, Instr.sureAddr, loadVar, Sem.events_bind, Sem.run_bind, Sem.run_pure, Sem.events_pure, Result.andThen_ok, Result.evThen_ok, hagg, events_isAgg, if_true, hs, events_sizeOf, hl] at hev
    rcases events_loadCellsFrom_at ad (fun k => RdT X.p k ∨ Has hp k) hc.1 vs.length 0 #[] w #[] (fun j hj => by rw [Nat.zero_add, hcw j vs[j] (List.getElem?_eq_getElem hj)]; rfl) e hev with h1 | ⟨ad', h1, h2, h3⟩
    · simp at h1
    exact bj2 h1 h2 h3) kk
theorem rS {t e : TypeId} {x y : Operand} {ad : Addr} {m cp sz : Nat} {kd : IntKind} {z : Int} (j : Nat) (q : Addr) (ho : ops[i]? = some ⟨some d, .indexAddr t x y, ty, pos, af, none⟩) (hd : Nat.blt d c.n = true) (hk : b.kind ≠ .early) (ht : X.p.P.underlying t = some (.slice e)) (hz : Sz X.p.P e sz)
    (hx : ev fr x = some (.slice (some ad) m cp)) (hy : ev fr y = some (.int kd z)) (hjz : z = (j : Int)) (hj : j < m) (hq : ad.add (j * sz) = q)
    (kk : TC X c b cs n (.inRegion ops rest :: k) ((d, .pointer (some q)) :: fr) hp) : TC X c b cs (n + 1) (.inRegion ops (i :: rest) :: k) fr hp :=
  bM _ ho rfl rfl hd hk (fun a w ha _ _ => by
    subst hjz; subst hq; refine ⟨by simp only [execOp, ha.ev hx, ha.ev hy, Sem.run_bind, lK w ht hz hj, Result.andThen_ok, Sem.run_pure], K5 ?_⟩; simp only [execOp, Sem.events_bind, hx9 (DC.out (s := Instr.indexAt t (a.eval x) (a.eval y)))]
    cases (Instr.indexAt t (a.eval x) (a.eval y)).run X.p.P w <;> rfl) kk
/-! ### What is known of cells -/
theorem B6 {g o : Nat} {vs : Array Value} {t : TypeId} {fz : Nat × Nat} {v : Value} (h : X.p.W.heap[g]? = some (.cells vs t fz)) (h1 : g ≠ X.p.F) (h2 : g ≠ X.p.Lf) (h3 : g ≠ X.p.o) (hv : vs[o]? = some v) : AtC X hp ⟨g, o, none⟩ v :=
  ⟨.inl ⟨C0 h, h3⟩, fun w he hh => by have := he.block g (C0 h) h1 h2 h3; simp [World.cell?, this, h, hv]⟩
theorem K2 {g o : Nat} {vs : Array Value} {t : TypeId} {fz : Nat × Nat} {v : Value} (h : (g, Obj.cells vs t fz) ∈ hp) (hv : vs[o]? = some v) : AtC X hp ⟨g, o, none⟩ v :=
  ⟨.inr ⟨_, h, rfl⟩, fun w he hh => by have := hh _ h; simp only at this; simp [World.cell?, this, hv]⟩
theorem P3 {g o : Nat} {vs : Array Value} {us : List Value} {t : TypeId} {fz : Nat × Nat} (h : (g, Obj.cells vs t fz) ∈ hp) (hv : ∀ i u, us[i]? = some u → vs[o + i]? = some u) : AtCs X hp ⟨g, o, none⟩ us :=
  ⟨.inr ⟨_, h, rfl⟩, fun w he hh i u hu => by have := hh _ h; simp only at this; rw [Y1]; simp [World.cell?, this, hv i u hu]⟩
theorem mz7 {ad : Addr} {vs us : List Value} {j : Nat} (h : (Row (some ad) vs).P X.p.W) (hne : us ≠ []) (h1 : ad.block ≠ X.p.F) (h2 : ad.block ≠ X.p.Lf) (h3 : ad.block ≠ X.p.o) (hv : ∀ i u, us[i]? = some u → vs[j + i]? = some u) : AtCs X hp (ad.add j) us := by
  have hlt : ad.block < X.p.W.heap.size := by
    obtain ⟨u, r, rfl⟩ := List.exists_cons_of_ne_nil hne; have := hv 0 u rfl; refine (Row (some ad) vs).lt _ h _ ⟨ad, rfl, rfl, ?_⟩; rintro rfl
    simp at this
  refine ⟨by rw [nG]; exact .inl ⟨hlt, h3⟩, fun w he hh i u hu => ?_⟩; have hc := Row.cell h (hv i u hu); rw [nj8] at hc; rw [add_add']; rw [← hc]; have hb := he.block ad.block hlt h1 h2 h3; exact World.cell?_of_block (by rw [nG]; exact hb)
/-! ### Blocks -/
theorem jj0 {w : World} (hh : Held hp w) (obj : Obj) : Trn w (w.alloc obj) hp ((w.heap.size, obj) :: hp) := by
  refine ⟨rfl, rfl, rfl, by simp, fun k hk _ => dP w obj hk, fun q hq => ?_, fun q hq => ?_⟩
  · rcases List.mem_cons.1 hq with rfl | hq
    · show (w.heap.push obj)[w.heap.size]? = some obj
      simp
    rw [dP w obj (mY hh ⟨q, hq, rfl⟩)]; exact hh q hq
  rcases List.mem_cons.1 hq with rfl | hq
  · exact .inr (Nat.le_refl _)
  exact .inl ⟨q, hq, rfl⟩
theorem kz5 {o : Oper} (obj : Obj) (mk : Nat → Value) (ho : ops[i]? = some o) (hdst : o.dst = some d) (hg : o.guard = none) (hd : Nat.blt d c.n = true) (hk : b.kind ≠ .early)
    (hrun : ∀ a w, Ok c a fr → (execOp a.eval o).run X.p.P w = .ok (.value (mk w.heap.size)) (w.alloc obj) ∧ (execOp a.eval o).events X.p.P w #[] = #[])
    (kk : ∀ g, X.p.W.heap.size ≤ g → ¬ Has hp g → TC X c b cs n (.inRegion ops rest :: k) ((d, mk g) :: fr) ((g, obj) :: hp)) : TC X c b cs (n + 1) (.inRegion ops (i :: rest) :: k) fr hp :=
  tc_op ho hg hk fun a ha w he hh => ⟨_, _, _, (hrun a w ha).1, K5 (hrun a w ha).2, jj0 hh obj, by
    rw [hdst]
    exact kk _ he.size (fun hg => by have := mY hh hg; omega) _ (ha.put (by simpa using hd) _)⟩
theorem kz6 {e : TypeId} {x : Operand} {v : Value} (ho : ops[i]? = some ⟨some d, .box e x, ty, pos, af, none⟩) (hd : Nat.blt d c.n = true) (hk : b.kind ≠ .early) (hx : ev fr x = some v)
    (kk : ∀ g, X.p.W.heap.size ≤ g → ¬ Has hp g → TC X c b cs n (.inRegion ops rest :: k) ((d, .pointer (b4 g)) :: fr) ((g, .cells v.cells e (0, 0)) :: hp)) : TC X c b cs (n + 1) (.inRegion ops (i :: rest) :: k) fr hp :=
  kz5 (.cells v.cells e (0, 0)) (fun g => .pointer (b4 g)) ho rfl rfl hd hk (fun a w ha => ⟨by simp only [execOp, ha.ev hx]; rfl, by simp only [execOp, ha.ev hx]; rfl⟩) kk
theorem xI {e : TypeId} {us : Array Value} (ho : ops[i]? = some ⟨some d, .alloc e, ty, pos, af, none⟩) (hd : Nat.blt d c.n = true) (hk : b.kind ≠ .early)
    (hrun : ∀ w, (Instr.alloc e true (.tuple #[])).run X.p.P w = .ok (.pointer (some ⟨w.heap.size, 0, none⟩)) (w.alloc (.cells us e (0, 0)))) (hev : ∀ w es, (Instr.alloc e true (.tuple #[])).events X.p.P w es = es)
    (kk : ∀ g, X.p.W.heap.size ≤ g → ¬ Has hp g → TC X c b cs n (.inRegion ops rest :: k) ((d, .pointer (b4 g)) :: fr) ((g, .cells us e (0, 0)) :: hp)) : TC X c b cs (n + 1) (.inRegion ops (i :: rest) :: k) fr hp :=
  kz5 (.cells us e (0, 0)) (fun g => .pointer (b4 g)) ho rfl rfl hd hk (fun a w _ => ⟨by simp only [execOp, Sem.run_bind, hrun, Result.andThen_ok, Sem.run_pure], by simp [execOp, hrun, hev]⟩) kk
theorem aq2 {w w' : World} {g : Nat} {o o' : Obj} {hp' : Hq} (hh : Held hp w) (hpp : hp.Perm ((g, o) :: hp')) (hn : ¬ Has hp' g) (e : Ext [g] w w') (hg : w'.heap[g]? = some o') : Trn w w' hp ((g, o') :: hp') := by
  have hmem : ∀ q ∈ hp', q ∈ hp := fun q hq => hpp.mem_iff.2 (List.mem_cons_of_mem _ hq); have hgm : (g, o) ∈ hp := hpp.mem_iff.2 (by simp); refine ⟨e.os, e.tape, e.output, e.size, fun k hk hnk => e.block k hk (by simp only [List.mem_singleton]; rintro rfl; exact hnk ⟨_, hgm, rfl⟩), fun q hq => ?_, fun q hq => ?_⟩
  · rcases List.mem_cons.1 hq with rfl | hq
    · exact hg
    have h1 := hh q (hmem q hq); exact (e.block q.1 (C0 h1) (by simp only [List.mem_singleton]; rintro h2; exact hn ⟨q, hq, h2⟩)).trans h1
  rcases List.mem_cons.1 hq with rfl | hq
  · exact .inl ⟨_, hgm, rfl⟩
  exact .inl ⟨q, hmem q hq, rfl⟩
theorem dj2 {t : TypeId} {x y : Operand} {g o : Nat} {old : Array Value} {v u : Value} {e : TypeId} {hp' : Hq} (ho : ops[i]? = some ⟨none, .store t x y, ty, pos, af, none⟩) (hk : b.kind ≠ .early) (hx : ev fr x = some (.pointer (some ⟨g, o, none⟩))) (hy : ev fr y = some v)
    (hpp : hp.Perm ((g, .cells old e (0, 0)) :: hp')) (hn : ¬ Has hp' g) (hz : Sz X.p.P t 1) (hou : old[o]? = some u) (h1 : v.oneCell' = true)
    (kk : TC X c b cs n (.inRegion ops rest :: k) fr ((g, .cells (old.setIfInBounds o v) e (0, 0)) :: hp')) : TC X c b cs (n + 1) (.inRegion ops (i :: rest) :: k) fr hp :=
  kz7 ho rfl rfl hk fun a ha w he hh => by
    have hgm : (g, Obj.cells old e (0, 0)) ∈ hp := hpp.mem_iff.2 (by simp); have hg := hh _ hgm; simp only at hg; have hc : w.cell? ⟨g, o, none⟩ = some u := by simp [World.cell?, hg, hou]
    have hf : w.frozen? ⟨g, o, none⟩ = false := by simp [World.frozen?, hg]
    have hcs : v.cells = #[v] := by cases v <;> simp_all [Value.cells, Value.oneCell']
    have hsr : (store ⟨g, o, none⟩ v).run X.p.P w = .ok () (w.setCell ⟨g, o, none⟩ v) := by
      rw [run_store X.p.P w _ v _ h1]; simp only [hc, hf, Bool.false_eq_true, if_false]
    refine ⟨w.setCell ⟨g, o, none⟩ v, _, ?_, fun ev hev => ?_, aq2 hh hpp hn ⟨rfl, rfl, rfl, by simp [World.setCell], fun k _ hn => Below.heap_setCell w ⟨g, o, none⟩ v k (by simpa using hn), Nat.le_refl _⟩ ?_, kk a ha⟩
    · simp only [execOp, ha.ev hx, ha.ev hy, Instr.storeAt, Instr.sureAddr, Sem.run_bind, Sem.run_pure, Result.andThen_ok, storeVar, hcs, N7 hz, List.size_toArray, List.length_cons, List.length_nil, Nat.zero_add, ne_eq, not_true, if_false, storeCells, Addr.add, if_true, hsr, hc, hf, Bool.false_eq_true]
    · simp only [execOp, ha.ev hx, ha.ev hy, Instr.storeAt, Instr.sureAddr, Sem.events_bind, Sem.run_bind, Sem.run_pure, Sem.events_pure, Result.andThen_ok, Result.evThen_ok, storeVar, hcs, N7 hz, events_sizeOf, List.size_toArray, List.length_cons, List.length_nil, Nat.zero_add, ne_eq, not_true, if_false, storeCells, Addr.add, if_true, hsr, events_store X.p.P w _ _ v _ h1, hc, hf, Bool.false_eq_true] at hev
      simp at hev
      subst hev; exact uA rfl (.inr ⟨_, hgm, rfl⟩)
    simp [World.setCell, Array.getElem?_modify, hg]
theorem aq3 {t : TypeId} {x y : Operand} {g : Nat} {old us : Array Value} {e : TypeId} {hp' : Hq} (ho : ops[i]? = some ⟨none, .store t x y, ty, pos, af, none⟩) (hk : b.kind ≠ .early) (hx : ev fr x = some (.pointer (b4 g))) (hy : ev fr y = some (.agg us))
    (hpp : hp.Perm ((g, .cells old e (0, 0)) :: hp')) (hn : ¬ Has hp' g) (hz : Sz X.p.P t us.size) (hou : old.size = us.size) (h1 : us.toList.all (·.oneCell') = true)
    (kk : TC X c b cs n (.inRegion ops rest :: k) fr ((g, .cells us e (0, 0)) :: hp')) : TC X c b cs (n + 1) (.inRegion ops (i :: rest) :: k) fr hp :=
  kz7 ho rfl rfl hk fun a ha w he hh => by
    have hgm : (g, Obj.cells old e (0, 0)) ∈ hp := hpp.mem_iff.2 (by simp); have hg := hh _ hgm; simp only at hg; have h1' : ∀ v ∈ us.toList, v.oneCell' = true := fun v hv => List.all_eq_true.1 h1 v hv; refine ⟨w.setRow g us, _, ?_, fun ev hev => ?_, aq2 hh hpp hn (qP us) (setRow_heap w g old us e (0, 0) hg), kk a ha⟩
    · simp only [execOp, ha.ev hx, ha.ev hy, Instr.storeAt, Instr.sureAddr, Sem.run_bind, Sem.run_pure, Result.andThen_ok, run_storeVar_row w g e t old us hg hz hou (by rw [← Array.all_toList]; exact h1)]
    have hsz := N7 hz w
    have hev2 : ev ∈ (storeVar t ⟨g, 0, none⟩ (.agg us)).events X.p.P w #[] := by
      simp only [execOp, ha.ev hx, ha.ev hy, Instr.storeAt, Instr.sureAddr, Sem.events_bind, Sem.run_bind, Sem.run_pure, Sem.events_pure, Result.andThen_ok, Result.evThen_ok, run_storeVar_row w g e t old us hg hz hou (by rw [← Array.all_toList]; exact h1)] at hev; exact hev
    simp only [storeVar, Sem.events_bind, hsz, events_sizeOf, Result.evThen_ok, Value.cells, ne_eq, not_true, if_false] at hev2
    rcases events_storeCells_at g 0 e us.toList 0 old w #[] hg (by simp; omega) h1' ev hev2 with h2 | ⟨ad, h2, rfl⟩
    · simp at h2
    exact uA h2 (.inr ⟨_, hgm, rfl⟩)
/-! ### Calls -/
def CT (X : TX) (f : Nat) (args : List Value) (hp : Hq) (m : Nat) (v : Value) : Prop := ∀ (n : Nat) (cf : Frame) (cs : List Frame), X.T n (cf.finish v) cs hp → X.T (n + m) (Frame.enter X.p.P f args.toArray .normal) (cf :: cs) hp
theorem CT.more {f : Nat} {args : List Value} {m m' : Nat} {v : Value} (h : CT X f args hp m v) (hm : m ≤ m') : CT X f args hp m' v := fun n cf cs hk => X.more (h n cf cs hk) (by omega)
theorem mapM_ev {a : Act} (ha : Ok c a fr) : ∀ (xs : List Operand) (vs : List Value), xs.mapM (ev fr) = some vs → xs.map a.eval = vs := by
  intro xs
  induction xs with
  | nil => intro vs h; simpa using h
  | cons x xs ih =>
    intro vs h; simp only [List.mapM_cons, Option.bind_eq_bind, Option.bind_eq_some_iff, Option.pure_def, Option.some.injEq] at h; obtain ⟨v, hv, us, hus, rfl⟩ := h; rw [List.map_cons, ha.ev hv, ih us hus]
theorem fin_at' {a : Act} {o : Oper} (ho : ops[i]? = some o) (v : Value) : (b.at a (.inRegion ops (i :: rest) :: k)).finish v = b.at (a.put o.dst v) (.inRegion ops rest :: k) := by rw [Frame.finish_at, ho]; rfl
theorem Y9 {f m : Nat} {x : Operand} {ars : Array Operand} {ats : Array TypeId} {vs cap : List Value} {v : Value} (ho : ops[i]? = some ⟨some d, .call ⟨.value x, ars, ats⟩, ty, pos, af, none⟩) (hd : Nat.blt d c.n = true) (hk : b.kind ≠ .early) (hcb : Callable X.p.P f)
    (hf : ev fr x = some (.func (.func f) #[] cap.toArray)) (hx : ars.toList.mapM (ev fr) = some vs) (hm : CT X f (vs ++ cap) hp m v)
    (kk : TC X c b cs n (.inRegion ops rest :: k) ((d, v) :: fr) hp) : TC X c b cs (n + m + 1) (.inRegion ops (i :: rest) :: k) fr hp := fun a ha => X.lift _ _ _ _ fun w he hh => by
  have e1 : ars.map a.eval = vs.toArray := by apply Array.ext'; simpa using mapM_ev ha _ _ hx
  have e2 : execOp a.eval (⟨some d, .call ⟨.value x, ars, ats⟩, ty, pos, af, none⟩ : Oper) = callFunc f (vs ++ cap).toArray := by
    show ((do let dd ← resolve a.eval ⟨.value x, ars, ats⟩ ty; invoke dd.target dd.args) : Sem Next) = _; have e3 : (#[] ++ vs.toArray ++ cap.toArray) = (vs ++ cap).toArray := by simp
    simp only [resolve, ha.ev hf, e1, Deferred.ofValue]; show (invoke (.fn (.func f) cap.toArray) (#[] ++ vs.toArray) : Sem Next) = _; show callFunc f (#[] ++ vs.toArray ++ cap.toArray) = _; rw [e3]
  refine ⟨_, _, w, _, hp, stepG_enter ho rfl hk (by rw [e2]; exact hcb.run _ _), fun e hev => ?_, rO hh, hm n _ cs ?_⟩
  · have := pZ hev
    rw [e2, hcb.events] at this
    simp at this
  rw [fin_at' ho]; exact kk _ (ha.put (by simpa using hd) v)
theorem ix8 {f m : Nat} {fn : Func} {cd : Code} {args : List Value} {v : Value} (hf : X.p.P.funcs[f]? = some fn) (hb : fn.body = some cd) (b0 : Bx) (hlen : args.length ≤ fn.ntmps)
    (h : ∀ (n : Nat) (cf : Frame) (cs : List Frame), X.T n (cf.finish v) cs hp → TC X ⟨X.p.P, fn.ntmps, b0, [], none⟩ (base f) (cf :: cs) (n + m) [.code cd] (argFr 0 args) hp) : CT X f args hp m v := by
  intro n cf cs hk; rw [enter_at args.toArray hf hb]; refine h n cf cs hk _ ⟨rfl, by simp; omega, fun t u hu => ?_⟩; have h2 := (sG args 0 t u hu).2; simp only [Nat.sub_zero] at h2; have hlt : t < args.length := (List.getElem?_eq_some_iff.1 h2).1
  simpa [Array.getD_eq_getD_getElem?, Array.getElem?_append, hlt] using (List.getElem?_eq_some_iff.1 h2).2
theorem t_leave {fn : Func} {cf : Frame} {v : Value} {f : Nat} {a : Act} {todo : List Item} {hp' : Hq} {t : Tmp} (hf : X.p.P.funcs[f]? = some fn) (hr : fn.results = #[.tmp t]) (hd : a.defers = []) (hv : a.tmps.getD t undef = v) (hs : ∀ q ∈ hp', q ∈ hp) (kk : X.T n (cf.finish v) cs hp') :
    X.T (n + 1) { (base f).at a todo with mode := .returning } (cf :: cs) hp :=
  X.lift _ _ _ _ fun w he hh => ⟨_, _, w, #[], hp', stepG_leave (v := v) rfl hd hf (by rw [results_tmp hr, hv]) (events_results_tmp hr _ _), by simp, dj0 hh hs, kk⟩
theorem bx1 {fn : Func} {cf : Frame} {v : Value} {f : Nat} {hp' : Hq} {t : Tmp} (hc : c.D = []) (hf : X.p.P.funcs[f]? = some fn) (hr : fn.results = #[.tmp t]) (hv : lk fr t = some v) (hs : ∀ q ∈ hp', q ∈ hp) (kk : X.T n (cf.finish v) cs hp') :
    TC X c (base f) (cf :: cs) (n + 2) (.code .ret :: k) fr hp := fun a ha => kz9 (fun w => stepG_ret') (t_leave hf hr (ha.d.trans hc) (ha.at_ t v hv) hs kk)
/-! ### Regions whose order is open -/
def TA (X : TX) (c : Cx) (b : Frame) (cs : List Frame) (k : List Item) (ops : Array Oper) (n fuel : Nat) (listed : Array Bool) (fr : Fr) (hp : Hq) : Prop := ∀ t, TC X c b cs n (.inRegion ops (Region.linearise.go .any ops fuel t listed []) :: k) fr hp
theorem ta_nil {listed : Array Bool} (hr : Region.ready .any ops listed = []) {fuel : Nat} (kk : TC X c b cs n (.inRegion ops [] :: k) fr hp) : TA X c b cs k ops n fuel listed fr hp := fun t => by
  cases fuel with
  | zero => simpa [Region.linearise.go] using kk
  | succ fuel =>
    simp only [Region.linearise.go]
    change TC X c b cs n (.inRegion ops (match (Region.ready .any ops listed)[t % (Region.ready .any ops listed).length]? with
      | some i => Region.linearise.go .any ops fuel (t / (Region.ready .any ops listed).length) (listed.setIfInBounds i true) [i]
      | none => [].reverse) :: k) fr hp
    rw [hr]
    simpa using kk
theorem B3 {listed : Array Bool} {l : List Nat} {fuel : Nat} (hr : Region.ready .any ops listed = l) (hne : l ≠ [])
    (kk : ∀ j ∈ l, ∀ rest, (∃ t, rest = Region.linearise.go .any ops fuel t (listed.setIfInBounds j true) []) → TC X c b cs n (.inRegion ops (j :: rest) :: k) fr hp) : TA X c b cs k ops n (fuel + 1) listed fr hp := fun t => by
  simp only [Region.linearise.go]
  change TC X c b cs n (.inRegion ops (match (Region.ready .any ops listed)[t % (Region.ready .any ops listed).length]? with
      | some i => Region.linearise.go .any ops fuel (t / (Region.ready .any ops listed).length) (listed.setIfInBounds i true) [i]
      | none => [].reverse) :: k) fr hp
  rw [hr]; have hlt : t % l.length < l.length := Nat.mod_lt _ (List.length_pos_iff.2 hne); rw [List.getElem?_eq_getElem hlt]; simp only []; rw [linearise_go_acc, List.reverse_singleton, List.singleton_append]; exact kk _ (List.getElem_mem hlt) _ ⟨_, rfl⟩
theorem xJ {id : Nat} (hm : X.p.P.follows .mixedOrders = true) (kk : TA X c b cs k ops n ops.size (Array.replicate ops.size false) fr hp) : TC X c b cs (n + 1) (.code (.region id ops true) :: k) fr hp := fun a ha => X.lift _ _ _ _ fun w he hh => by
  refine ⟨_, _, _, _, hp, stepG_region_draw, by simp, ⟨rfl, rfl, rfl, Nat.le_refl _, fun _ _ _ => rfl, hh, fun q hq => .inl ⟨q, hq, rfl⟩⟩, ?_⟩; simp only [Region.schedule, hm, Bool.true_or, if_true]; exact kk _ a ha
end
/-! ### Where they meet -/
section
variable {p : Ph} {Goal : Goroutine → World → Prop} {c : Cx} {b : Frame} {cs : List Frame} {n : Nat} {k : List Item} {fr : Fr} {hp : Hq} {ops : Array Oper} {i : Nat} {rest : List Nat}
variable {d : Tmp} {ty : TypeId} {pos : String} {af : Array Edge}
theorem mz9 {j : Nat} {x y : Operand} (ho : ops[i]? = some ⟨none, .send x y, ty, pos, af, none⟩) (hk : b.kind ≠ .early) (hx : ev fr x = some (.chan (some p.F))) (hy : ev fr y = some (p.v j))
    (kk : TC (.fol p .send2) c b cs n (.inRegion ops rest :: k) fr hp) : TC (.fol p (.send1 j)) c b cs (n + 1) (.inRegion ops (i :: rest) :: k) fr hp := fun a ha w he hh => by
  refine .inr ⟨.tuple #[], ?_, ?_⟩
  · rw [stepG_comm (cases := #[scase p.F (p.v j) (.tuple #[])]) (blocking := true) (shape := .send) (w' := w) ho rfl hk (by simp [execOp, scase, ha.ev hx, ha.ev hy])]
    have : listed p.P b.fn a (⟨none, .send x y, ty, pos, af, none⟩ : Oper) w = #[] := by unfold listed; rw [show (execOp a.eval (⟨none, .send x y, ty, pos, af, none⟩ : Oper)).events p.P w #[] = #[] by simp [execOp, ha.ev hx, ha.ev hy]]; exact seen_none _ _
    rw [this]
  rw [fin_at' ho]; exact kk a ha
theorem mz8 {x y : Operand} (ho : ops[i]? = some ⟨none, .send x y, ty, pos, af, none⟩) (hk : b.kind ≠ .early) (hx : ev fr x = some (.chan (some p.Lf))) (hy : ev fr y = some (.bool true))
    (kk : ∀ a, Ok c a fr → QuitsD p.P n 0 (G (b.at a (.inRegion ops rest :: k)) cs)) : TC (.fol p .send2) c b cs (n + 1) (.inRegion ops (i :: rest) :: k) fr hp := fun a ha w he hh => by
  refine .inr ⟨.tuple #[], ?_, ?_⟩
  · rw [stepG_comm (cases := #[scase p.Lf (.bool true) (.tuple #[])]) (blocking := true) (shape := .send) (w' := w) ho rfl hk (by simp [execOp, scase, ha.ev hx, ha.ev hy])]
    have : listed p.P b.fn a (⟨none, .send x y, ty, pos, af, none⟩ : Oper) w = #[] := by unfold listed; rw [show (execOp a.eval (⟨none, .send x y, ty, pos, af, none⟩ : Oper)).events p.P w #[] = #[] by simp [execOp, ha.ev hx, ha.ev hy]]; exact seen_none _ _
    rw [this]
  rw [fin_at' ho]; exact kk a ha
theorem at_recv {j : Nat} {t e : TypeId} {dir : ChanDir} {x : Operand} {z : Value} (ho : ops[i]? = some ⟨some d, .recv t x false, ty, pos, af, none⟩) (hd : Nat.blt d c.n = true) (hk : b.kind ≠ .early) (ht : p.P.underlying t = some (.chan dir e)) (hz : ∀ w, (zeroValue e).run p.P w = .ok z w) (hx : ev fr x = some (.chan (some p.Lf)))
    (kk : TC (.fol p (nxt j)) c b cs n (.inRegion ops rest :: k) ((d, .bool true) :: fr) hp) : TC (.fol p (.recv j)) c b cs (n + 1) (.inRegion ops (i :: rest) :: k) fr hp := fun a ha w he hh => by
  refine .inr ⟨z, ?_, ?_⟩
  · rw [stepG_comm (cases := #[rcase p.Lf z]) (blocking := true) (shape := .recv false) (w' := w) ho rfl hk (by simp [execOp, rcase, Sem.run_bind, run_underlying ht, hz, ha.ev hx])]
    have : listed p.P b.fn a (⟨some d, .recv t x false, ty, pos, af, none⟩ : Oper) w = #[] := by unfold listed; rw [show (execOp a.eval (⟨some d, .recv t x false, ty, pos, af, none⟩ : Oper)).events p.P w #[] = #[] by simp [execOp, run_underlying ht, hz, ha.ev hx]]; exact seen_none _ _
    rw [this]
  rw [fin_at' ho]; exact kk _ (ha.put (by simpa using hd) _)
theorem nj3 {x : Operand} {ats : Array TypeId} (ho : ops[i]? = some ⟨none, .call ⟨.builtin .close, #[x], ats⟩, ty, pos, af, none⟩) (hk : b.kind ≠ .early) (hm : b.mode = .run) (hx : ev fr x = some (.chan (some p.F))) (hq : (p.P.funcs[b.fn]?).any (·.norace) = false)
    (kk : ∀ a, Ok c a fr → QuitsD p.P n 0 (G (b.at a (.inRegion ops rest :: k)) cs)) : TC (.fol p .close) c b cs (n + 1) (.inRegion ops (i :: rest) :: k) fr hp := fun a ha w he hh => by
  refine .inr ⟨?_, _, _, fun s tm hc => stepG_close (ats := ats) ho rfl hk rfl (ha.ev hx) hc hq, kk a ha⟩
  simp [mayWake, G, Frame.at, hm, ho]
theorem at_go {j : Nat} {x : Operand} {f : Nat} {cap : List Value} {h1 h2 : Hq} (ho : ops[i]? = some ⟨none, .go ⟨.value x, #[], #[]⟩, ty, pos, af, none⟩) (hk : b.kind ≠ .early) (hx : ev fr x = some (.func (.func f) #[] cap.toArray))
    (hs1 : ∀ q ∈ h1, q ∈ hp) (hs2 : ∀ q ∈ h2, q ∈ hp) (hdis : ∀ k, Has h1 k → ¬ Has h2 k) (hnew : ∀ q ∈ h1, p.W.heap.size ≤ q.1)
    (kk : (j < p.N ∧ Fol p p.BW (.send1 j) (born p.P ⟨.fn (.func f) cap.toArray, #[]⟩).frame [] h1 ∧ TC (.folM p Goal (.sp (j + 1))) c b cs n (.inRegion ops rest :: k) fr h2) ∨
      (j = p.N ∧ Fol p p.BC (nxt p.N) (born p.P ⟨.fn (.func f) cap.toArray, #[]⟩).frame [] h1 ∧ TC (.folM p Goal (.ga (List.range p.N))) c b cs n (.inRegion ops rest :: k) fr h2)) :
    TC (.folM p Goal (.sp j)) c b cs (n + 1) (.inRegion ops (i :: rest) :: k) fr hp := fun a ha w he hh => by
  refine .inr ⟨b.at a (.inRegion ops rest :: k), cs, (born p.P ⟨.fn (.func f) cap.toArray, #[]⟩).frame, h1, h2, ?_, hs1, hs2, hdis, hnew, kk.imp (fun ⟨a1, a2, a3⟩ => ⟨a1, a2, a3 a ha⟩) fun ⟨a1, a2, a3⟩ => ⟨a1, a2, a3 a ha⟩⟩; rw [stepG_spawn (d := ⟨.fn (.func f) cap.toArray, #[]⟩) (w' := w) ho rfl hk (by simp [execOp, resolve, ha.ev hx, Deferred.ofValue]) rfl]; have : listed p.P b.fn a (⟨none, .go ⟨.value x, #[], #[]⟩, ty, pos, af, none⟩ : Oper) w = #[] := by unfold listed; rw [show (execOp a.eval (⟨none, .go ⟨.value x, #[], #[]⟩, ty, pos, af, none⟩ : Oper)).events p.P w #[] = #[] by simp [execOp, resolve, ha.ev hx, Deferred.ofValue]]; exact seen_none _ _
  rw [this]
  rfl
theorem nj0 {R : List Nat} {t e : TypeId} {dir : ChanDir} {x : Operand} (ho : ops[i]? = some ⟨some d, .recv t x true, ty, pos, af, none⟩) (hd : Nat.blt d c.n = true) (hk : b.kind ≠ .early) (ht : p.P.underlying t = some (.chan dir e)) (hz : ∀ w, (zeroValue e).run p.P w = .ok p.z w) (hx : ev fr x = some (.chan (some p.F)))
    (kk : ∀ j ∈ R, TC (.folM p Goal (.ga (R.erase j))) c b cs n (.inRegion ops rest :: k) ((d, .tuple #[p.v j, .bool true]) :: fr) hp)
    (hend : R = [] → ∀ w, Sur p w → Held hp w → ∀ a, Ok c a ((d, .tuple #[p.z, .bool false]) :: fr) → Co p.P (G (b.at a (.inRegion ops rest :: k)) cs) w Goal) : TC (.folM p Goal (.ga R)) c b cs (n + 1) (.inRegion ops (i :: rest) :: k) fr hp := fun a ha w he hh => by
  refine .inr ⟨?_, fun j hj => ?_, fun hR w' he' hh' => ?_⟩
  · rw [stepG_comm (cases := #[rcase p.F p.z]) (blocking := true) (shape := .recv true) (w' := w) ho rfl hk (by simp [execOp, rcase, Sem.run_bind, run_underlying ht, hz, ha.ev hx])]
    have : listed p.P b.fn a (⟨some d, .recv t x true, ty, pos, af, none⟩ : Oper) w = #[] := by unfold listed; rw [show (execOp a.eval (⟨some d, .recv t x true, ty, pos, af, none⟩ : Oper)).events p.P w #[] = #[] by simp [execOp, run_underlying ht, hz, ha.ev hx]]; exact seen_none _ _
    rw [this]
  · rw [fin_at' ho]; exact kk j hj _ (ha.put (by simpa using hd) _)
  rw [fin_at' ho]; exact hend hR w' he' hh' _ (ha.put (by simpa using hd) _)
/-! ### A child's first step, and its last ones -/
def bot (P : Program) : Frame := { (default : Frame) with fn := P.funcs.size, defers := [], mode := .panicking [goexitEntry] }
theorem kx1 {P : Program} {f : Nat} {fn : Func} {cd : Code} {cap : List Value} (hf : P.funcs[f]? = some fn) (hb : fn.body = some cd) (hname : (fn.name == "runtime.NumGoroutine") = false) (w : World) :
    stepG P false (G (born P ⟨.fn (.func f) cap.toArray, #[]⟩).frame []) w = .go (G ((baseD f).at { tmps := cap.toArray ++ Array.replicate (fn.ntmps - cap.length) undef, defers := [] } [.code cd]) [bot P]) w #[] := by
  have h1 : ¬ fn.name = "runtime.NumGoroutine" := by simpa using hname
  simp [born, G, stepG, unwind, callDeferred, invoke, callFunc, hf, h1, hb, seen_none, GStep.after, Frame.enter, Frame.at, baseD, bot]
theorem xP {P : Program} {f : Nat} {fn : Func} {a : Act} {todo : List Item} (hf : P.funcs[f]? = some fn) (hr : fn.results = #[]) (hd : a.defers = []) : QuitsD P 2 0 (G { (baseD f).at a todo with mode := .returning } [bot P]) := by
  refine QuitsD.ctl (g' := G (bot P) []) rfl (fun w => ?_) ?_
  · simp [G, stepG, unwind, doReturn, results, Frame.at, baseD, bot, hf, hr, hd, seen_none, GStep.after, goexitEntry]
  refine QuitsD.ctl (g' := { G (bot P) [] with status := .finished }) rfl (fun w => ?_) ⟨rfl, rfl⟩
  simp [G, stepG, unwind, bot, goexitEntry, Frame.catches]
  rfl
theorem gj0 {pr : Pr} {f m : Nat} {fn : Func} {cd : Code} {cap : List Value} (hf : p.P.funcs[f]? = some fn) (hb : fn.body = some cd) (hname : (fn.name == "runtime.NumGoroutine") = false) (b0 : Bx) (hlen : cap.length ≤ fn.ntmps)
    (h : TC (.fol p pr) ⟨p.P, fn.ntmps, b0, [], none⟩ (baseD f) [bot p.P] m [.code cd] (argFr 0 cap) hp) : Fol p (m + 1) pr (born p.P ⟨.fn (.func f) cap.toArray, #[]⟩).frame [] hp := by
  refine (TX.fol p pr).lift _ _ _ _ fun w he hh => ⟨_, _, w, #[], hp, kx1 hf hb hname w, by simp, rO hh, ?_⟩; refine h _ ⟨rfl, by simp; omega, fun t u hu => ?_⟩; have h2 := (sG cap 0 t u hu).2; simp only [Nat.sub_zero] at h2; have hlt : t < cap.length := (List.getElem?_eq_some_iff.1 h2).1
  simpa [Array.getD_eq_getD_getElem?, Array.getElem?_append, hlt] using (List.getElem?_eq_some_iff.1 h2).2
end
end Go.W
end
section
namespace Go.Proofs.YtmpfpfbcejfijaaGreatDoor
open Go Go.W Go.Conc
set_option maxRecDepth 20000
attribute [local irreducible] HL HC HQ HB Row Rows2 Blk Facts
set_option maxRecDepth 20000
noncomputable abbrev ph (W : World) (Fc Lf o N : Nat) (v : Nat → Value) : Ph := ⟨Tryz.prog, W, Fc, Lf, o, N, v, .agg #[int 0, int 0], 300, 60 * N + 60⟩
def offN (off s : Int) : Int := (s * (100 - off) + 99).tdiv 100
def ruleV : Option Nat → Value
  | none => .func (.func 61) #[] #[]
  | some g => .func (.func 63) #[] #[.pointer (b4 g)]
def billN (off : Int) (r : Option Nat) (s : Int) : Int := if r.isSome then offN off s else s
def RuleAt (W : World) (Fc Lf o : Nat) (off : Int) : Option Nat → Prop
  | none => True
  | some g => g ≠ Fc ∧ g ≠ Lf ∧ g ≠ o ∧ ∃ vs t fz, W.heap[g]? = some (.cells vs t fz) ∧ vs[4]? = some (int off)
variable {W : World} {Fc Lf o N : Nat} {v : Nat → Value} {pr : Pr} {hp : Hq}
theorem ct_128 (s : Int) : CT (.fol (ph W Fc Lf o N v) pr) 61 [int s] hp 40 (int s) := by
  refine ix8 F.cZ rfl ⟨W, [], fun _ => False⟩ t4 fun n cf cs hk => ?_; refine E2 (z9 ?_); refine S6 rfl rfl (fun h => by cases h) rfl ?_; refine H8 (E2 (z9 ?_)); refine mP rfl rfl (fun h => by cases h) rfl ?_; refine S6 rfl rfl (fun h => by cases h) rfl ?_; refine H8 ?_; refine bx1 rfl F.cZ rfl rfl (fun _ h => h) ?_; exact TX.more _ hk (by omega)
theorem ct_130 (s off : Int) (g : Nat) (hs : 0 ≤ s ∧ s ≤ 1000000) (ho : 0 ≤ off ∧ off ≤ 100) (hr : RuleAt W Fc Lf o off (some g)) : CT (.fol (ph W Fc Lf o N v) pr) 63 [int s, .pointer (b4 g)] hp 40 (int (offN off s)) := by
  obtain ⟨h1, h2, h3, vs, t, fz, h4, h5⟩ := hr; have hb1 : 0 ≤ s * (100 - off) := Int.mul_nonneg hs.1 (by omega); have hb2 : s * (100 - off) ≤ 1000000 * 100 := Int.mul_le_mul hs.2 (by omega) (by omega) (by omega)
  have hb3 : 0 ≤ offN off s ∧ offN off s ≤ 100000099 := by
    unfold offN; exact ⟨Int.tdiv_nonneg (by omega) (by omega), by rw [Int.tdiv_eq_ediv_of_nonneg (by omega)]; omega⟩
  refine ix8 F.cY rfl ⟨W, [], fun _ => False⟩ t4 fun n cf cs hk => ?_; refine E2 (z9 ?_); refine S6 rfl rfl (fun h => by cases h) rfl ?_; refine H8 (E2 (z9 ?_)); refine mP rfl rfl (fun h => by cases h) rfl ?_; refine H7 ⟨g, 0, none⟩ rfl rfl (fun h => by cases h) rfl T.A9 (fun _ _ _ => by kernel_rfl) rfl ?_; refine H7 ⟨g, 4, none⟩ rfl rfl (fun h => by cases h) rfl T.G4 (fun _ _ _ => by kernel_rfl) rfl ?_; refine w9 (v := int off) rfl rfl (fun h => by cases h) T.a9 rfl (B6 h4 h1 h2 h3 h5) ?_; refine kz4 (100 - off) rfl rfl (fun h => by cases h) rfl rfl rfl s9 ?_; refine tr_mul (s * (100 - off)) rfl rfl (fun h => by cases h) rfl rfl rfl s9 ?_; refine gx7 (s * (100 - off) + 99) rfl rfl (fun h => by cases h) rfl rfl rfl s9 ?_; refine tr_quo (offN off s) rfl rfl (fun h => by cases h) rfl rfl (by decide) rfl s9 ?_; refine S6 rfl rfl (fun h => by cases h) rfl ?_; refine H8 ?_; refine bx1 rfl F.cY rfl rfl (fun _ h => h) ?_; exact TX.more _ hk (by omega)
theorem ct_rule (s off : Int) (r : Option Nat) (hs : 0 ≤ s ∧ s ≤ 1000000) (ho : 0 ≤ off ∧ off ≤ 100) (hr : RuleAt W Fc Lf o off r) : ∃ f cap, ruleV r = .func (.func f) #[] cap.toArray ∧ Callable Tryz.prog f ∧ CT (.fol (ph W Fc Lf o N v) pr) f ([int s] ++ cap) hp 40 (int (billN off r s)) := by
  cases r with
  | none => exact ⟨61, [], rfl, F.rC, ct_128 s⟩
  | some g => exact ⟨63, [.pointer (b4 g)], rfl, F.rB, ct_130 s off g hs ho hr⟩
/-! Regions whose order is open -/
def regionAt (id : Nat) : Code → Array Oper
  | .region i ops _ => if i = id then ops else #[]
  | .seq x y => regionAt id x ++ regionAt id y
  | .block _ x => regionAt id x
  | .loop x => regionAt id x
  | .cond _ x y => regionAt id x ++ regionAt id y
  | _ => #[]
theorem cq5 (s off : Int) (r : Option Nat) (hs : 0 ≤ s ∧ s ≤ 1000000) (ho : 0 ≤ off ∧ off ≤ 100) (hr : RuleAt W Fc Lf o off r) : CT (.fol (ph W Fc Lf o N v) pr) 31 [.agg #[int s, ruleV r]] hp 60 (int (billN off r s)) := by
  refine ix8 F.Z5 rfl ⟨W, [], fun _ => False⟩ t4 fun n cf cs hk => ?_; refine E2 (z9 ?_); refine kz6 rfl rfl (fun h => by cases h) rfl fun g hg hn => ?_; refine S6 rfl rfl (fun h => by cases h) rfl ?_; refine H8 (E2 (z9 ?_)); refine H7 ⟨g, 1, none⟩ rfl rfl (fun h => by cases h) rfl T.V4 (fun _ _ _ => by kernel_rfl) rfl ?_; refine w9 (v := ruleV r) rfl rfl (fun h => by cases h) T.sV rfl (K2 (vs := #[int s, ruleV r]) (List.mem_cons_self ..) rfl) ?_; refine H7 ⟨g, 0, none⟩ rfl rfl (fun h => by cases h) rfl T.H2 (fun _ _ _ => by kernel_rfl) rfl ?_; refine w9 (v := int s) rfl rfl (fun h => by cases h) T.a9 rfl (K2 (vs := #[int s, ruleV r]) (List.mem_cons_self ..) rfl) ?_; obtain ⟨f, cap, e, hcb, hct⟩ := ct_rule (W := W) (Fc := Fc) (Lf := Lf) (o := o) (N := N) (v := v) (pr := pr) (hp := (g, Obj.cells (Value.agg #[int s, ruleV r]).cells 75 (0, 0)) :: hp) s off r hs ho hr; refine Y9 (m := 40) rfl rfl (fun h => by cases h) hcb (by show some (ruleV r) = _; rw [e]) rfl hct ?_; refine S6 rfl rfl (fun h => by cases h) rfl ?_; refine H8 ?_; refine bx1 rfl F.Z5 rfl rfl (fun _ h => List.mem_cons_of_mem _ h) ?_; exact TX.more _ hk (by omega)
theorem bill_in (off : Int) (r : Option Nat) (s : Int) (hs : 0 ≤ s ∧ s ≤ 1000000) (ho : 0 ≤ off ∧ off ≤ 100) : 0 ≤ billN off r s ∧ billN off r s ≤ 100000099 := by
  have hb1 : 0 ≤ s * (100 - off) := Int.mul_nonneg hs.1 (by omega); have hb2 : s * (100 - off) ≤ 1000000 * 100 := Int.mul_le_mul hs.2 (by omega) (by omega) (by omega); unfold billN offN
  split
  · exact ⟨Int.tdiv_nonneg (by omega) (by omega), by rw [Int.tdiv_eq_ediv_of_nonneg (by omega)]; omega⟩
  omega
theorem mz6 (off : Int) (r : Option Nat) (s : Int) (hs : 0 ≤ s ∧ s ≤ 1000000) (ho : 0 ≤ off ∧ off ≤ 100) : I64 (s - billN off r s) := by
  have := bill_in off r s hs ho; unfold I64; omega
section
variable {n : Nat} {cf : Frame} {cs : List Frame} {k : List Item} {s off : Int} {r : Option Nat} {g : Nat}
noncomputable def o102 : Array Oper := regionAt 1 (Tryz.f30.body.getD .skip)
theorem s102_63 (hs : 0 ≤ s ∧ s ≤ 1000000) (ho : 0 ≤ off ∧ off ≤ 100) (hr : RuleAt W Fc Lf o off r) (hend : TC (.fol (ph W Fc Lf o N v) pr) ⟨Tryz.prog, Tryz.f30.ntmps, ⟨W, [], fun _ => False⟩, [], none⟩ (base 30) (cf :: cs) (n + 10) (.inRegion o102 [] :: k) [(2, int (s - billN off r s)), (7, int (s - billN off r s)), (6, int (billN off r s)), (5, .agg #[int s, ruleV r]), (4, int s), (3, .pointer (b4 g)), (1, .pointer (b4 g))] ((g, Obj.cells #[int s, ruleV r] 75 (0, 0)) :: hp)) : TA (.fol (ph W Fc Lf o N v) pr) ⟨Tryz.prog, Tryz.f30.ntmps, ⟨W, [], fun _ => False⟩, [], none⟩ (base 30) (cf :: cs) k o102 (n + 10) 0 #[true, true, true, true, true, true] [(2, int (s - billN off r s)), (7, int (s - billN off r s)), (6, int (billN off r s)), (5, .agg #[int s, ruleV r]), (4, int s), (3, .pointer (b4 g)), (1, .pointer (b4 g))] ((g, Obj.cells #[int s, ruleV r] 75 (0, 0)) :: hp) := by
  exact ta_nil (by kernel_rfl) hend
theorem s102_31 (hs : 0 ≤ s ∧ s ≤ 1000000) (ho : 0 ≤ off ∧ off ≤ 100) (hr : RuleAt W Fc Lf o off r) (hend : TC (.fol (ph W Fc Lf o N v) pr) ⟨Tryz.prog, Tryz.f30.ntmps, ⟨W, [], fun _ => False⟩, [], none⟩ (base 30) (cf :: cs) (n + 10) (.inRegion o102 [] :: k) [(2, int (s - billN off r s)), (7, int (s - billN off r s)), (6, int (billN off r s)), (5, .agg #[int s, ruleV r]), (4, int s), (3, .pointer (b4 g)), (1, .pointer (b4 g))] ((g, Obj.cells #[int s, ruleV r] 75 (0, 0)) :: hp)) : TA (.fol (ph W Fc Lf o N v) pr) ⟨Tryz.prog, Tryz.f30.ntmps, ⟨W, [], fun _ => False⟩, [], none⟩ (base 30) (cf :: cs) k o102 (n + 11) 1 #[true, true, true, true, true, false] [(7, int (s - billN off r s)), (6, int (billN off r s)), (5, .agg #[int s, ruleV r]), (4, int s), (3, .pointer (b4 g)), (1, .pointer (b4 g))] ((g, Obj.cells #[int s, ruleV r] 75 (0, 0)) :: hp) := by
  refine B3 (l := [5]) (by kernel_rfl) (by simp) fun j hj rest hr => ?_; obtain ⟨t, rfl⟩ := hr; simp only [List.mem_cons, List.not_mem_nil, or_false] at hj; subst hj; refine S6 rfl rfl (fun h => by cases h) rfl ?_; exact t6 (by repeat constructor) (s102_63 hs ho hr hend t)
theorem iq4 (hs : 0 ≤ s ∧ s ≤ 1000000) (ho : 0 ≤ off ∧ off ≤ 100) (hr : RuleAt W Fc Lf o off r) (hend : TC (.fol (ph W Fc Lf o N v) pr) ⟨Tryz.prog, Tryz.f30.ntmps, ⟨W, [], fun _ => False⟩, [], none⟩ (base 30) (cf :: cs) (n + 10) (.inRegion o102 [] :: k) [(2, int (s - billN off r s)), (7, int (s - billN off r s)), (6, int (billN off r s)), (5, .agg #[int s, ruleV r]), (4, int s), (3, .pointer (b4 g)), (1, .pointer (b4 g))] ((g, Obj.cells #[int s, ruleV r] 75 (0, 0)) :: hp)) : TA (.fol (ph W Fc Lf o N v) pr) ⟨Tryz.prog, Tryz.f30.ntmps, ⟨W, [], fun _ => False⟩, [], none⟩ (base 30) (cf :: cs) k o102 (n + 12) 2 #[true, true, true, true, false, false] [(6, int (billN off r s)), (5, .agg #[int s, ruleV r]), (4, int s), (3, .pointer (b4 g)), (1, .pointer (b4 g))] ((g, Obj.cells #[int s, ruleV r] 75 (0, 0)) :: hp) := by
  refine B3 (l := [4]) (by kernel_rfl) (by simp) fun j hj rest hr => ?_; obtain ⟨t, rfl⟩ := hr; simp only [List.mem_cons, List.not_mem_nil, or_false] at hj; subst hj; refine kz4 (s - billN off r s) rfl rfl (fun h => by cases h) rfl rfl rfl (mz6 off r s hs ho) ?_; exact t6 (by repeat constructor) (s102_31 hs ho hr hend t)
theorem lj7 (hs : 0 ≤ s ∧ s ≤ 1000000) (ho : 0 ≤ off ∧ off ≤ 100) (hr : RuleAt W Fc Lf o off r) (hend : TC (.fol (ph W Fc Lf o N v) pr) ⟨Tryz.prog, Tryz.f30.ntmps, ⟨W, [], fun _ => False⟩, [], none⟩ (base 30) (cf :: cs) (n + 10) (.inRegion o102 [] :: k) [(2, int (s - billN off r s)), (7, int (s - billN off r s)), (6, int (billN off r s)), (5, .agg #[int s, ruleV r]), (4, int s), (3, .pointer (b4 g)), (1, .pointer (b4 g))] ((g, Obj.cells #[int s, ruleV r] 75 (0, 0)) :: hp)) : TA (.fol (ph W Fc Lf o N v) pr) ⟨Tryz.prog, Tryz.f30.ntmps, ⟨W, [], fun _ => False⟩, [], none⟩ (base 30) (cf :: cs) k o102 (n + 73) 3 #[true, true, true, false, false, false] [(5, .agg #[int s, ruleV r]), (4, int s), (3, .pointer (b4 g)), (1, .pointer (b4 g))] ((g, Obj.cells #[int s, ruleV r] 75 (0, 0)) :: hp) := by
  refine B3 (l := [3]) (by kernel_rfl) (by simp) fun j hj rest hr => ?_; obtain ⟨t, rfl⟩ := hr; simp only [List.mem_cons, List.not_mem_nil, or_false] at hj; subst hj; refine Y9 (m := 60) (f := 31) (cap := []) (vs := [.agg #[int s, ruleV r]]) rfl rfl (fun h => by cases h) F.J5 rfl rfl (cq5 s off r hs ho hr) ?_; exact t6 (by repeat constructor) (iq4 hs ho hr hend t)
theorem iq5 (hs : 0 ≤ s ∧ s ≤ 1000000) (ho : 0 ≤ off ∧ off ≤ 100) (hr : RuleAt W Fc Lf o off r) (hend : TC (.fol (ph W Fc Lf o N v) pr) ⟨Tryz.prog, Tryz.f30.ntmps, ⟨W, [], fun _ => False⟩, [], none⟩ (base 30) (cf :: cs) (n + 10) (.inRegion o102 [] :: k) [(2, int (s - billN off r s)), (7, int (s - billN off r s)), (6, int (billN off r s)), (5, .agg #[int s, ruleV r]), (4, int s), (3, .pointer (b4 g)), (1, .pointer (b4 g))] ((g, Obj.cells #[int s, ruleV r] 75 (0, 0)) :: hp)) : TA (.fol (ph W Fc Lf o N v) pr) ⟨Tryz.prog, Tryz.f30.ntmps, ⟨W, [], fun _ => False⟩, [], none⟩ (base 30) (cf :: cs) k o102 (n + 13) 3 #[true, false, true, true, false, false] [(6, int (billN off r s)), (5, .agg #[int s, ruleV r]), (3, .pointer (b4 g)), (1, .pointer (b4 g))] ((g, Obj.cells #[int s, ruleV r] 75 (0, 0)) :: hp) := by
  refine B3 (l := [1]) (by kernel_rfl) (by simp) fun j hj rest hr => ?_; obtain ⟨t, rfl⟩ := hr; simp only [List.mem_cons, List.not_mem_nil, or_false] at hj; subst hj; refine w9 (v := int s) rfl rfl (fun h => by cases h) T.a9 rfl (K2 (vs := #[int s, ruleV r]) (List.mem_cons_self ..) rfl) ?_; exact t6 (by repeat constructor) (iq4 hs ho hr hend t)
theorem s102_3 (hs : 0 ≤ s ∧ s ≤ 1000000) (ho : 0 ≤ off ∧ off ≤ 100) (hr : RuleAt W Fc Lf o off r) (hend : TC (.fol (ph W Fc Lf o N v) pr) ⟨Tryz.prog, Tryz.f30.ntmps, ⟨W, [], fun _ => False⟩, [], none⟩ (base 30) (cf :: cs) (n + 10) (.inRegion o102 [] :: k) [(2, int (s - billN off r s)), (7, int (s - billN off r s)), (6, int (billN off r s)), (5, .agg #[int s, ruleV r]), (4, int s), (3, .pointer (b4 g)), (1, .pointer (b4 g))] ((g, Obj.cells #[int s, ruleV r] 75 (0, 0)) :: hp)) : TA (.fol (ph W Fc Lf o N v) pr) ⟨Tryz.prog, Tryz.f30.ntmps, ⟨W, [], fun _ => False⟩, [], none⟩ (base 30) (cf :: cs) k o102 (n + 74) 4 #[true, true, false, false, false, false] [(4, int s), (3, .pointer (b4 g)), (1, .pointer (b4 g))] ((g, Obj.cells #[int s, ruleV r] 75 (0, 0)) :: hp) := by
  refine B3 (l := [2]) (by kernel_rfl) (by simp) fun j hj rest hr => ?_; obtain ⟨t, rfl⟩ := hr; simp only [List.mem_cons, List.not_mem_nil, or_false] at hj; subst hj; refine M6 (vs := [int s, ruleV r]) rfl rfl (fun h => by cases h) T.A3 T.u5 rfl rfl (P3 (vs := #[int s, ruleV r]) (List.mem_cons_self ..) fun i u hu => by rw [Nat.zero_add]; simpa using hu) ?_; exact t6 (by repeat constructor) (lj7 hs ho hr hend t)
theorem lj8 (hs : 0 ≤ s ∧ s ≤ 1000000) (ho : 0 ≤ off ∧ off ≤ 100) (hr : RuleAt W Fc Lf o off r) (hend : TC (.fol (ph W Fc Lf o N v) pr) ⟨Tryz.prog, Tryz.f30.ntmps, ⟨W, [], fun _ => False⟩, [], none⟩ (base 30) (cf :: cs) (n + 10) (.inRegion o102 [] :: k) [(2, int (s - billN off r s)), (7, int (s - billN off r s)), (6, int (billN off r s)), (5, .agg #[int s, ruleV r]), (4, int s), (3, .pointer (b4 g)), (1, .pointer (b4 g))] ((g, Obj.cells #[int s, ruleV r] 75 (0, 0)) :: hp)) : TA (.fol (ph W Fc Lf o N v) pr) ⟨Tryz.prog, Tryz.f30.ntmps, ⟨W, [], fun _ => False⟩, [], none⟩ (base 30) (cf :: cs) k o102 (n + 74) 4 #[true, false, true, false, false, false] [(5, .agg #[int s, ruleV r]), (3, .pointer (b4 g)), (1, .pointer (b4 g))] ((g, Obj.cells #[int s, ruleV r] 75 (0, 0)) :: hp) := by
  refine B3 (l := [1, 3]) (by kernel_rfl) (by simp) fun j hj rest hr => ?_; obtain ⟨t, rfl⟩ := hr; simp only [List.mem_cons, List.not_mem_nil, or_false] at hj
  rcases hj with rfl | rfl
  · refine w9 (v := int s) rfl rfl (fun h => by cases h) T.a9 rfl (K2 (vs := #[int s, ruleV r]) (List.mem_cons_self ..) rfl) ?_
    exact t6 (by repeat constructor) (lj7 hs ho hr hend t)
  refine Y9 (m := 60) (f := 31) (cap := []) (vs := [.agg #[int s, ruleV r]]) rfl rfl (fun h => by cases h) F.J5 rfl rfl (cq5 s off r hs ho hr) ?_; exact t6 (by repeat constructor) (iq5 hs ho hr hend t)
theorem s102_12 (hs : 0 ≤ s ∧ s ≤ 1000000) (ho : 0 ≤ off ∧ off ≤ 100) (hr : RuleAt W Fc Lf o off r) (hend : TC (.fol (ph W Fc Lf o N v) pr) ⟨Tryz.prog, Tryz.f30.ntmps, ⟨W, [], fun _ => False⟩, [], none⟩ (base 30) (cf :: cs) (n + 10) (.inRegion o102 [] :: k) [(2, int (s - billN off r s)), (7, int (s - billN off r s)), (6, int (billN off r s)), (5, .agg #[int s, ruleV r]), (4, int s), (3, .pointer (b4 g)), (1, .pointer (b4 g))] ((g, Obj.cells #[int s, ruleV r] 75 (0, 0)) :: hp)) : TA (.fol (ph W Fc Lf o N v) pr) ⟨Tryz.prog, Tryz.f30.ntmps, ⟨W, [], fun _ => False⟩, [], none⟩ (base 30) (cf :: cs) k o102 (n + 14) 4 #[false, false, true, true, false, false] [(6, int (billN off r s)), (5, .agg #[int s, ruleV r]), (1, .pointer (b4 g))] ((g, Obj.cells #[int s, ruleV r] 75 (0, 0)) :: hp) := by
  refine B3 (l := [0]) (by kernel_rfl) (by simp) fun j hj rest hr => ?_; obtain ⟨t, rfl⟩ := hr; simp only [List.mem_cons, List.not_mem_nil, or_false] at hj; subst hj; refine H7 ⟨g, 0, none⟩ rfl rfl (fun h => by cases h) rfl T.H2 (fun _ _ _ => by kernel_rfl) rfl ?_; exact t6 (by repeat constructor) (iq5 hs ho hr hend t)
theorem s102_1 (hs : 0 ≤ s ∧ s ≤ 1000000) (ho : 0 ≤ off ∧ off ≤ 100) (hr : RuleAt W Fc Lf o off r) (hend : TC (.fol (ph W Fc Lf o N v) pr) ⟨Tryz.prog, Tryz.f30.ntmps, ⟨W, [], fun _ => False⟩, [], none⟩ (base 30) (cf :: cs) (n + 10) (.inRegion o102 [] :: k) [(2, int (s - billN off r s)), (7, int (s - billN off r s)), (6, int (billN off r s)), (5, .agg #[int s, ruleV r]), (4, int s), (3, .pointer (b4 g)), (1, .pointer (b4 g))] ((g, Obj.cells #[int s, ruleV r] 75 (0, 0)) :: hp)) : TA (.fol (ph W Fc Lf o N v) pr) ⟨Tryz.prog, Tryz.f30.ntmps, ⟨W, [], fun _ => False⟩, [], none⟩ (base 30) (cf :: cs) k o102 (n + 75) 5 #[true, false, false, false, false, false] [(3, .pointer (b4 g)), (1, .pointer (b4 g))] ((g, Obj.cells #[int s, ruleV r] 75 (0, 0)) :: hp) := by
  refine B3 (l := [1, 2]) (by kernel_rfl) (by simp) fun j hj rest hr => ?_; obtain ⟨t, rfl⟩ := hr; simp only [List.mem_cons, List.not_mem_nil, or_false] at hj
  rcases hj with rfl | rfl
  · refine w9 (v := int s) rfl rfl (fun h => by cases h) T.a9 rfl (K2 (vs := #[int s, ruleV r]) (List.mem_cons_self ..) rfl) ?_
    exact t6 (by repeat constructor) (s102_3 hs ho hr hend t)
  refine M6 (vs := [int s, ruleV r]) rfl rfl (fun h => by cases h) T.A3 T.u5 rfl rfl (P3 (vs := #[int s, ruleV r]) (List.mem_cons_self ..) fun i u hu => by rw [Nat.zero_add]; simpa using hu) ?_; exact t6 (by repeat constructor) (lj8 hs ho hr hend t)
theorem s102_4 (hs : 0 ≤ s ∧ s ≤ 1000000) (ho : 0 ≤ off ∧ off ≤ 100) (hr : RuleAt W Fc Lf o off r) (hend : TC (.fol (ph W Fc Lf o N v) pr) ⟨Tryz.prog, Tryz.f30.ntmps, ⟨W, [], fun _ => False⟩, [], none⟩ (base 30) (cf :: cs) (n + 10) (.inRegion o102 [] :: k) [(2, int (s - billN off r s)), (7, int (s - billN off r s)), (6, int (billN off r s)), (5, .agg #[int s, ruleV r]), (4, int s), (3, .pointer (b4 g)), (1, .pointer (b4 g))] ((g, Obj.cells #[int s, ruleV r] 75 (0, 0)) :: hp)) : TA (.fol (ph W Fc Lf o N v) pr) ⟨Tryz.prog, Tryz.f30.ntmps, ⟨W, [], fun _ => False⟩, [], none⟩ (base 30) (cf :: cs) k o102 (n + 75) 5 #[false, false, true, false, false, false] [(5, .agg #[int s, ruleV r]), (1, .pointer (b4 g))] ((g, Obj.cells #[int s, ruleV r] 75 (0, 0)) :: hp) := by
  refine B3 (l := [0, 3]) (by kernel_rfl) (by simp) fun j hj rest hr => ?_; obtain ⟨t, rfl⟩ := hr; simp only [List.mem_cons, List.not_mem_nil, or_false] at hj
  rcases hj with rfl | rfl
  · refine H7 ⟨g, 0, none⟩ rfl rfl (fun h => by cases h) rfl T.H2 (fun _ _ _ => by kernel_rfl) rfl ?_
    exact t6 (by repeat constructor) (lj8 hs ho hr hend t)
  refine Y9 (m := 60) (f := 31) (cap := []) (vs := [.agg #[int s, ruleV r]]) rfl rfl (fun h => by cases h) F.J5 rfl rfl (cq5 s off r hs ho hr) ?_; exact t6 (by repeat constructor) (s102_12 hs ho hr hend t)
theorem s102_0 (hs : 0 ≤ s ∧ s ≤ 1000000) (ho : 0 ≤ off ∧ off ≤ 100) (hr : RuleAt W Fc Lf o off r) (hend : TC (.fol (ph W Fc Lf o N v) pr) ⟨Tryz.prog, Tryz.f30.ntmps, ⟨W, [], fun _ => False⟩, [], none⟩ (base 30) (cf :: cs) (n + 10) (.inRegion o102 [] :: k) [(2, int (s - billN off r s)), (7, int (s - billN off r s)), (6, int (billN off r s)), (5, .agg #[int s, ruleV r]), (4, int s), (3, .pointer (b4 g)), (1, .pointer (b4 g))] ((g, Obj.cells #[int s, ruleV r] 75 (0, 0)) :: hp)) : TA (.fol (ph W Fc Lf o N v) pr) ⟨Tryz.prog, Tryz.f30.ntmps, ⟨W, [], fun _ => False⟩, [], none⟩ (base 30) (cf :: cs) k o102 (n + 76) 6 #[false, false, false, false, false, false] [(1, .pointer (b4 g))] ((g, Obj.cells #[int s, ruleV r] 75 (0, 0)) :: hp) := by
  refine B3 (l := [0, 2]) (by kernel_rfl) (by simp) fun j hj rest hr => ?_; obtain ⟨t, rfl⟩ := hr; simp only [List.mem_cons, List.not_mem_nil, or_false] at hj
  rcases hj with rfl | rfl
  · refine H7 ⟨g, 0, none⟩ rfl rfl (fun h => by cases h) rfl T.H2 (fun _ _ _ => by kernel_rfl) rfl ?_
    exact t6 (by repeat constructor) (s102_1 hs ho hr hend t)
  refine M6 (vs := [int s, ruleV r]) rfl rfl (fun h => by cases h) T.A3 T.u5 rfl rfl (P3 (vs := #[int s, ruleV r]) (List.mem_cons_self ..) fun i u hu => by rw [Nat.zero_add]; simpa using hu) ?_; exact t6 (by repeat constructor) (s102_4 hs ho hr hend t)
end
theorem ct_102 (s off : Int) (r : Option Nat) (hs : 0 ≤ s ∧ s ≤ 1000000) (ho : 0 ≤ off ∧ off ≤ 100) (hr : RuleAt W Fc Lf o off r) : CT (.fol (ph W Fc Lf o N v) pr) 30 [.agg #[int s, ruleV r]] hp 100 (int (s - billN off r s)) := by
  refine ix8 F.mK rfl ⟨W, [], fun _ => False⟩ t4 fun n cf cs hk => ?_; refine E2 (z9 ?_); refine kz6 rfl rfl (fun h => by cases h) rfl fun g hg hn => ?_; refine S6 rfl rfl (fun h => by cases h) rfl ?_; refine H8 (E2 ?_); refine R4 (m := n + 77) (by omega) (xJ mixed ?_); refine (fun t => t6 (by repeat constructor) (s102_0 hs ho hr ?_ t)); refine H8 ?_; refine bx1 rfl F.mK rfl rfl (fun _ h => List.mem_cons_of_mem _ h) ?_; exact TX.more _ hk (by omega)
end Go.Proofs.YtmpfpfbcejfijaaGreatDoor
end
