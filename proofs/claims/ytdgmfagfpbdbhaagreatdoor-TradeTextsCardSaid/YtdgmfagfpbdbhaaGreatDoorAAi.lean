/- Texts. -/
import Derived.Lib.SliceRun
import Derived.Laws.AppendOwn
import Derived.Laws.MakeOwn
import Derived.Test.YtdgmfagfpbdbhaaGreatDoorAAe
set_option linter.unusedVariables false
set_option linter.unusedSimpArgs false
section
namespace Go.W
open Go Go.RowKit
section
variable {c : Cx} {Q : Exit → Act → World → Prop} {fr : Fr} {hp : Hp} {L : List Fact} {ops : Array Oper} {rest : List Oper}
variable {d : Tmp} {ty : TypeId} {pos : String} {af : Array Edge}
theorem hl_eff {o : Oper} (ho : o.dst = none) (hg : o.guard = none)
    (h : ∀ a w, Ok c a fr → WI c.b w hp L → ∃ v w' hp' L', (execOp a.eval o).run c.P w = .ok (.value v) w' ∧ WI c.b w' hp' L' ∧ HL c ops Q rest fr hp' L') : HL c ops Q (o :: rest) fr hp L := by
  intro a w ha hw; obtain ⟨v, w', hp', L', hr, hw', hk⟩ := h a w ha hw; refine iF hg fun K hK => ?_; unfold Oper.wp; rw [hr, Oper.upon_value, ho]; exact hK _ _ (hk _ _ ha hw')
theorem gj7 {g : Nat} {e : TypeId} {fz : Nat × Nat} : ∀ (vs : List Value) (o : Nat) (w : World) (cur : Array Value), w.heap[g]? = some (.cells cur e fz) → ∃ cur', (w.setCells g o vs).heap[g]? = some (.cells cur' e fz) ∧ cur'.size = cur.size ∧ (∀ m, m ≤ o → cur'.toList.take m = cur.toList.take m) ∧ Ext [g] w (w.setCells g o vs)
  | [], o, w, cur, h => ⟨cur, h, rfl, fun _ _ => rfl, Ext.refl _ _⟩
  | v :: vs, o, w, cur, h => by
    have h1 : (w.setCell ⟨g, o, none⟩ v).heap[g]? = some (.cells (cur.setIfInBounds o v) e fz) := by simp [World.setCell, Array.getElem?_modify, h]
    obtain ⟨cur', q1, q2, q3, q4⟩ := gj7 vs (o + 1) _ _ h1; refine ⟨cur', q1, by rw [q2, Array.size_setIfInBounds], fun m hm => ?_, Ext.trans (b := w.setCell ⟨g, o, none⟩ v) ⟨rfl, rfl, rfl, by simp [World.setCell], fun k _ hn => Below.heap_setCell w ⟨g, o, none⟩ v k (by simpa using hn), Nat.le_refl _⟩ q4⟩; rw [q3 m (by omega), Array.toList_setIfInBounds, List.take_set_of_le hm]
theorem r_clear {t e : TypeId} {x : Operand} {g o n cp : Nat} {cur : Array Value} {e' : TypeId} {hp' : Hp} {z : Value} (ht : c.P.underlying t = some (.slice e)) (hv : ∀ w, (zeroValue e).run c.P w = .ok z w) (hz : z.cells = #[z]) (h1 : z.oneCell' = true)
    (hx : ev fr x = some (.slice (some ⟨g, o, none⟩) n cp)) (hn : o + n ≤ cur.size) (hpp : hp.Perm ((g, .cells cur e' (0, 0)) :: hp'))
    (k : ∀ cur' : Array Value, cur'.size = cur.size → (∀ m, m ≤ o → cur'.toList.take m = cur.toList.take m) → HL c ops Q rest fr ((g, .cells cur' e' (0, 0)) :: hp') L) :
    HL c ops Q (⟨none, .call ⟨.builtin .clear, #[x], #[t]⟩, ty, pos, af, none⟩ :: rest) fr hp L :=
  hl_eff rfl rfl fun a w ha hw => by
    have hw' := hw.perm hpp; have hg := hw'.own (g, .cells cur e' (0, 0)) (by simp); simp only at hg
    by_cases h0 : n = 0
    · subst h0
      refine ⟨.tuple #[], w, _, L, ?_, hw', k cur rfl fun _ _ => rfl⟩
      simp [execOp, resolve, invoke, builtin, Builtin.clear_, ha.ev hx, run_underlying ht]
    obtain ⟨cur', q1, q2, q3, q4⟩ := gj7 (List.replicate n z) o w cur hg; have hr := Lib.run_clear_slice (P := c.P) w t e ty z ht hv hz h1 g o n cp (by omega) (fun j hj => by simp [World.cell?, hg]; omega) (fun j hj => by simp [World.frozen?, hg]); refine ⟨.tuple #[], _, _, L, ?_, hw'.write q4 q1, k cur' q2 q3⟩
    simp [execOp, resolve, invoke, builtin, ha.ev hx, hr]
theorem iM {t e : TypeId} {x i : Operand} {g o n sz : Nat} {kd : IntKind} {z : Int} (j q : Nat) (hd : Nat.blt d c.n = true) (ht : c.P.underlying t = some (.array n e)) (hz : Sz c.P e sz)
    (hx : ev fr x = some (.pointer (some ⟨g, o, none⟩))) (hi : ev fr i = some (.int kd z)) (hjz : z = (j : Int)) (hj : j < n) (hq : o + j * sz = q)
    (k : HL c ops Q rest ((d, .pointer (some ⟨g, q, none⟩)) :: fr) hp L) : HL c ops Q (⟨some d, .indexAddr t x i, ty, pos, af, none⟩ :: rest) fr hp L :=
  E0 _ rfl rfl hd (fun a w ha hw => by
    subst hjz
    have hr : (Instr.indexAt t (.pointer (some ⟨g, o, none⟩)) (.int kd (j : Int))).run c.P w = .ok (.pointer (some ⟨g, q, none⟩)) w := by
      subst hq
      simp [Instr.indexAt, asIntOf, run_underlying ht, dT hz, hj, Instr.sureAddr, add_mk]
    simp only [execOp, ha.ev hx, ha.ev hi, Sem.run_bind, hr, Result.andThen_ok, Sem.run_pure]) k
theorem jz8 {t e : TypeId} {x i : Operand} {n : Nat} {kd ke : IntKind} {z : Int} {cs : Array Value} {v : Value} (j : Nat) (hd : Nat.blt d c.n = true) (ht : c.P.underlying t = some (.array n e)) (hz : Sz c.P e 1) (he : c.P.underlying e = some (.int ke))
    (hx : ev fr x = some (.agg cs)) (hi : ev fr i = some (.int kd z)) (hjz : z = (j : Int)) (hj : j < n) (hv : cs[j]? = some v)
    (k : HL c ops Q rest ((d, v) :: fr) hp L) : HL c ops Q (⟨some d, .index t x i, ty, pos, af, none⟩ :: rest) fr hp L :=
  E0 _ rfl rfl hd (fun a w ha hw => by
    subst hjz
    have hr : (Instr.index t (.agg cs) (.int kd (j : Int))).run c.P w = .ok v w := by
      simp [Instr.index, asIntOf, run_underlying ht, dT hz, hj, part, isAgg, run_underlying he, hv]
    simp only [execOp, ha.ev hx, ha.ev hi, Sem.run_bind, hr, Result.andThen_ok, Sem.run_pure]) k
theorem hl_dup {F : Fact} (h : F ∈ L) (k : HL c ops Q rest fr hp (F :: L)) : HL c ops Q rest fr hp L := fun a w ha hw => k a w ha (hw.weak (List.Sublist.refl _) fun G hG => by
  rcases List.mem_cons.1 hG with rfl | hG
  · exact h
  exact hG)
theorem hc_dup {F : Fact} {x : Code} (h : F ∈ L) (k : HC c x Q fr hp (F :: L)) : HC c x Q fr hp L := fun a w ha hw => k a w ha (hw.weak (List.Sublist.refl _) fun G hG => by
  rcases List.mem_cons.1 hG with rfl | hG
  · exact h
  exact hG)
theorem az1 {f : Nat} {x : Operand} {ats : Array TypeId} {t : TypeId} {v v' : Value} {name : String} {β : Type} {k : Con β} {hpR : Hp} (hcb : Callable c.P f) (hd : Nat.blt d c.n = true) (hx : ev fr x = some (.iface t v))
    (hmt : ∀ w, (method (c.P.types.size + Made.depth) t v name).run c.P w = .ok (f, v') w)
    (hm : Meets c.P f [v'] k) (h1 : hp.Perm (k.hpI ++ hpR)) (h2 : LSub L k.LI) (kk : ∀ x, k.inv x → HL c ops Q rest ((d, k.val x) :: fr) (k.hpO x ++ hpR) (k.LO x ++ L)) :
    HL c ops Q (⟨some d, .call ⟨.invoke x name, #[], ats⟩, ty, pos, af, none⟩ :: rest) fr hp L := by
  intro a w ha hw; refine iF rfl fun K hK => ?_; unfold Oper.wp
  have e2 : (execOp a.eval (⟨some d, .call ⟨.invoke x name, #[], ats⟩, ty, pos, af, none⟩ : Oper)).run c.P w = .ok (.enter f [v'].toArray) w := by
    show ((do let dd ← resolve a.eval ⟨.invoke x name, #[], ats⟩ ty; invoke dd.target dd.args) : Sem Next).run c.P w = _; simp only [resolve, ha.ev hx, Sem.run_bind, Sem.run_pure, Result.andThen_ok, invoke]; have e3 : (#[Value.iface t v] ++ Array.map a.eval #[]) = #[Value.iface t v] := by simp
    rw [e3]; have e4 : (#[Value.iface t v] : Array Value).extract 1 (#[Value.iface t v] : Array Value).size = #[] := by simp
    show (callMethod (.iface t v) name ((#[Value.iface t v] : Array Value).extract 1 (#[Value.iface t v] : Array Value).size)).run c.P w = _; rw [e4]; have e5 : (#[v'] ++ #[] : Array Value) = [v'].toArray := by simp
    simp only [callMethod, Sem.run_bind, Sem.run_pure, run_program, Result.andThen_ok, hmt, e5]; exact hcb.run _ _
  rw [e2, Oper.upon_enter]; refine (hm w (hw.entry h1 h2.mem)).mono fun e w' hp => ?_; obtain ⟨x, rfl, hi, hwi⟩ := hp; exact hK _ _ (kk x hi _ _ (ha.put (by simpa using hd) _) (hw.back h1 h2.mem hwi))
theorem iz0 {t e : TypeId} {x y : Operand} {sz bytes n cap m cp g : Nat} {cur : Array Value} {B : Option Addr} {xs news : List Value} {hp' : Hp} (el : ElT c.P t e sz bytes) (hd : Nat.blt d c.n = true)
    (hx : ev fr x = some (.slice (d9 g) n cap)) (hy : ev fr y = some (.slice B m cp)) (hcs : cur.size = cap * sz) (htk : cur.toList.take (n * sz) = xs) (hpp : hp.Perm ((g, .cells cur e (0, 0)) :: hp')) (hs : Src c.b ((g, .cells cur e (0, 0)) :: hp') L B m sz news) (hm : 0 < m) (hroom : n + m ≤ cap)
    (k : ∀ cur' : Array Value, cur'.size = cap * sz → cur'.toList.take ((n + m) * sz) = xs ++ news → HL c ops Q rest ((d, .slice (d9 g) (n + m) cap) :: fr) ((g, .cells cur' e (0, 0)) :: hp') L) :
    HL c ops Q (⟨some d, .call ⟨.builtin .append, #[x, y], #[t, t]⟩, ty, pos, af, none⟩ :: rest) fr hp L :=
  wW rfl rfl hd fun a w ha hw => by
    have hw' := hw.perm hpp; have hg := hw'.own (g, .cells cur e (0, 0)) (by simp); simp only at hg; obtain ⟨i, z, hi, hz, hsz, hb, hzs⟩ := el.i
    rcases hs.2.2 with ⟨h0, _⟩ | hc
    · omega
    obtain ⟨ad, hBe, hcc⟩ := hc w hw'; subst hBe
    have hfit : n * sz + news.length ≤ cur.size := by
      rw [hs.1, hcs, ← Nat.add_mul]; exact Nat.mul_le_mul_right _ hroom
    have hrun := run_append_room (P := c.P) (w := w) t ty e i el.u hi g n cap cur hg ad m cp news (by rw [hsz]; exact hs.1) hcc hs.2.1 hroom (by rw [hsz]; exact hfit); rw [hsz, htk] at hrun; have hl1 : xs.length = n * sz := by rw [← htk, List.length_take, Array.length_toList]; omega
    have q1 : ((xs ++ news ++ cur.toList.drop (n * sz + news.length)).toArray : Array Value).size = cap * sz := by
      simp only [List.size_toArray, List.length_append, List.length_drop, Array.length_toList]
      omega
    have q2 : ((xs ++ news ++ cur.toList.drop (n * sz + news.length)).toArray : Array Value).toList.take ((n + m) * sz) = xs ++ news := by
      have h2 : (xs ++ news).length = (n + m) * sz := by rw [List.length_append, hl1, hs.1, Nat.add_mul]
      rw [List.toList_toArray, ← h2, List.take_left']
      rfl
    refine ⟨_, _, _, L, ?_, hw'.write (xW (xs ++ news ++ cur.toList.drop (n * sz + news.length)).toArray) (setRow_heap w g cur _ e (0, 0) hg), k _ q1 q2⟩; simp only [execOp, resolve, invoke, builtin, Sem.run_bind, Sem.run_pure, Result.andThen_ok, List.map_toArray, List.map_cons, List.map_nil, ha.ev hx, ha.ev hy, hrun]
theorem r_make0 {t e : TypeId} {x y : Operand} {n sz bytes : Nat} {m : Int} (el : ElT c.P t e sz bytes) (hd : Nat.blt d c.n = true) (hx : ev fr x = some (int (0 : Nat))) (hy : ev fr y = some (int m)) (hm : m = (n : Int)) (hb : bytes * n ≤ 140737488355328) (hn : n ≤ 140737488355328)
    (k : ∀ g (cur : Array Value), cur.size = n * sz → HL c ops Q rest ((d, .slice (d9 g) 0 n) :: fr) ((g, .cells cur e (0, 0)) :: hp) L) : HL c ops Q (⟨some d, .makeSlice t x y, ty, pos, af, none⟩ :: rest) fr hp L := by
  obtain ⟨i, z, hi, hz, hsz, hby, hzs⟩ := el.i; refine wV (.cells (madeCells z.cells (n * i.size)) e (0, 0)) (fun g => .slice (d9 g) 0 n) rfl rfl hd (fun a w ha _ => ?_) (fun g => k g _ ?_)
  · subst hm
    have hb' : (i.bytes : Int) * (n : Int) ≤ 281474976710656 := by
      have h : ((i.bytes * n : Nat) : Int) ≤ 281474976710656 := by rw [hby]; omega
      rwa [Int.natCast_mul] at h
    have hr := run_make (P := c.P) w t e i z el.u hi hz .i64 .i64 ((0 : Nat) : Int) n (by omega) (by omega) hb' (by omega); simp only [Int.toNat_natCast] at hr; simp only [execOp, ha.ev hx, ha.ev hy, Sem.run_bind, hr, Result.andThen_ok, Sem.run_pure]
  rw [← hsz]
  simp [madeCells]
/-! ### Loops that leave marks -/
def AgainM {β : Type} (s : Sta β) (ds : β → List Nat) (μ : β → Nat) (m : Nat) (P : Program) (n : Nat) (b : Bx) (a : Act) (w : World) : Prop := ∃ y, s.inv y ∧ μ y < m ∧ Ok ⟨P, n, b, (ds y).map markOf, none⟩ a (s.fr y) ∧ WI b w (shutM (ds y) ++ s.hp y) (s.L y)
theorem pq3 {P : Program} {n : Nat} {b : Bx} {D : List Deferred} {β : Type} (s : Sta β) (ds : β → List Nat) (μ : β → Nat) {body : Code} (z0 : β) (hz0 : s.inv z0) (hD : D = (ds z0).map markOf) (h1 : FrSub fr (s.fr z0)) (h2 : (shutM (ds z0) ++ s.hp z0).Sublist hp) (h3 : LSub L (s.L z0))
    (round : ∀ z, s.inv z → HC ⟨P, n, b, (ds z).map markOf, none⟩ body (Exit.then (AgainM s ds μ (μ z) P n b) Q) (s.fr z) (shutM (ds z) ++ s.hp z) (s.L z)) : HC ⟨P, n, b, D, none⟩ (.loop body) Q fr hp L :=
  fun a w ha hw => wpIn_loop_ghost (fun m a w => ∃ y, μ y = m ∧ s.inv y ∧ Ok ⟨P, n, b, (ds y).map markOf, none⟩ a (s.fr y) ∧ WI b w (shutM (ds y) ++ s.hp y) (s.L y)) (μ z0) ⟨z0, rfl, hz0, by subst hD; exact ha.sub h1, hw.weak h2 h3.mem⟩
    fun m a w ⟨y, hm, hy, hok, hwi⟩ => wpIn_mono (round y hy a w hok hwi) fun e a w hq => by
      cases e <;> first | exact hq | (obtain ⟨z, hz, hlt, hok', hwi'⟩ := hq; exact ⟨μ z, by rw [← hm]; exact hlt, z, rfl, hz, hok', hwi'⟩)
theorem againM {P : Program} {n : Nat} {b : Bx} {D : List Deferred} {β : Type} (s : Sta β) {ds : β → List Nat} {μ : β → Nat} {m : Nat} (y : β) (hy : s.inv y) (hlt : μ y < m) (hD : D = (ds y).map markOf) (h1 : FrSub fr (s.fr y)) (h2 : (shutM (ds y) ++ s.hp y).Sublist hp) (h3 : LSub L (s.L y)) :
    HQ ⟨P, n, b, D, none⟩ (Exit.then (AgainM s ds μ m P n b) Q) .normal fr hp L :=
  fun _ _ ha hw => ⟨y, hy, hlt, by subst hD; exact ha.sub h1, hw.weak h2 h3.mem⟩
end
end Go.W
end
