/- More rules: results that are cells, lists of lasting facts. -/
import Derived.Test.YtlpgheniajdkfaaGreatWi
import Derived.Laws.Rows
import Derived.Deep.AppendSrc
import Derived.Deep.Upon
namespace Go.W
open Go Go.RowKit
set_option linter.unusedVariables false
set_option linter.unusedSimpArgs false

section
variable {c : Cx} {fr : Fr} {hp : Hp} {L : List Fact}
/-- A result that is a variable of several cells. -/
theorem ret_row {β : Type} {k : Con β} {fn : Func} {w0 : World} (x : β) {t : Tmp} {ty e : TypeId} {g n : Nat} {cs : Array Value} {fz : Nat × Nat} (hres : fn.results = #[.cell t ty]) (hv : lk fr t = some (.pointer (some ⟨g, 0, none⟩))) (ht : IsR c.P ty) (hz : Sz c.P ty n) (hn : cs.size = n)
    (hm : (g, Obj.cells cs e fz) ∈ hp) (hk : k.val x = .agg cs) (hb : c.b = k.entry w0) (hi : k.inv x) (h2 : (k.hpO x).Sublist hp) (h3 : LSub L (k.LO x)) (hD : c.D = [] := by rfl) : HQ c (bodyPost c.P fn (k.post w0)) .ret fr hp L :=
  ret_run x (fun a w ha hw => by
    obtain ⟨dd, ht, hr⟩ := ht
    have h1 := hw.own _ hm
    simp only at h1
    have hl : (loadVar ty ⟨g, 0, none⟩).run c.P w = .ok (.agg cs) w := by
      have hagg : (isAgg ty).run c.P w = .ok true w := by
        unfold isAgg
        rw [Sem.run_bind, run_underlying ht w]
        cases dd <;> simp_all [TypeDesc.isRow]
      have hc := run_loadCells_list (P := c.P) w ⟨g, 0, none⟩ cs.toList (fun j u hu => by rw [add_mk, Nat.zero_add]; simp at hu; simp [World.cell?, h1, hu])
      have hs := size_of hz w
      simp only [loadVar, Sem.run_bind, hagg, Result.andThen_ok, if_true, hs, ← hn]
      have e : cs.size = cs.toList.length := by simp
      rw [e, hc]
      simp
    have hv' := ha.at_ _ _ hv
    rw [hk]
    unfold results
    rw [hres]
    have hv2 : a.tmps[t]?.getD undef = .pointer (some ⟨g, 0, none⟩) := by simpa using hv'
    simp [hv2, asAddr, hl]) hb hi h2 h3 hD
end
section
variable {c : Cx} {Q : Exit → Act → World → Prop} {fr : Fr} {hp : Hp} {L : List Fact} {ops : Array Oper} {rest : List Oper}
variable {d : Tmp} {ty : TypeId} {pos : String} {af : Array Edge}
/-- A whole block that is known. -/
theorem r_loadB {t e : TypeId} {x : Operand} {g : Nat} {cs : Array Value} {fz : Nat × Nat} {n : Nat} (hd : Nat.blt d c.n = true) (ht' : IsR c.P t) (hz' : Sz c.P t n) (hx : ev fr x = some (.pointer (some ⟨g, 0, none⟩))) (h : Blk g (Obj.cells cs e fz) ∈ L) (hn : cs.size = n)
    (k : HL c ops Q rest ((d, .agg cs) :: fr) hp L) : HL c ops Q (⟨some d, .load t x, ty, pos, af, none⟩ :: rest) fr hp L :=
  r_loadS (cs := cs.toList) hd ht' hz' hx (by simpa using hn) (cells_blk h (fun i u hu => by simpa using hu)) k
end
section
variable {κ : Type} [DecidableEq κ] {enc : κ → Value} {kt e : TypeId}
variable {c : Cx} {Q : Exit → Act → World → Prop} {fr : Fr} {hp : Hp} {L : List Fact} {ops : Array Oper} {rest : List Oper}
variable {d : Tmp} {ty : TypeId} {pos : String} {af : Array Edge}
end
/-- Less is owned, in whatever order: by counting. -/
theorem sub_of_count {α : Type} {l' : List α} : ∀ {l : List α}, (∀ p : α → Bool, l'.countP p ≤ l.countP p) → ∃ r, l.Perm (l' ++ r) := by
  classical
  induction l' with
  | nil => intro l _; exact ⟨l, .refl _⟩
  | cons a t ih =>
    intro l h
    have h1 := h (fun x => decide (x = a))
    rw [List.countP_cons_of_pos (by simp)] at h1
    have ha : a ∈ l := by
      have : 0 < l.countP (fun x => decide (x = a)) := by omega
      obtain ⟨x, hx, e⟩ := List.countP_pos_iff.1 this
      simp at e
      exact e ▸ hx
    have hp := List.perm_cons_erase ha
    obtain ⟨r, hr⟩ := ih (l := l.erase a) (fun p => by
      have h2 := h p
      have h3 := hp.countP_eq p
      rw [List.countP_cons] at h2 h3
      omega)
    exact ⟨r, hp.trans (hr.cons a)⟩
theorem WI.count {b : Bx} {w : World} {hp hp' : Hp} {L L' : List Fact} (h : WI b w hp L) (hc : ∀ p : Nat × Obj → Bool, hp'.countP p ≤ hp.countP p) (h2 : ∀ F ∈ L', F ∈ L) : WI b w hp' L' := by
  obtain ⟨r, hr⟩ := sub_of_count hc
  exact (h.perm hr).weak (List.sublist_append_left _ _) h2
section
variable {c : Cx} {Q : Exit → Act → World → Prop} {fr : Fr} {hp : Hp} {L : List Fact} {ops : Array Oper} {rest : List Oper}
theorem hc_count {x : Code} (hp' : Hp) (h : ∀ p : Nat × Obj → Bool, hp'.countP p ≤ hp.countP p) (k : HC c x Q fr hp' L) : HC c x Q fr hp L := fun a w ha hw => k a w ha (hw.count h fun _ h => h)
end
section
variable {c : Cx} {Q : Exit → Act → World → Prop} {fr : Fr} {hp : Hp} {L : List Fact} {ops : Array Oper} {rest : List Oper}
/-- A block is let go, whole. -/
theorem wi_letgoB {b : Bx} {w : World} {g : Nat} {o : Obj} (h : WI b w ((g, o) :: hp) L) : WI b w hp (Blk g o :: L) := h.letgo (h.own (g, o) (by simp)) (fun k hk => hk)
theorem hc_letgoB {g : Nat} {o : Obj} {x : Code} (k : HC c x Q fr hp (Blk g o :: L)) : HC c x Q fr ((g, o) :: hp) L := fun a w ha hw => k a w ha (wi_letgoB hw)
end
/-- Some facts as one. -/
def Facts (Fs : List Fact) : Fact where
  P w := ∀ F ∈ Fs, F.P w
  fp k := ∃ F ∈ Fs, F.fp k
  st w w' h hP F hF := F.st w w' (fun k hk => h k ⟨F, hF, hk⟩) (hP F hF)
  lt w hP k hk := by obtain ⟨F, hF, hk⟩ := hk; exact F.lt w (hP F hF) k hk
section
variable {c : Cx} {Q : Exit → Act → World → Prop} {fr : Fr} {hp : Hp} {L : List Fact} {ops : Array Oper} {rest : List Oper}
theorem wi_pick {b : Bx} {w : World} {Fs : List Fact} {F : Fact} (h : Facts Fs ∈ L) (hF : F ∈ Fs) (hw : WI b w hp L) : WI b w hp (F :: L) := wi_more hw (hw.fs _ h F hF) (fun k hk => ⟨_, h, F, hF, hk⟩)
theorem hl_pick {Fs : List Fact} {F : Fact} (h : Facts Fs ∈ L) (hF : F ∈ Fs) (k : HL c ops Q rest fr hp (F :: L)) : HL c ops Q rest fr hp L := fun a w ha hw => k a w ha (wi_pick h hF hw)
/-- One fact more among them. -/
theorem wi_facts {b : Bx} {w : World} {Fs : List Fact} (h : ∀ F ∈ Fs, F ∈ L ∨ ∃ Gs, Facts Gs ∈ L ∧ F ∈ Gs) (hw : WI b w hp L) : WI b w hp (Facts Fs :: L) :=
  wi_more hw (fun F hF => by
    rcases h F hF with h1 | ⟨Gs, h1, h2⟩
    · exact hw.fs _ h1
    · exact hw.fs _ h1 F h2) (fun k hk => by
    obtain ⟨F, hF, hk⟩ := hk
    rcases h F hF with h1 | ⟨Gs, h1, h2⟩
    · exact ⟨F, h1, hk⟩
    · exact ⟨_, h1, F, h2, hk⟩)
theorem hl_facts {Fs : List Fact} (h : ∀ F ∈ Fs, F ∈ L ∨ ∃ Gs, Facts Gs ∈ L ∧ F ∈ Gs) (k : HL c ops Q rest fr hp (Facts Fs :: L)) : HL c ops Q rest fr hp L := fun a w ha hw => k a w ha (wi_facts h hw)
theorem hc_facts {Fs : List Fact} {x : Code} (h : ∀ F ∈ Fs, F ∈ L ∨ ∃ Gs, Facts Gs ∈ L ∧ F ∈ Gs) (k : HC c x Q fr hp (Facts Fs :: L)) : HC c x Q fr hp L := fun a w ha hw => k a w ha (wi_facts h hw)
theorem hq_facts {Fs : List Fact} {x : Exit} (h : ∀ F ∈ Fs, F ∈ L ∨ ∃ Gs, Facts Gs ∈ L ∧ F ∈ Gs) (k : HQ c Q x fr hp (Facts Fs :: L)) : HQ c Q x fr hp L := fun a w ha hw => k a w ha (wi_facts h hw)
end
section
variable {c : Cx} {Q : Exit → Act → World → Prop} {fr : Fr} {hp : Hp} {L : List Fact} {ops : Array Oper} {rest : List Oper}
/-- Nothing lies at nil. -/
theorem hq_nilrow {e : Exit} {α : Type} [El α] (k : HQ c Q e fr hp (Row none (rows ([] : List α)) :: L)) : HQ c Q e fr hp L := hq_more (F := Row none (rows ([] : List α))) (fun w _ => Row.nil _ w) (fun k hk => by obtain ⟨_, e, _⟩ := hk; cases e) k
theorem hl_nilrow {α : Type} [El α] (k : HL c ops Q rest fr hp (Row none (rows ([] : List α)) :: L)) : HL c ops Q rest fr hp L := hl_more (F := Row none (rows ([] : List α))) (fun w _ => Row.nil _ w) (fun k hk => by obtain ⟨_, e, _⟩ := hk; cases e) k
end
end Go.W
