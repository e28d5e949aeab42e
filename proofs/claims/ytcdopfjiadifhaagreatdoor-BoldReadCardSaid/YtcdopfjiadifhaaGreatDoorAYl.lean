/- The statement BoldRead: the card. -/
import Derived.Test.YtcdopfjiadifhaaGreatDoorAAt
import Derived.Test.YtcdopfjiadifhaaGreatDoorAAs
import Derived.Test.YtcdopfjiadifhaaGreatDoorRows
import Derived.Test.YtcdopfjiadifhaaGreatDoorCards
import Derived.Test.YtcdopfjiadifhaaGreatDoorTie
import Derived.Conc.LeavingOf
import Derived.SevenTiedAt
import Derived.LaidLaws
import Derived.LaidHandle
import Derived.LaidSub
import Derived.Lib.LaidTab
namespace Go.Proofs.YtcdopfjiadifhaaGreatDoor.boldReadDone
open Go Go.RowKit Go.ChangeShapes Go.WideShapes Go.ChangeMaps Go.W Go.Conc
open Go.ChangeMaps (open_string shut_string)
set_option linter.unusedVariables false
set_option linter.unusedSimpArgs false
theorem own : ownKnob Tryz.prog.godebug = none := by kernel_rfl
theorem laidOut : laidOutB Tryz.prog = true := by kernel_rfl
/-- The cells of a table, or of a table of pairs. -/
def cellsOf : DataW Unit → List Value
  | .agg ps => ps.flatMap fun | .lit (.int k z) => [.int k z] | .agg qs => qs.map (fun | .lit (.int k z) => .int k z | _ => .int .u8 0) | _ => [.int .u8 0]
  | _ => []
def textOf : DataW Unit → ByteArray
  | .iface _ (.ptr (.agg [.lit (.string s)])) => ⟨s.toArray⟩
  | _ => .empty
def lay (g : Nat) (vs : Array Value) (h : Array Obj) : Array Obj := h.modify g fun
  | .cells _ t fz => .cells vs t fz
  | o => o
noncomputable def low : Nat := (World.holding Tryz.prog default ⟨#[], #[], []⟩).heap.size
/-- A world in which the tables are laid. -/
noncomputable def laidWorld (os : Os) : World :=
  let w0 := World.holding Tryz.prog os ⟨#[.cells #[.string (textOf Rows.laid_strconv_ErrRange)] 249, .cells #[.string (textOf Rows.laid_strconv_ErrSyntax)] 249], #[], []⟩
  { w0 with heap := lay 0 (cellsOf Rows.laid_internal_strconv_uint64pow10).toArray (lay 2 (cellsOf Rows.laid_math_bits_deBruijn32tab).toArray (lay 3 (cellsOf Rows.laid_math_bits_deBruijn64tab).toArray (lay 7 (cellsOf Rows.laid_unicode_utf8_acceptRanges).toArray (lay 6 (cellsOf Rows.laid_unicode_utf8_first).toArray
    (lay 5 #[.iface 247 (.pointer (some ⟨low, 0, none⟩))] (lay 4 #[.iface 247 (.pointer (some ⟨low + 1, 0, none⟩))] w0.heap)))))) }
abbrev wit : Array Value := #[.slice none 0 0, .string ByteArray.empty]
theorem tq6 (os : Os) : laidMetH Tryz.prog Rows.boldReadRow.laid ((laidWorld os).forCall (fun _ _ => 0) ⟨#[], wit, []⟩).memory :=
  laidMetH_of_parts (laidMet_of_run' 8 (by kernel_rfl) (by kernel_rfl)) (by kernel_rfl)
def pows : List Int := [1, 10, 100, 1000, 10000, 100000, 1000000, 10000000, 100000000, 1000000000, 10000000000, 100000000000, 1000000000000, 10000000000000, 100000000000000, 1000000000000000, 10000000000000000, 100000000000000000, 1000000000000000000, 10000000000000000000]
theorem pow_ty : (Tryz.prog.globals[0]?).map (·.type) = some 187 := by kernel_rfl
theorem pow_el : Tryz.prog.underlying 70 = some (.int .u64) := by kernel_rfl
theorem pow_ec : Tryz.prog.cellsOf 70 = 1 := by kernel_rfl
theorem pow_ct : Tryz.prog.cellsOf 187 = 20 := by decide +kernel
theorem tab {w : World} (h : laidMetH Tryz.prog Rows.boldReadRow.laid w) : TAB.P w := by
  have h1 := h.filter (fun x => x.1 == "internal/strconv.uint64pow10")
  have h2 := (laidMetH_iff.1 h1).1
  have e : ((Rows.boldReadRow.laid.filter (fun x => x.1 == "internal/strconv.uint64pow10")).filter fun x => x.2.handleName?.isNone) = [("internal/strconv.uint64pow10", Lib.tabData .u64 pows)] := by kernel_rfl
  rw [e] at h2
  have hg : Tryz.prog.globalNamed "internal/strconv.uint64pow10" = some 0 := by kernel_rfl
  have h3 := Lib.tabIs_of_head (t := 187) (n := 20) hg pow_ty Tryz.underlying187 pow_el pow_ec pow_ct h2
  intro j u hu
  refine ⟨_, rfl, ?_⟩
  match j, hu with
  | 0, hu => cases hu; exact h3.cell hg 0 (by decide)
  | 1, hu => cases hu; exact h3.cell hg 1 (by decide)
  | 2, hu => cases hu; exact h3.cell hg 2 (by decide)
  | 3, hu => cases hu; exact h3.cell hg 3 (by decide)
  | j + 4, hu => simp [powL] at hu
set_option maxRecDepth 100000 in
theorem runs {H : Type} {enc : TypeId × Value → H} (W : World) (base : Nat) (args : Array Value) (ds gs : List (DataW H)) (before : List MemPlace) (hval0 : ∀ (j : Nat) t v, Tryz.f4.params[j]? = some t → args[j]? = some v → Value.okWide Tryz.prog W .any base t v)
    (hW : DataW.Whole enc Tryz.prog Tryz.f4.params.toList Rows.boldReadSpec.vars false W args.toList ds gs before) (hT : TAB.P W) :
    ∃ M last o w' t', runNT Tryz.checked.prog (M + 1) (solo (G (Frame.enter Tryz.checked.prog 4 args .normal) []) W) #[] = (.ended o w', t') ∧ runN Tryz.checked.prog M (solo (G (Frame.enter Tryz.checked.prog 4 args .normal) []) W) = .next last ∧
      step Tryz.checked.prog last = .ended o w' ∧ Conc.Good Tryz.checked.prog (fun v W' => Rows.boldReadSpec.post enc Tryz.prog Tryz.f4 false true false false W args v W') last o w' t' := by
  have hval : ∀ (j : Nat) t v, Tryz.f4.params[j]? = some t → args[j]? = some v → Value.okWide Tryz.prog W .any base t v := hval0
  have hW' := hW
  obtain ⟨p, q, hA0, hV, rfl, _, _⟩ := hW
  have hA : DataW.TrodAll enc Tryz.prog W 0 (fun _ => true) true Tryz.f4.params.toList args.toList ds p := hA0
  rw [Tryz.params4] at hA hval
  obtain ⟨v0, vs0, d0, ds0, p0, q0, hargs, rfl, rfl, h0, r0⟩ := trodAll_cons hA
  obtain ⟨v1, vs1, d1, ds1, p1, q1, rfl, rfl, rfl, h1, r1⟩ := trodAll_cons r0
  obtain ⟨rfl, rfl, rfl⟩ := trodAll_nil r1
  obtain rfl : args = #[v0, v1] := by cases args; simp_all
  obtain ⟨rfl, rfl⟩ := trodVars_none hV
  obtain ⟨a0, n0, c0, rfl⟩ := okWide_slice Tryz.underlying24 (hval 0 24 v0 rfl rfl)
  have k0 := h0
  have lt0 : ∀ x ∈ p0, x.block < W.heap.size := by obtain ⟨m, hm⟩ := k0; exact DataW.trod_lt m _ _ _ hm
  obtain ⟨l0, e0, hl0, hm0, hr0, hz0⟩ := (by obtain ⟨fuel, hf⟩ := h0; exact in_ints Tryz.underlying24 Tryz.underlying3 (by kernel_rfl) hf : ∃ l : List Int, n0 = l.length ∧ l.length ≤ c0 ∧ c0 ≤ maxLen ∧ (Row a0 (rows l)).P W ∧ ∀ z ∈ l, I64 z)
  subst e0
  unfold maxLen at hm0
  obtain ⟨b1, rfl, rfl, rfl, w1⟩ := open_string Tryz.underlying9 (hval 1 9 v1 rfl rfl) h1
  clear hA0 hval0
  obtain ⟨M, last, o, w', t', r1, r2, r3, r4⟩ := run_of (t := 4) Tryz.func4 rfl (by kernel_rfl) (rj6 (qZ l0 (by omega) b1.data.toList) (fun F hF => by simp only [List.mem_cons, List.not_mem_nil, or_false] at hF; rcases hF with rfl | rfl <;> assumption)) (fun v w d h => ⟨h.1, ⟨h.2.os, h.2.tape, h.2.output, h.2.size, h.2.block⟩⟩)
  refine ⟨M, last, o, w', t', r1, r2, r3, r4.mono fun e hF => ?_⟩
  obtain ⟨he, bel⟩ := hF
  subst he
  exact ⟨_, _, _, [], _, [], hW', trodAll_mk1 (shut_bool Tryz.underlying4 _), (trodAll_cons_mk (Below.trod laidOut (by kernel_rfl) (of_decide_eq_true (by kernel_rfl)) k0 bel lt0) (trodAll_cons_mk (shut_string Tryz.underlying9 w1) trodAll_mk0)), rfl, bel.frame _, fun h => by cases h⟩
set_option maxRecDepth 100000 in
theorem lifted (os : Os) (started : os.Started) (H : Type) (enc : TypeId × Value → H) :
    ReturnsInLeavingWide {} Tryz.checked os 4 .any (fun w args => (Rows.boldReadSpec.pre enc Tryz.prog Tryz.f4 Rows.boldReadRow.domain false w args ∧ laidMetH Tryz.prog Rows.boldReadRow.laid w) ∧ sizedMet enc Tryz.prog Tryz.f4 (OpenSpec.ofChange Rows.boldReadSpec) false w args) (Rows.boldReadSpec.post enc Tryz.prog Tryz.f4 false true false false) := by
  refine returnsInLeavingWide_of_good (C := Tryz.checked) own started (ChangeSpec.witness_at (enc := enc) (C := Tryz.checked) (os := os) (X := fun w _ => laidMetH Tryz.prog Rows.boldReadRow.laid w) false (laidWorld os) wit 8 rfl (by kernel_rfl) (by kernel_rfl) (by kernel_rfl) (by kernel_rfl) (by kernel_rfl) (tq6 os)) ?_
  intro w tape i _ _ _ hok hpre _
  obtain ⟨_, _, _, fn', hfn', _, _, _, _, hval⟩ := hok
  have e : fn' = Tryz.f4 := Option.some.inj (hfn'.symm.trans Tryz.func4)
  subst e
  obtain ⟨⟨⟨ds, gs, before, hw, hc⟩, hl⟩, _⟩ := hpre
  obtain ⟨M, last, o, w', t', h1, h2, h3, h4⟩ := runs (w.forCall tape i) w.heap.size i.args ds gs before hval (DataW.Whole.of_heap (w' := w.forCall tape i) (by rfl) hw) (show TAB.P (w.forCall tape i) from tab (w := (w.forCall tape i).memory) hl)
  exact ⟨M, last, o, w', t', h1, h2, h3, h4.mono fun v hp => ChangeSpec.post_blind hp⟩
theorem said : Rows.BoldReadSaid :=
  OpenClaim.holds_of_wide_leaving 4 Tryz.f4 rfl rfl rfl rfl rfl rfl rfl ⟨rfl, rfl, rfl, rfl, rfl⟩ rfl rfl rfl rfl rfl (by kernel_rfl) Tryz.func4 (by kernel_rfl)
    (of_decide_eq_true (by kernel_rfl)) (by unfold Func.isWrapper; first | (rw [if_pos (by decide +kernel)]; kernel_rfl) | (rw [if_neg (by decide +kernel)]; exact ⟨rfl, rfl⟩))
    (fun os started H enc _ => lifted os started H enc)
theorem looks (f : FuncId) (fn : Func) (hf : Tryz.pinned.checked.prog.funcNamed Rows.boldReadRow.func = some f) (hfn : Tryz.pinned.checked.prog.funcs[f]? = some fn) : true = Tryz.pinned.checked.prog.looks [] ∧ ∀ (j : Nat) t, fn.params[j]? = some t → Tryz.pinned.checked.prog.wantsStandIn t = false := by
  obtain rfl : f = 4 := Option.some.inj ((show Tryz.prog.funcNamed "wayzgoose/wayzgooselaw09.BoldRead" = some 4 by kernel_rfl).symm.trans hf) |>.symm
  obtain rfl : fn = Tryz.f4 := (Option.some.inj (Tryz.func4.symm.trans hfn)).symm
  refine ⟨by kernel_rfl, fun j t ht => ?_⟩
  rw [Tryz.params4] at ht
  have h := Array.mem_of_getElem? ht
  simp at h
  rcases h with rfl | rfl
  · exact (show Tryz.prog.wantsStandIn 24 = false by kernel_rfl)
  · exact (show Tryz.prog.wantsStandIn 9 = false by kernel_rfl)
theorem proved : Rows.BoldReadCardSaid :=
  ⟨Claim7.tied_new_at .later [.data, .data, .data, .data, .sentinel, .sentinel, .pinned] true (Claim7.new_of_sixth said (true, "5dda9c9c1b768fe5f3ea25ff92074e9828ea7ba45ed75f67d6ea6ac042e0e637") true rfl ⟨rfl, rfl⟩ (by kernel_rfl) (by simp [Claim7.isSixth]) looks) (by kernel_rfl), (fun _ h => by cases h), boldRead_row_tie, (fun h => by cases h), by kernel_rfl⟩
#print axioms proved
end Go.Proofs.YtcdopfjiadifhaaGreatDoor.boldReadDone
