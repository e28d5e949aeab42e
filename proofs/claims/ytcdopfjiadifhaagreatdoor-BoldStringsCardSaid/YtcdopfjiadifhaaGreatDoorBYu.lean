/- The statement BoldStrings: the card. -/
import Derived.Test.YtcdopfjiadifhaaGreatDoorBAt
import Derived.Test.YtcdopfjiadifhaaGreatDoorRows
import Derived.Test.YtcdopfjiadifhaaGreatDoorCards
import Derived.Test.YtcdopfjiadifhaaGreatDoorTie
import Derived.Conc.LeavingOf
import Derived.SevenTiedAt
import Derived.LaidLaws
import Derived.LaidHandle
import Derived.LaidSub
import Derived.Lib.LaidTab
namespace Go.Proofs.YtcdopfjiadifhaaGreatDoor.boldStringsDone
open Go Go.RowKit Go.ChangeShapes Go.WideShapes Go.ChangeMaps Go.W Go.Conc
open Go.ChangeMaps (open_string shut_string)
set_option linter.unusedVariables false
set_option linter.unusedSimpArgs false
theorem own : ownKnob Tryz.prog.godebug = none := by kernel_rfl
theorem laidOut : laidOutB Tryz.prog = true := by kernel_rfl
/-- The cells of a table, or of a table of pairs. -/
def cellsOf : DataW Unit → List Value
  | .agg ps => ps.flatMap fun | .lit (.int k z) => [.int k z] | .agg qs => qs.map (fun | .lit (.int k z) => .int k z | _ => .int .u8 0) | _ => [.int .u8 0]
  | _ => []
def textOf : DataW Unit → ByteArray
  | .iface _ (.ptr (.agg [.lit (.string s)])) => ⟨s.toArray⟩
  | _ => .empty
def lay (g : Nat) (vs : Array Value) (h : Array Obj) : Array Obj := h.modify g fun
  | .cells _ t fz => .cells vs t fz
  | o => o
noncomputable def low : Nat := (World.holding Tryz.prog default ⟨#[], #[], []⟩).heap.size
/-- A world in which the tables are laid. -/
noncomputable def laidWorld (os : Os) : World :=
  let w0 := World.holding Tryz.prog os ⟨#[.cells #[.string (textOf Rows.laid_strconv_ErrRange)] 249, .cells #[.string (textOf Rows.laid_strconv_ErrSyntax)] 249], #[], []⟩
  { w0 with heap := lay 0 (cellsOf Rows.laid_internal_strconv_uint64pow10).toArray (lay 2 (cellsOf Rows.laid_math_bits_deBruijn32tab).toArray (lay 3 (cellsOf Rows.laid_math_bits_deBruijn64tab).toArray (lay 7 (cellsOf Rows.laid_unicode_utf8_acceptRanges).toArray (lay 6 (cellsOf Rows.laid_unicode_utf8_first).toArray
    (lay 5 #[.iface 247 (.pointer (some ⟨low, 0, none⟩))] (lay 4 #[.iface 247 (.pointer (some ⟨low + 1, 0, none⟩))] w0.heap)))))) }
abbrev wit : Array Value := #[.agg #[.int .i64 0, .int .i64 0, .int .i64 0, .int .i64 0, .int .i64 0, .int .i64 0, .slice none 0 0, .slice none 0 0], .string ByteArray.empty, .slice none 0 0, .int .i64 0, .int .i64 0, .int .u8 0]
theorem byte_of {z : Int} (h : (Lit.int .u8 z).wf = true) : z = ((UInt8.ofNat z.toNat).toNat : Int) := by
  have h1 : (decide (IntKind.u8.min ≤ z) && decide (z ≤ IntKind.u8.max)) = true := h
  rw [Bool.and_eq_true, decide_eq_true_eq, decide_eq_true_eq] at h1
  have h2 : (0 : Int) ≤ z := h1.1
  have h3 : z ≤ 255 := h1.2
  rw [UInt8.toNat_ofNat']
  omega
theorem wq5 (os : Os) : laidMetH Tryz.prog Rows.boldStringsRow.laid ((laidWorld os).forCall (fun _ _ => 0) ⟨#[], wit, []⟩).memory :=
  laidMetH_of_parts (laidMet_of_run' 8 (by kernel_rfl) (by kernel_rfl)) (by kernel_rfl)
def pows : List Int := [1, 10, 100, 1000, 10000, 100000, 1000000, 10000000, 100000000, 1000000000, 10000000000, 100000000000, 1000000000000, 10000000000000, 100000000000000, 1000000000000000, 10000000000000000, 100000000000000000, 1000000000000000000, 10000000000000000000]
theorem pow_ty : (Tryz.prog.globals[0]?).map (·.type) = some 187 := by kernel_rfl
theorem pow_el : Tryz.prog.underlying 70 = some (.int .u64) := by kernel_rfl
theorem pow_ec : Tryz.prog.cellsOf 70 = 1 := by kernel_rfl
theorem pow_ct : Tryz.prog.cellsOf 187 = 20 := by decide +kernel
theorem tab {w : World} (h : laidMetH Tryz.prog Rows.boldStringsRow.laid w) : TAB.P w := by
  have h1 := h.filter (fun x => x.1 == "internal/strconv.uint64pow10")
  have h2 := (laidMetH_iff.1 h1).1
  have e : ((Rows.boldStringsRow.laid.filter (fun x => x.1 == "internal/strconv.uint64pow10")).filter fun x => x.2.handleName?.isNone) = [("internal/strconv.uint64pow10", Lib.tabData .u64 pows)] := by kernel_rfl
  rw [e] at h2
  have hg : Tryz.prog.globalNamed "internal/strconv.uint64pow10" = some 0 := by kernel_rfl
  have h3 := Lib.tabIs_of_head (t := 187) (n := 20) hg pow_ty Tryz.underlying187 pow_el pow_ec pow_ct h2
  intro j u hu
  refine ⟨_, rfl, ?_⟩
  match j, hu with
  | 0, hu => cases hu; exact h3.cell hg 0 (by decide)
  | 1, hu => cases hu; exact h3.cell hg 1 (by decide)
  | 2, hu => cases hu; exact h3.cell hg 2 (by decide)
  | 3, hu => cases hu; exact h3.cell hg 3 (by decide)
  | j + 4, hu => simp [powL] at hu
set_option maxRecDepth 100000 in
theorem runs {H : Type} {enc : TypeId × Value → H} (W : World) (base : Nat) (args : Array Value) (ds gs : List (DataW H)) (before : List MemPlace) (hval0 : ∀ (j : Nat) t v, Tryz.f3.params[j]? = some t → args[j]? = some v → Value.okWide Tryz.prog W .any base t v)
    (hW : DataW.Whole enc Tryz.prog Tryz.f3.params.toList Rows.boldStringsSpec.vars false W args.toList ds gs before) (hT : TAB.P W) :
    ∃ M last o w' t', runNT Tryz.checked.prog (M + 1) (solo (G (Frame.enter Tryz.checked.prog 3 args .normal) []) W) #[] = (.ended o w', t') ∧ runN Tryz.checked.prog M (solo (G (Frame.enter Tryz.checked.prog 3 args .normal) []) W) = .next last ∧
      step Tryz.checked.prog last = .ended o w' ∧ Conc.Good Tryz.checked.prog (fun v W' => Rows.boldStringsSpec.post enc Tryz.prog Tryz.f3 false true false false W args v W') last o w' t' := by
  have hval : ∀ (j : Nat) t v, Tryz.f3.params[j]? = some t → args[j]? = some v → Value.okWide Tryz.prog W .any base t v := hval0
  have hW' := hW
  obtain ⟨p, q, hA0, hV, rfl, _, _⟩ := hW
  have hA : DataW.TrodAll enc Tryz.prog W 0 (fun _ => true) true Tryz.f3.params.toList args.toList ds p := hA0
  rw [Tryz.params3] at hA hval
  obtain ⟨v0, vs0, d0, ds0, p0, q0, hargs, rfl, rfl, h0, r0⟩ := trodAll_cons hA
  obtain ⟨v1, vs1, d1, ds1, p1, q1, rfl, rfl, rfl, h1, r1⟩ := trodAll_cons r0
  obtain ⟨v2, vs2, d2, ds2, p2, q2, rfl, rfl, rfl, h2, r2⟩ := trodAll_cons r1
  obtain ⟨v3, vs3, d3, ds3, p3, q3, rfl, rfl, rfl, h3, r3⟩ := trodAll_cons r2
  obtain ⟨v4, vs4, d4, ds4, p4, q4, rfl, rfl, rfl, h4, r4⟩ := trodAll_cons r3
  obtain ⟨v5, vs5, d5, ds5, p5, q5, rfl, rfl, rfl, h5, r5⟩ := trodAll_cons r4
  obtain ⟨rfl, rfl, rfl⟩ := trodAll_nil r5
  obtain rfl : args = #[v0, v1, v2, v3, v4, v5] := by cases args; simp_all
  obtain ⟨rfl, rfl⟩ := trodVars_none hV
  obtain ⟨cells0, rfl, _⟩ := okWide_struct Tryz.underlying27 (hval 0 27 v0 rfl rfl)
  have k0 := h0
  have lt0 : ∀ x ∈ p0, x.block < W.heap.size := by obtain ⟨m, hm⟩ := k0; exact DataW.trod_lt m _ _ _ hm
  obtain ⟨l0, e0, hl0, hl0b, hr0, hr0b⟩ := wx2 (by obtain ⟨fuel, hf⟩ := h0; exact ⟨fuel, _, hf⟩)
  subst e0
  obtain ⟨b1, rfl, rfl, rfl, w1⟩ := open_string Tryz.underlying9 (hval 1 9 v1 rfl rfl) h1
  obtain ⟨a2, n2, c2, rfl⟩ := okWide_slice Tryz.underlying24 (hval 2 24 v2 rfl rfl)
  have k2 := h2
  have lt2 : ∀ x ∈ p2, x.block < W.heap.size := by obtain ⟨m, hm⟩ := k2; exact DataW.trod_lt m _ _ _ hm
  obtain ⟨l2, e2, hl2, hm2, hr2, hz2⟩ := (by obtain ⟨fuel, hf⟩ := h2; exact sz3 Tryz.underlying24 Tryz.underlying3 (by kernel_rfl) hf : ∃ l : List Int, n2 = l.length ∧ l.length ≤ c2 ∧ c2 ≤ maxLen ∧ (Row a2 (rows l)).P W ∧ ∀ z ∈ l, I64 z)
  subst e2
  unfold maxLen at hm2
  obtain ⟨z3, rfl, rfl, rfl, w3⟩ := open_int Tryz.underlying3 (hval 3 3 v3 rfl rfl) h3
  obtain ⟨z4, rfl, rfl, rfl, w4⟩ := open_int Tryz.underlying3 (hval 4 3 v4 rfl rfl) h4
  obtain ⟨z5, rfl, rfl, rfl, w5⟩ := open_int Tryz.underlying5 (hval 5 5 v5 rfl rfl) h5
  clear hA0 hval0
  obtain ⟨bb, rfl⟩ : ∃ bb : UInt8, z5 = (bb.toNat : Int) := ⟨UInt8.ofNat z5.toNat, byte_of w5⟩
  obtain ⟨M, last, o, w', t', r1, r2, r3, r4⟩ := run_of (t := 12) Tryz.func3 rfl (by kernel_rfl) (uj0 (sU l0 b1.data.toList l2 (by omega) z3 z4 bb) (fun F hF => by simp only [List.mem_cons, List.not_mem_nil, or_false] at hF; rcases hF with rfl | rfl | rfl | rfl <;> assumption)) (fun v w d h => ⟨h.1, ⟨h.2.os, h.2.tape, h.2.output, h.2.size, h.2.block⟩⟩)
  refine ⟨M, last, o, w', t', r1, r2, r3, r4.mono fun e hF => ?_⟩
  obtain ⟨he, bel⟩ := hF
  subst he
  exact ⟨_, _, _, [], _, [], hW', trodAll_mk1 (shut_bool Tryz.underlying4 _), (trodAll_cons_mk (Below.trod laidOut (by kernel_rfl) (of_decide_eq_true (by kernel_rfl)) k0 bel lt0) (trodAll_cons_mk (shut_string Tryz.underlying9 w1) (trodAll_cons_mk (Below.trod laidOut (by kernel_rfl) (of_decide_eq_true (by kernel_rfl)) k2 bel lt2) (trodAll_cons_mk (shut_int Tryz.underlying3 w3) (trodAll_cons_mk (shut_int Tryz.underlying3 w4) (trodAll_cons_mk (shut_int Tryz.underlying5 w5) trodAll_mk0)))))), rfl, bel.frame _, fun h => by cases h⟩
set_option maxRecDepth 100000 in
theorem lifted (os : Os) (started : os.Started) (H : Type) (enc : TypeId × Value → H) :
    ReturnsInLeavingWide {} Tryz.checked os 3 .any (fun w args => (Rows.boldStringsSpec.pre enc Tryz.prog Tryz.f3 Rows.boldStringsRow.domain false w args ∧ laidMetH Tryz.prog Rows.boldStringsRow.laid w) ∧ sizedMet enc Tryz.prog Tryz.f3 (OpenSpec.ofChange Rows.boldStringsSpec) false w args) (Rows.boldStringsSpec.post enc Tryz.prog Tryz.f3 false true false false) := by
  refine returnsInLeavingWide_of_good (C := Tryz.checked) own started (ChangeSpec.witness_at (enc := enc) (C := Tryz.checked) (os := os) (X := fun w _ => laidMetH Tryz.prog Rows.boldStringsRow.laid w) false (laidWorld os) wit 8 rfl (by kernel_rfl) (by kernel_rfl) (by kernel_rfl) (by kernel_rfl) (by kernel_rfl) (wq5 os)) ?_
  intro w tape i _ _ _ hok hpre _
  obtain ⟨_, _, _, fn', hfn', _, _, _, _, hval⟩ := hok
  have e : fn' = Tryz.f3 := Option.some.inj (hfn'.symm.trans Tryz.func3)
  subst e
  obtain ⟨⟨⟨ds, gs, before, hw, hc⟩, hl⟩, _⟩ := hpre
  obtain ⟨M, last, o, w', t', h1, h2, h3, h4⟩ := runs (w.forCall tape i) w.heap.size i.args ds gs before hval (DataW.Whole.of_heap (w' := w.forCall tape i) (by rfl) hw) (show TAB.P (w.forCall tape i) from tab (w := (w.forCall tape i).memory) hl)
  exact ⟨M, last, o, w', t', h1, h2, h3, h4.mono fun v hp => ChangeSpec.post_blind hp⟩
theorem said : Rows.BoldStringsSaid :=
  OpenClaim.holds_of_wide_leaving 3 Tryz.f3 rfl rfl rfl rfl rfl rfl rfl ⟨rfl, rfl, rfl, rfl, rfl⟩ rfl rfl rfl rfl rfl (by kernel_rfl) Tryz.func3 (by kernel_rfl)
    (of_decide_eq_true (by kernel_rfl)) (by unfold Func.isWrapper; first | (rw [if_pos (by decide +kernel)]; kernel_rfl) | (rw [if_neg (by decide +kernel)]; exact ⟨rfl, rfl⟩))
    (fun os started H enc _ => lifted os started H enc)
theorem looks (f : FuncId) (fn : Func) (hf : Tryz.pinned.checked.prog.funcNamed Rows.boldStringsRow.func = some f) (hfn : Tryz.pinned.checked.prog.funcs[f]? = some fn) : true = Tryz.pinned.checked.prog.looks [] ∧ ∀ (j : Nat) t, fn.params[j]? = some t → Tryz.pinned.checked.prog.wantsStandIn t = false := by
  obtain rfl : f = 3 := Option.some.inj ((show Tryz.prog.funcNamed "wayzgoose/wayzgooselaw09.BoldStrings" = some 3 by kernel_rfl).symm.trans hf) |>.symm
  obtain rfl : fn = Tryz.f3 := (Option.some.inj (Tryz.func3.symm.trans hfn)).symm
  refine ⟨by kernel_rfl, fun j t ht => ?_⟩
  rw [Tryz.params3] at ht
  have h := Array.mem_of_getElem? ht
  simp at h
  have hw : ∀ t, t = 27 ∨ t = 9 ∨ t = 24 ∨ t = 3 ∨ t = 5 → Tryz.prog.wantsStandIn t = false := by
    intro t ht
    rcases ht with rfl | rfl | rfl | rfl | rfl
    · exact (show Tryz.prog.wantsStandIn 27 = false by kernel_rfl)
    · exact (show Tryz.prog.wantsStandIn 9 = false by kernel_rfl)
    · exact (show Tryz.prog.wantsStandIn 24 = false by kernel_rfl)
    · exact (show Tryz.prog.wantsStandIn 3 = false by kernel_rfl)
    · exact (show Tryz.prog.wantsStandIn 5 = false by kernel_rfl)
  exact hw t (by omega)
theorem proved : Rows.BoldStringsCardSaid :=
  ⟨Claim7.tied_new_at .later [.data, .data, .data, .data, .sentinel, .sentinel, .pinned] true (Claim7.new_of_sixth said (true, "5dda9c9c1b768fe5f3ea25ff92074e9828ea7ba45ed75f67d6ea6ac042e0e637") true rfl ⟨rfl, rfl⟩ (by kernel_rfl) (by simp [Claim7.isSixth]) looks) (by kernel_rfl), (fun _ h => by cases h), boldStrings_row_tie, (fun h => by cases h), by kernel_rfl⟩
#print axioms proved
end Go.Proofs.YtcdopfjiadifhaaGreatDoor.boldStringsDone
