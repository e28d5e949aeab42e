/- The statement ProofKnown: the card. -/
import Derived.Test.YtpfbbggmcbhboaaGreatDoorAAr
import Derived.Test.YtpfbbggmcbhboaaGreatDoorRows
import Derived.Test.YtpfbbggmcbhboaaGreatDoorCards
import Derived.Test.YtpfbbggmcbhboaaGreatDoorTie
import Derived.Conc.LeavingOf
import Derived.SevenTiedAt
import Derived.LaidLaws
import Derived.LaidHandle
import Derived.LaidSub
import Derived.Lib.LaidTab
namespace Go.Proofs.YtpfbbggmcbhboaaGreatDoor.proofKnownDone
open Go Go.RowKit Go.ChangeShapes Go.WideShapes Go.ChangeMaps Go.W Go.Conc
open Go.ChangeMaps (open_string shut_string)
set_option linter.unusedVariables false
set_option linter.unusedSimpArgs false
theorem own : ownKnob Tryz.prog.godebug = none := by kernel_rfl
/-- The cells of a table, or of a table of pairs. -/
def cellsOf : DataW Unit → List Value
  | .agg ps => ps.flatMap fun | .lit (.int k z) => [.int k z] | .agg qs => qs.map (fun | .lit (.int k z) => .int k z | _ => .int .u8 0) | _ => [.int .u8 0]
  | _ => []
def textOf : DataW Unit → ByteArray
  | .iface _ (.ptr (.agg [.lit (.string s)])) => ⟨s.toArray⟩
  | _ => .empty
def lay (g : Nat) (vs : Array Value) (h : Array Obj) : Array Obj := h.modify g fun
  | .cells _ t fz => .cells vs t fz
  | o => o
noncomputable def low : Nat := (World.holding Tryz.prog default ⟨#[], #[], []⟩).heap.size
/-- A world in which the tables are laid. -/
noncomputable def laidWorld (os : Os) : World :=
  let w0 := World.holding Tryz.prog os ⟨#[.cells #[.string (textOf Rows.laid_strconv_ErrRange)] 226, .cells #[.string (textOf Rows.laid_strconv_ErrSyntax)] 226], #[], []⟩
  { w0 with heap := lay 0 (cellsOf Rows.laid_internal_strconv_uint64pow10).toArray (lay 2 (cellsOf Rows.laid_math_bits_deBruijn32tab).toArray (lay 3 (cellsOf Rows.laid_math_bits_deBruijn64tab).toArray (lay 7 (cellsOf Rows.laid_unicode_utf8_acceptRanges).toArray (lay 6 (cellsOf Rows.laid_unicode_utf8_first).toArray
    (lay 5 #[.iface 224 (.pointer (some ⟨low, 0, none⟩))] (lay 4 #[.iface 224 (.pointer (some ⟨low + 1, 0, none⟩))] w0.heap)))))) }
theorem rx0 (os : Os) (args : Array Value) : laidMetH Tryz.prog Rows.proofKnownRow.laid ((laidWorld os).forCall (fun _ _ => 0) ⟨#[], args, []⟩).memory :=
  laidMetH_of_parts (laidMet_of_run' 8 (by kernel_rfl) (by kernel_rfl)) (by kernel_rfl)
theorem runs {H : Type} {enc : TypeId × Value → H} (W : World) (args : Array Value) (ds gs : List (DataW H)) (before : List MemPlace) (hW : DataW.Whole enc Tryz.prog Tryz.f3.params.toList Rows.proofKnownSpec.vars false W args.toList ds gs before) :
    ∃ M last o w' t', runNT Tryz.checked.prog (M + 1) (solo (G (Frame.enter Tryz.checked.prog 3 args .normal) []) W) #[] = (.ended o w', t') ∧ runN Tryz.checked.prog M (solo (G (Frame.enter Tryz.checked.prog 3 args .normal) []) W) = .next last ∧
      step Tryz.checked.prog last = .ended o w' ∧ Conc.Good Tryz.checked.prog (fun v W' => Rows.proofKnownSpec.post enc Tryz.prog Tryz.f3 false true false false W args v W') last o w' t' := by
  have hW' := hW
  obtain ⟨p, q, hA0, hV, rfl, _, _⟩ := hW
  have hA : DataW.TrodAll enc Tryz.prog W 0 (fun _ => true) true Tryz.f3.params.toList args.toList ds p := hA0
  rw [Tryz.params3] at hA
  obtain ⟨hargs, rfl, rfl⟩ := trodAll_nil hA
  obtain rfl : args = #[] := by cases args; simp_all
  obtain ⟨rfl, rfl⟩ := trodVars_none hV
  obtain ⟨M, last, o, w', t', r1, r2, r3, r4⟩ := run_of (t := 0) Tryz.func3 rfl (by kernel_rfl) (pj1 qU (fun F hF => by simp at hF)) (fun v w d h => ⟨h.1, ⟨h.2.os, h.2.tape, h.2.output, h.2.size, h.2.block⟩⟩)
  refine ⟨M, last, o, w', t', r1, r2, r3, r4.mono fun e hF => ?_⟩
  obtain ⟨he, bel⟩ := hF
  subst he
  exact ⟨_, _, _, [], _, [], hW', trodAll_mk1 (shut_bool Tryz.underlying4 _), trodAll_mk0, rfl, bel.frame _, fun h => by cases h⟩
set_option maxRecDepth 100000 in
theorem lifted (os : Os) (started : os.Started) (H : Type) (enc : TypeId × Value → H) :
    ReturnsInLeavingWide {} Tryz.checked os 3 .any (fun w args => (Rows.proofKnownSpec.pre enc Tryz.prog Tryz.f3 Rows.proofKnownRow.domain false w args ∧ laidMetH Tryz.prog Rows.proofKnownRow.laid w) ∧ sizedMet enc Tryz.prog Tryz.f3 (OpenSpec.ofChange Rows.proofKnownSpec) false w args) (Rows.proofKnownSpec.post enc Tryz.prog Tryz.f3 false true false false) := by
  refine returnsInLeavingWide_of_good (C := Tryz.checked) own started (ChangeSpec.witness_at (enc := enc) (C := Tryz.checked) (os := os) (X := fun w _ => laidMetH Tryz.prog Rows.proofKnownRow.laid w) false (laidWorld os) #[] 8 rfl (by kernel_rfl) (by kernel_rfl) (by kernel_rfl) (by kernel_rfl) (by kernel_rfl) (rx0 os _)) ?_
  intro w tape i _ _ _ _ hpre _
  obtain ⟨⟨⟨ds, gs, before, hw, hc⟩, _⟩, _⟩ := hpre
  obtain ⟨M, last, o, w', t', h1, h2, h3, h4⟩ := runs (w.forCall tape i) i.args ds gs before (DataW.Whole.of_heap (w' := w.forCall tape i) (by rfl) hw)
  exact ⟨M, last, o, w', t', h1, h2, h3, h4.mono fun v hp => ChangeSpec.post_blind hp⟩
theorem said : Rows.ProofKnownSaid :=
  OpenClaim.holds_of_wide_leaving 3 Tryz.f3 rfl rfl rfl rfl rfl rfl rfl ⟨rfl, rfl, rfl, rfl, rfl⟩ rfl rfl rfl rfl rfl (by kernel_rfl) Tryz.func3 (by kernel_rfl)
    (of_decide_eq_true (by kernel_rfl)) (by unfold Func.isWrapper; first | (rw [if_pos (by decide +kernel)]; kernel_rfl) | (rw [if_neg (by decide +kernel)]; exact ⟨rfl, rfl⟩))
    (fun os started H enc _ => lifted os started H enc)
theorem looks (f : FuncId) (fn : Func) (hf : Tryz.pinned.checked.prog.funcNamed Rows.proofKnownRow.func = some f) (hfn : Tryz.pinned.checked.prog.funcs[f]? = some fn) : true = Tryz.pinned.checked.prog.looks [] ∧ ∀ (j : Nat) t, fn.params[j]? = some t → Tryz.pinned.checked.prog.wantsStandIn t = false := by
  obtain rfl : f = 3 := Option.some.inj ((show Tryz.prog.funcNamed "wayzgoose/wayzgooselaw07.ProofKnown" = some 3 by kernel_rfl).symm.trans hf) |>.symm
  obtain rfl : fn = Tryz.f3 := (Option.some.inj (Tryz.func3.symm.trans hfn)).symm
  exact ⟨by kernel_rfl, fun j t ht => by rw [Tryz.params3] at ht; simp at ht⟩
theorem proved : Rows.ProofKnownCardSaid :=
  ⟨Claim7.tied_new_at .later [.data, .data, .data, .data, .sentinel, .sentinel, .pinned] true (Claim7.new_of_sixth said (true, "4d9f98f733752df766d716948632cf9458fba3906f88bdb964f4f16fa2353978") true rfl ⟨rfl, rfl⟩ (by kernel_rfl) (by simp [Claim7.isSixth]) looks) (by kernel_rfl), (fun _ h => by cases h), proofKnown_row_tie, (fun h => by cases h), by kernel_rfl⟩
#print axioms proved
end Go.Proofs.YtpfbbggmcbhboaaGreatDoor.proofKnownDone
