/- BoldKnown: the card. -/
import Derived.Test.YtmpfpfbcejfijaaGreatDoorAAr
import Derived.Test.YtmpfpfbcejfijaaGreatDoorRows
import Derived.Test.YtmpfpfbcejfijaaGreatDoorCards
import Derived.Test.YtmpfpfbcejfijaaGreatDoorTie
import Derived.Conc.LeavingOf
import Derived.SevenTiedAt
import Derived.LaidLaws
import Derived.LaidHandle
namespace Go.Proofs.YtmpfpfbcejfijaaGreatDoor.boldKnownDone
open Go Go.RowKit Go.ChangeShapes Go.WideShapes Go.ChangeMaps Go.W Go.Conc
open Go.ChangeMaps (open_string shut_string)
set_option linter.unusedVariables false
set_option linter.unusedSimpArgs false
theorem own : ownKnob Tryz.prog.godebug = none := by kernel_rfl
/-- The cells of a list of numbers. -/
def cellsOf : DataW Unit → Array Value
  | .agg ps => (ps.map fun | .lit (.int k z) => .int k z | _ => .int .u8 0).toArray
  | _ => #[]
def lay (g : Nat) (d : DataW Unit) (h : Array Obj) : Array Obj := h.modify g fun
  | .cells _ t fz => .cells (cellsOf d) t fz
  | o => o
/-- A world in which the tables are laid. -/
noncomputable def laidWorld (os : Os) : World :=
  let w0 := World.holding Tryz.prog os ⟨#[], #[], []⟩
  { w0 with heap := lay 0 Rows.laid_internal_strconv_uint64pow10 (lay 1 Rows.laid_math_bits_deBruijn32tab (lay 2 Rows.laid_math_bits_deBruijn64tab w0.heap)) }
theorem lx8 (os : Os) (args : Array Value) : laidMetH Tryz.prog Rows.boldKnownRow.laid ((laidWorld os).forCall (fun _ _ => 0) ⟨#[], args, []⟩).memory :=
  laidMetH_of_parts (laidMet_of_run' 8 (by kernel_rfl) (by kernel_rfl)) (by kernel_rfl)
theorem runs {H : Type} {enc : TypeId × Value → H} (W : World) (args : Array Value) (ds gs : List (DataW H)) (before : List MemPlace) (hW : DataW.Whole enc Tryz.prog Tryz.f3.params.toList Rows.boldKnownSpec.vars false W args.toList ds gs before) :
    ∃ M last o w' t', runNT Tryz.checked.prog (M + 1) (solo (G (Frame.enter Tryz.checked.prog 3 args .normal) []) W) #[] = (.ended o w', t') ∧ runN Tryz.checked.prog M (solo (G (Frame.enter Tryz.checked.prog 3 args .normal) []) W) = .next last ∧
      step Tryz.checked.prog last = .ended o w' ∧ Conc.Good Tryz.checked.prog (fun v W' => Rows.boldKnownSpec.post enc Tryz.prog Tryz.f3 false true false false W args v W') last o w' t' := by
  have hW' := hW
  obtain ⟨p, q, hA0, hV, rfl, _, _⟩ := hW
  have hA : DataW.TrodAll enc Tryz.prog W 0 (fun _ => true) true Tryz.f3.params.toList args.toList ds p := hA0
  rw [Tryz.params3] at hA
  obtain ⟨hargs, rfl, rfl⟩ := trodAll_nil hA
  obtain rfl : args = #[] := by cases args; simp_all
  obtain ⟨rfl, rfl⟩ := trodVars_none hV
  obtain ⟨M, last, o, w', t', r1, r2, r3, r4⟩ := run_of (t := 0) Tryz.func3 rfl (by kernel_rfl) (jq8 kM (fun F hF => by simp at hF)) (fun v w d h => ⟨h.1, ⟨h.2.os, h.2.tape, h.2.output, h.2.size, h.2.block⟩⟩)
  refine ⟨M, last, o, w', t', r1, r2, r3, r4.mono fun e hF => ?_⟩
  obtain ⟨he, bel⟩ := hF
  subst he
  exact ⟨_, _, _, [], _, [], hW', trodAll_mk1 (shut_bool Tryz.underlying4 _), trodAll_mk0, rfl, bel.frame _, fun h => by cases h⟩
set_option maxRecDepth 100000 in
theorem lifted (os : Os) (started : os.Started) (H : Type) (enc : TypeId × Value → H) :
    ReturnsInLeavingWide {} Tryz.checked os 3 .any (fun w args => (Rows.boldKnownSpec.pre enc Tryz.prog Tryz.f3 Rows.boldKnownRow.domain false w args ∧ laidMetH Tryz.prog Rows.boldKnownRow.laid w) ∧ sizedMet enc Tryz.prog Tryz.f3 (OpenSpec.ofChange Rows.boldKnownSpec) false w args) (Rows.boldKnownSpec.post enc Tryz.prog Tryz.f3 false true false false) := by
  refine returnsInLeavingWide_of_good (C := Tryz.checked) own started (ChangeSpec.witness_at (enc := enc) (C := Tryz.checked) (os := os) (X := fun w _ => laidMetH Tryz.prog Rows.boldKnownRow.laid w) false (laidWorld os) #[] 8 rfl (by kernel_rfl) (by kernel_rfl) (by kernel_rfl) (by kernel_rfl) (by kernel_rfl) (lx8 os _)) ?_
  intro w tape i _ _ _ _ hpre _
  obtain ⟨⟨⟨ds, gs, before, hw, hc⟩, _⟩, _⟩ := hpre
  obtain ⟨M, last, o, w', t', h1, h2, h3, h4⟩ := runs (w.forCall tape i) i.args ds gs before (DataW.Whole.of_heap (w' := w.forCall tape i) (by rfl) hw)
  exact ⟨M, last, o, w', t', h1, h2, h3, h4.mono fun v hp => ChangeSpec.post_blind hp⟩
theorem said : Rows.BoldKnownSaid :=
  OpenClaim.holds_of_wide_leaving 3 Tryz.f3 rfl rfl rfl rfl rfl rfl rfl ⟨rfl, rfl, rfl, rfl, rfl⟩ rfl rfl rfl rfl rfl (by kernel_rfl) Tryz.func3 (by kernel_rfl)
    (of_decide_eq_true (by kernel_rfl)) (by unfold Func.isWrapper; first | (rw [if_pos (by decide +kernel)]; kernel_rfl) | (rw [if_neg (by decide +kernel)]; exact ⟨rfl, rfl⟩))
    (fun os started H enc _ => lifted os started H enc)
theorem looks (f : FuncId) (fn : Func) (hf : Tryz.pinned.checked.prog.funcNamed Rows.boldKnownRow.func = some f) (hfn : Tryz.pinned.checked.prog.funcs[f]? = some fn) : true = Tryz.pinned.checked.prog.looks [] ∧ ∀ (j : Nat) t, fn.params[j]? = some t → Tryz.pinned.checked.prog.wantsStandIn t = false := by
  obtain rfl : f = 3 := Option.some.inj ((show Tryz.prog.funcNamed "wayzgoose/wayzgooselaw09.BoldKnown" = some 3 by kernel_rfl).symm.trans hf) |>.symm
  obtain rfl : fn = Tryz.f3 := (Option.some.inj (Tryz.func3.symm.trans hfn)).symm
  exact ⟨by kernel_rfl, fun j t ht => by rw [Tryz.params3] at ht; simp at ht⟩
theorem proved : Rows.BoldKnownCardSaid :=
  ⟨Claim7.tied_new_at .later [.data, .data, .data] true (Claim7.new_of_sixth said (true, "5a8b00ba3f6591e7c83f9904d8e7e3e470a1e617f807b6c7d99b24947d9948d8") true rfl ⟨rfl, rfl⟩ (by kernel_rfl) (by simp [Claim7.isSixth]) looks) (by kernel_rfl), (fun _ h => by cases h), boldKnown_row_tie, (fun h => by cases h), by kernel_rfl⟩
#print axioms proved
end Go.Proofs.YtmpfpfbcejfijaaGreatDoor.boldKnownDone
