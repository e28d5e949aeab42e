/- The statement TradeRead: the card. -/
import Derived.Test.YtdgmfagfpbdbhaaGreatDoorAAq
import Derived.Test.YtdgmfagfpbdbhaaGreatDoorRows
import Derived.Test.YtdgmfagfpbdbhaaGreatDoorCards
import Derived.Test.YtdgmfagfpbdbhaaGreatDoorTie
import Derived.SevenTiedAt
import Derived.LaidLaws
import Derived.LaidHandle
import Derived.Deep.DeepHandedRow
namespace Go.Proofs.YtdgmfagfpbdbhaaGreatDoor.tradeReadDone
open Go Go.RowKit Go.ChangeShapes Go.WideShapes Go.ChangeMaps Go.W
open Go.ChangeMaps (open_string shut_string)
set_option linter.unusedVariables false
set_option linter.unusedSimpArgs false
theorem own : ownKnob Tryz.prog.godebug = none := by kernel_rfl
theorem laidOut : laidOutB Tryz.prog = true := by kernel_rfl
/-- The cells of a table, or of a table of pairs. -/
def cellsOf : DataW Unit → List Value
  | .agg ps => ps.flatMap fun | .lit (.int k z) => [.int k z] | .agg qs => qs.map (fun | .lit (.int k z) => .int k z | _ => .int .u8 0) | _ => [.int .u8 0]
  | _ => []
def lay (g : Nat) (vs : Array Value) (h : Array Obj) : Array Obj := h.modify g fun
  | .cells _ t fz => .cells vs t fz
  | o => o
/-- A world in which the tables are laid. -/
noncomputable def laidWorld (os : Os) : World :=
  let w0 := World.holding Tryz.prog os ⟨#[], #[], []⟩
  { w0 with heap := lay 3 (cellsOf Rows.laid_unicode_utf8_acceptRanges).toArray (lay 2 (cellsOf Rows.laid_unicode_utf8_first).toArray (lay 0 #[.iface 214 (.agg #[.pointer (some ⟨4, 82, none⟩)])] w0.heap)) }
theorem et : Tryz.prog.globalNamed "errors.errorType" = some 0 := by kernel_rfl
theorem rt : (Tryz.prog.cutTypes.find? (·.1 == "internal/reflectlite.rtype")).map (·.2) = some 214 := by kernel_rfl
theorem oneRow : ((List.range Tryz.prog.types.size).filter fun t => Tryz.prog.rowNamed t [101, 114, 114, 111, 114]) = [82] := by kernel_rfl
theorem ax4 {W : World} (h : laidMetH Tryz.prog Rows.tradeReadRow.laid W) : ERRT.P W := by
  have h1 := h.filter (fun x => x.1 == "errors.errorType")
  have h2 := (laidMetH_iff.1 h1).2
  obtain ⟨name, u, ty, e1, e2, e3, e4, e5⟩ := h2 ("errors.errorType", Rows.laid_errors_errorType) (by rw [show (Rows.tradeReadRow.laid.filter fun x => x.1 == "errors.errorType") = [("errors.errorType", Rows.laid_errors_errorType)] by kernel_rfl]; exact List.mem_singleton.2 rfl)
  have en : name = [101, 114, 114, 111, 114] := (Option.some.inj e1).symm
  subst en
  obtain rfl := Option.some.inj (rt.symm.trans e2)
  have hm : ty ∈ (List.range Tryz.prog.types.size).filter fun t => Tryz.prog.rowNamed t [101, 114, 114, 111, 114] := List.mem_filter.2 ⟨List.mem_range.2 e3, e4⟩
  rw [oneRow] at hm
  obtain rfl := List.mem_singleton.1 hm
  have hh : typeHandle Tryz.prog 82 = .pointer (some ⟨4, 82, none⟩) := by kernel_rfl
  rw [hh] at e5
  have h3 : W.cell? ⟨0, 0, none⟩ = some (.iface 214 (.agg #[.pointer (some ⟨4, 82, none⟩)])) := by simpa using World.var?_cell et e5 0
  intro j u hu
  refine ⟨_, rfl, ?_⟩
  match j, hu with
  | 0, hu => cases hu; exact h3
  | j + 1, hu => simp at hu
abbrev wit : Array Value := #[.slice none 0 0, .string ByteArray.empty]
theorem lj5 (os : Os) : laidMetH Tryz.prog Rows.tradeReadRow.laid ((laidWorld os).forCall (fun _ _ => 0) ⟨#[], wit, []⟩).memory :=
  laidMetH_of_parts (laidMet_of_run' 8 (by kernel_rfl) (by kernel_rfl)) (by kernel_rfl)
theorem reads (os : Os) {H : Type} (enc : TypeId × Value → H) : ∃ ds places, DataW.whole enc Tryz.prog ((laidWorld os).forCall (fun _ _ => 0) ⟨#[], wit, []⟩).memory Tryz.f4.params.toList Rows.tradeReadSpec.vars false wit.toList 8 = some (ds, [], places) :=
  ⟨[.nil, .lit (.string [])], [], by kernel_rfl⟩
set_option maxRecDepth 100000 in
theorem lifted (os : Os) (started : os.Started) (H : Type) (enc : TypeId × Value → H) (F : Stop.Interp) :
    ReturnsInHanded {} Tryz.checked os 4 .any ((OpenSpec.ofChange Rows.tradeReadSpec).preRow enc Tryz.prog Tryz.f4 Rows.tradeReadRow.domain false Rows.tradeReadRow.laid) (((OpenSpec.ofChange Rows.tradeReadSpec).at F).post enc Tryz.prog Tryz.f4 false true false false) := by
  obtain ⟨dsw, places, hx⟩ := reads os enc
  refine returnsInHanded_of_row (C := Tryz.checked) (s := OpenSpec.ofChange Rows.tradeReadSpec) own started (by kernel_rfl) Tryz.func4
    (witness_row_at (enc := enc) (C := Tryz.checked) false (laidWorld os) wit rfl (by kernel_rfl) (by kernel_rfl) (by kernel_rfl)
      (OpenSpec.preRow_of_cond 8 hx (by kernel_rfl) (fun k hk => by cases hk) (by kernel_rfl) (lj5 os))) ?_
  intro W base args ds gs before hval0 hW _ _ _ hL _ _
  have hval : ∀ (j : Nat) t v, Tryz.f4.params[j]? = some t → args[j]? = some v → Value.okWide Tryz.prog W .any base t v := hval0
  have hW' := hW
  obtain ⟨p, q, hA0, hV, rfl, hfz, hnd⟩ := hW
  have hA : DataW.TrodAll enc Tryz.prog W 0 (fun _ => true) true Tryz.f4.params.toList args.toList ds p := hA0
  rw [Tryz.params4] at hA hval
  obtain ⟨v0, vs0, d0, ds0, p0, q0, hargs, rfl, rfl, h0, r0⟩ := trodAll_cons hA
  obtain ⟨v1, vs1, d1, ds1, p1, q1, rfl, rfl, rfl, h1, r1⟩ := trodAll_cons r0
  obtain ⟨rfl, rfl, rfl⟩ := trodAll_nil r1
  obtain rfl : args = #[v0, v1] := by cases args; simp_all
  obtain ⟨rfl, rfl⟩ := trodVars_none hV
  obtain ⟨a0, n0, c0, rfl⟩ := okWide_slice Tryz.underlying26 (hval 0 26 v0 rfl rfl)
  have k0 := h0
  have lt0 : ∀ x ∈ p0, x.block < W.heap.size := by obtain ⟨m, hm⟩ := k0; exact DataW.trod_lt m _ _ _ hm
  obtain ⟨l0, e0, hl0, hm0, hr0, hz0⟩ := (by obtain ⟨fuel, hf⟩ := h0; exact in_ints Tryz.underlying26 Tryz.underlying3 (by kernel_rfl) hf : ∃ l : List Int, n0 = l.length ∧ l.length ≤ c0 ∧ c0 ≤ maxLen ∧ (Row a0 (rows l)).P W ∧ ∀ z ∈ l, I64 z)
  subst e0
  unfold maxLen at hm0
  obtain ⟨b1, rfl, rfl, rfl, w1⟩ := open_string Tryz.underlying9 (hval 1 9 v1 rfl rfl) h1
  clear hA0 hval0
  refine (jq9 (pP l0 b1.data.toList (by omega)) (fun F hF => (List.mem_cons.1 hF).elim (fun e => e ▸ hr0) fun h => (List.mem_singleton.1 h) ▸ ax4 hL)).mono fun e W' ⟨he, bel⟩ => ?_
  subst he
  exact ⟨_, rfl, _, _, _, [], _, [], hW', trodAll_mk1 (shut_bool Tryz.underlying4 _), (trodAll_cons_mk (Below.trod laidOut (by kernel_rfl) (of_decide_eq_true (by kernel_rfl)) k0 bel lt0) (trodAll_cons_mk (shut_string Tryz.underlying9 w1) trodAll_mk0)), rfl, bel.frame _, fun h => by cases h⟩
theorem said : Rows.TradeReadSaid :=
  OpenClaim.holds_of_cond 4 Tryz.f4 rfl rfl rfl rfl rfl rfl rfl ⟨rfl, rfl, rfl, rfl, rfl⟩ rfl rfl rfl rfl rfl (by kernel_rfl) Tryz.func4 (by kernel_rfl)
    (of_decide_eq_true (by kernel_rfl)) (by unfold Func.isWrapper; first | (rw [if_pos (by decide +kernel)]; kernel_rfl) | (rw [if_neg (by decide +kernel)]; exact ⟨rfl, rfl⟩))
    (fun os started H enc _ F => by rw [OpenClaim.pre_eq_preRow]; exact lifted os started H enc F)
theorem plain (f : FuncId) (fn : Func) (hf : Tryz.pinned.checked.prog.funcNamed "wayzgoose/wayzgooselaw04.TradeRead" = some f) (hfn : Tryz.pinned.checked.prog.funcs[f]? = some fn) :
    true = Tryz.pinned.checked.prog.looks [] ∧ ∀ (j : Nat) t, fn.params[j]? = some t → Tryz.pinned.checked.prog.wantsStandIn t = false := by
  obtain rfl : f = 4 := Option.some.inj ((show Tryz.prog.funcNamed "wayzgoose/wayzgooselaw04.TradeRead" = some 4 by kernel_rfl).symm.trans hf) |>.symm
  obtain rfl : fn = Tryz.f4 := (Option.some.inj (Tryz.func4.symm.trans hfn)).symm
  refine ⟨by kernel_rfl, fun j t ht => ?_⟩
  rw [Tryz.params4] at ht
  have h := Array.mem_of_getElem? ht
  simp at h
  rcases h with rfl | rfl
  · exact (show Tryz.prog.wantsStandIn 26 = false by kernel_rfl)
  · exact (show Tryz.prog.wantsStandIn 9 = false by kernel_rfl)
theorem proved : Rows.TradeReadCardSaid :=
  Claim7.holds_tied_plain_at .later [] _ _ _ _ said (fun _ h => by cases h) (by kernel_rfl) (fun _ h => by cases h) tradeRead_row_tie rfl ⟨rfl, rfl⟩ (by kernel_rfl) rfl plain (by kernel_rfl)
#print axioms proved
end Go.Proofs.YtdgmfagfpbdbhaaGreatDoor.tradeReadDone
