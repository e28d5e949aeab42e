/- Texts. -/
import Derived.WalkKit
import Derived.TacticsIn
import Derived.OrdersIn
import Derived.Sort.LoopGhostIn
import Derived.Maps.AppendAt
import Derived.Deep.Draws
import Derived.Deep.LoopGhost
import Derived.Deep.MidRow
import Derived.Laws.Tables
import Derived.Laws.Build
import Derived.Laws.Strings
import Derived.Conc.Events
import Derived.Test.YtpfbbggmcbhboaaBAa
set_option linter.unusedVariables false
set_option linter.unusedSimpArgs false
section
namespace Go.W
open Go Go.Conc
set_option maxRecDepth 4000
class QC {α : Type} (s : Sem α) : Prop where
  out : Quiet s
instance {α : Type} (s : String) : QC (stuck s : Sem α) := ⟨quiet_stuck _⟩
instance {α : Type} (s : Unsupported) : QC (unsupported s : Sem α) := ⟨quiet_unsupported _⟩
instance (a : Addr) (m : Mode) : QC (load a m) := ⟨quiet_load _ _⟩
instance (a : Addr) (v : Value) (m : Mode) : QC (store a v m) := ⟨quiet_store _ _ _⟩
instance (t : TypeId) : QC (typeInfo t) := ⟨quiet_typeInfo _⟩
instance (t : TypeId) : QC (underlying t) := ⟨quiet_underlying _⟩
instance (t : TypeId) : QC (sizeOf t) := ⟨quiet_sizeOf _⟩
instance (t : TypeId) : QC (isAgg t) := ⟨quiet_isAgg _⟩
instance (t : TypeId) (a : Addr) : QC (loadVar t a) := ⟨quiet_loadVar _ _⟩
instance (fn : Func) (tmps : Array Value) : QC (results fn tmps) := ⟨quiet_results _ _⟩
theorem quiet_ite {α : Type} {c : Prop} [Decidable c] {s t : Sem α} (hs : Quiet s) (ht : Quiet t) : Quiet (if c then s else t) := by
  split
  · exact hs
  · exact ht
theorem quiet_forL {α β : Type} {f : α → β → Sem (ForInStep β)} (hf : ∀ a b, Quiet (f a b)) : ∀ (l : List α) (b : β), Quiet (forIn l b f)
  | [], b => by rw [List.forIn_nil]; trivial
  | a :: l, b => by
    rw [List.forIn_cons]; refine quiet_bind (hf a b) fun r => ?_
    cases r with
    | done b => trivial
    | yield b => exact quiet_forL hf l b
theorem quiet_forA {α β : Type} {f : α → β → Sem (ForInStep β)} (hf : ∀ a b, Quiet (f a b)) (l : Array α) (b : β) : Quiet (forIn l b f) := by
  rw [← Array.forIn_toList]; exact quiet_forL hf _ _
theorem quiet_forR {β : Type} {f : Nat → β → Sem (ForInStep β)} (hf : ∀ a b, Quiet (f a b)) (r : Std.Legacy.Range) (b : β) : Quiet (forIn r b f) := by
  rw [Std.Legacy.Range.forIn_eq_forIn_range']; exact quiet_forL hf _ _
theorem quiet_foldM {α β : Type} {f : β → α → Sem β} (hf : ∀ b a, Quiet (f b a)) : ∀ (l : List α) (b : β), Quiet (l.foldlM f b)
  | [], b => by rw [List.foldlM_nil]; trivial
  | a :: l, b => by rw [List.foldlM_cons]; exact quiet_bind (hf b a) fun b => quiet_foldM hf l b
theorem q_auto {α : Type} {s : Sem α} (h : Quiet s := by repeat' (first | exact trivial | assumption | exact fun _ => trivial | exact QC.out | refine quiet_ite ?_ ?_ | refine quiet_bind ?_ fun _ => ?_ | refine quiet_map ?_ | refine quiet_mapM (fun _ => ?_) _ | refine quiet_forL (fun _ _ => ?_) _ _ | refine quiet_forA (fun _ _ => ?_) _ _ | refine quiet_forR (fun _ _ => ?_) _ _ | refine quiet_foldM (fun _ _ => ?_) _ _ | (intro _; done) | split | (show Quiet _; dsimp only))) : Quiet s := h
theorem quiet_goPanic {α : Type} (v : Value) : Quiet (goPanic v : Sem α) := by
  trivial
instance {α : Type} (v : Value) : QC (goPanic v : Sem α) := ⟨quiet_goPanic _⟩
instance (t : TypeId) : QC (zeroValue t) := ⟨by unfold zeroValue; exact q_auto⟩
instance (o : Obj) : QC (newObj o) := ⟨by unfold newObj; exact q_auto⟩
instance (r : Nat) : QC (shape r) := ⟨by unfold shape; exact q_auto⟩
instance (a : Addr) (n : Nat) : QC (freeze a n) := ⟨by unfold freeze; exact q_auto⟩
instance (a : Addr) : QC (frozen a) := ⟨by unfold frozen; exact q_auto⟩
instance (r : Nat) : QC (getObj r) := ⟨by unfold getObj; exact q_auto⟩
instance (r : Nat) (o : Obj) : QC (setObj r o) := ⟨by unfold setObj; exact q_auto⟩
instance (q : Question) : QC (choose q) := ⟨by unfold choose; exact q_auto⟩
instance  : QC (program) := ⟨by unfold program; exact q_auto⟩
instance (e : TypeId) (cs : Array Value) : QC (newRow e cs) := ⟨by unfold newRow; exact q_auto⟩
instance (e : TypeId) (v : Value) : QC (newVar e v) := ⟨by unfold newVar; exact q_auto⟩
instance (t : TypeId) : QC (elemOf t) := ⟨by unfold elemOf; exact q_auto⟩
instance (t : TypeId) (cs : Array Value) (o : Nat) : QC (part t cs o) := ⟨by unfold part; exact q_auto⟩
instance {α : Type} (e : RuntimeError) : QC (runtimePanic e : Sem α) := ⟨quiet_runtimePanic _⟩
instance {α : Type} (k : IntKind) (x y : Int) (c : BoundsCode) : QC (boundsPanic k x y c : Sem α) := ⟨by unfold boundsPanic; exact q_auto⟩
instance (v : Value) : QC (asIntOf v) := ⟨by unfold asIntOf; exact q_auto⟩
instance (v : Value) : QC (asInt v) := ⟨by unfold asInt; exact q_auto⟩
instance (v : Value) : QC (asBool v) := ⟨by unfold asBool; exact q_auto⟩
instance (v : Value) : QC (asString v) := ⟨by unfold asString; exact q_auto⟩
instance (v : Value) : QC (asAgg v) := ⟨by unfold asAgg; exact q_auto⟩
instance (v : Value) : QC (asAddr v) := ⟨quiet_asAddr _⟩
theorem quiet_askRoom (n : Nat) : Quiet (askRoom n) := by
  unfold askRoom
  split
  · exact ⟨⟨by simp, by simp⟩, trivial⟩
  · trivial
instance (n : Nat) : QC (askRoom n) := ⟨quiet_askRoom _⟩
theorem quiet_storeCells (a : Addr) : ∀ (vs : List Value) (i : Nat), Quiet (storeCells a vs i)
  | [], _ => by unfold storeCells; trivial
  | v :: vs, i => by unfold storeCells; exact quiet_bind (quiet_store _ _ _) fun _ => quiet_storeCells a vs _
instance (a : Addr) (vs : List Value) (i : Nat) : QC (storeCells a vs i) := ⟨quiet_storeCells _ _ _⟩
instance (a : Addr) (n : Nat) : QC (loadCells a n) := ⟨quiet_loadCells _ _⟩
instance (t : TypeId) (a : Addr) (v : Value) : QC (storeVar t a v) := ⟨by unfold storeVar; exact q_auto⟩
instance (r : Nat) : QC (viewAt r) := ⟨by unfold viewAt; exact q_auto⟩
instance (a : Addr) : QC (noView a) := ⟨by unfold noView; exact q_auto⟩
instance (r : Nat) : QC (numberAt r) := ⟨by unfold numberAt; exact q_auto⟩
instance (a : Addr) : QC (behindNumber a) := ⟨by unfold behindNumber; exact q_auto⟩
instance (a : Addr) (l : Bool) : QC (asNumber a l) := ⟨by unfold asNumber; exact q_auto⟩
instance (a : Addr) : QC (stringish a) := ⟨by unfold stringish; exact q_auto⟩
instance (a b : Addr) : QC (mayBeOne a b) := ⟨by unfold mayBeOne; exact q_auto⟩
instance (a b : Addr) : QC (sameAddr a b) := ⟨by unfold sameAddr; exact q_auto⟩
instance (a b : Option Addr) : QC (samePointer a b) := ⟨by unfold samePointer; exact q_auto⟩
instance (t : TypeId) : QC (typeStr t) := ⟨by unfold typeStr; exact q_auto⟩
instance (a : Addr) : QC (byteOf a) := ⟨by unfold byteOf; exact q_auto⟩
instance (a : Addr) (n m : Nat) : QC (partAt a n m) := ⟨by unfold partAt; exact q_auto⟩
instance (a : Addr) (f : Field) : QC (fieldPlace a f) := ⟨by unfold fieldPlace; exact q_auto⟩
instance (v : Value) : QC (Instr.sureAddr v) := ⟨by unfold Instr.sureAddr; exact q_auto⟩
instance (t : TypeId) (v : Value) : QC (Instr.loadAt t v) := ⟨by unfold Instr.loadAt; exact q_auto⟩
instance (t : TypeId) (v x : Value) : QC (Instr.storeAt t v x) := ⟨by unfold Instr.storeAt; exact q_auto⟩
instance (t : TypeId) (v : Value) (n : Nat) : QC (Instr.fieldAt t v n) := ⟨by unfold Instr.fieldAt; exact q_auto⟩
instance (t : TypeId) (v x : Value) : QC (Instr.indexAt t v x) := ⟨by unfold Instr.indexAt; exact q_auto⟩
instance (x : Value) (y : Nat) (c : BoundsCode) : QC (Instr.sliceBound x y c) := ⟨by unfold Instr.sliceBound; exact q_auto⟩
instance (b : Bool) (m n : Nat) (x y z : Option Value) : QC (Instr.sliceBounds b m n x y z) := ⟨by unfold Instr.sliceBounds; exact q_auto⟩
instance (t : TypeId) (x : Value) (l h m : Option Value) : QC (Instr.slice t x l h m) := ⟨by unfold Instr.slice; exact q_auto⟩
instance (t : TypeId) (x : Value) (l h m : Option Value) : QC (Instr.sliceAt t x l h m) := ⟨by unfold Instr.sliceAt; exact q_auto⟩
instance (t : TypeId) (b : Bool) (v : Value) : QC (Instr.alloc t b v) := ⟨by unfold Instr.alloc; exact q_auto⟩
instance (t : TypeId) (v : Value) : QC (Instr.box t v) := ⟨by unfold Instr.box; exact q_auto⟩
instance (t : TypeId) (p : Array (Nat × Value)) : QC (Instr.build t p) := ⟨by unfold Instr.build; exact q_auto⟩
instance (t : TypeId) (n : Nat) (p : Array (Nat × Value)) : QC (Instr.buildSlice t n p) := ⟨by unfold Instr.buildSlice; exact q_auto⟩
instance (v : Value) : QC (Instr.entry v) := ⟨by unfold Instr.entry; exact q_auto⟩
instance (v : Value) (n : Nat) : QC (Instr.extract v n) := ⟨by unfold Instr.extract; exact q_auto⟩
instance (t : TypeId) (v : Value) (n : Nat) : QC (Instr.field t v n) := ⟨by unfold Instr.field; exact q_auto⟩
instance (t : TypeId) (v x : Value) : QC (Instr.index t v x) := ⟨by unfold Instr.index; exact q_auto⟩
theorem quiet_equalIn : ∀ (n : Nat) (t : TypeId) (x y : Value), Quiet (Op.equalIn n t x y)
  | 0, t, x, y => by unfold Op.equalIn; trivial
  | n + 1, t, x, y => by
    have ih := quiet_equalIn n; unfold Op.equalIn
    repeat' (first | exact trivial | exact ih _ _ _ | exact fun _ => trivial | exact QC.out | refine quiet_ite ?_ ?_ | refine quiet_bind ?_ fun _ => ?_ | refine quiet_map ?_ | refine quiet_mapM (fun _ => ?_) _ | refine quiet_forL (fun _ _ => ?_) _ _ | refine quiet_forA (fun _ _ => ?_) _ _ | refine quiet_forR (fun _ _ => ?_) _ _ | refine quiet_foldM (fun _ _ => ?_) _ _ | (intro _; done) | split | (show Quiet _; dsimp only))
instance (n : Nat) (t : TypeId) (x y : Value) : QC (Op.equalIn n t x y) := ⟨quiet_equalIn _ _ _ _⟩
instance (t : TypeId) (x y : Value) : QC (Op.equal t x y) := ⟨by unfold Op.equal; exact q_auto⟩
theorem quiet_eqGuardIn : ∀ (n : Nat) (t : TypeId) (x y : Value), Quiet (Op.eqGuardIn n t x y)
  | 0, t, x, y => by unfold Op.eqGuardIn; trivial
  | n + 1, t, x, y => by
    have ih := quiet_eqGuardIn n; unfold Op.eqGuardIn
    repeat' (first | exact trivial | exact ih _ _ _ | exact fun _ => trivial | exact QC.out | refine quiet_ite ?_ ?_ | refine quiet_bind ?_ fun _ => ?_ | refine quiet_map ?_ | refine quiet_mapM (fun _ => ?_) _ | refine quiet_forL (fun _ _ => ?_) _ _ | refine quiet_forA (fun _ _ => ?_) _ _ | refine quiet_forR (fun _ _ => ?_) _ _ | refine quiet_foldM (fun _ _ => ?_) _ _ | (intro _; done) | split | (show Quiet _; dsimp only))
instance (n : Nat) (t : TypeId) (x y : Value) : QC (Op.eqGuardIn n t x y) := ⟨quiet_eqGuardIn _ _ _ _⟩
instance (op : BinOp) (t : TypeId) (x y : Operand) (a b : Value) : QC (eqGuard op t x y a b) := ⟨by unfold eqGuard; exact q_auto⟩
theorem quiet_checkKey (e : Bool) : ∀ (n : Nat) (t : TypeId) (v : Value), Quiet (Instr.checkKey e n t v)
  | 0, t, v => by unfold Instr.checkKey; trivial
  | n + 1, t, v => by
    have ih := quiet_checkKey e n; unfold Instr.checkKey
    repeat' (first | exact trivial | exact ih _ _ | exact fun _ => trivial | exact QC.out | refine quiet_ite ?_ ?_ | refine quiet_bind ?_ fun _ => ?_ | refine quiet_map ?_ | refine quiet_mapM (fun _ => ?_) _ | refine quiet_forL (fun _ _ => ?_) _ _ | refine quiet_forA (fun _ _ => ?_) _ _ | refine quiet_forR (fun _ _ => ?_) _ _ | refine quiet_foldM (fun _ _ => ?_) _ _ | (intro _; done) | split | (show Quiet _; dsimp only))
instance (e : Bool) (n : Nat) (t : TypeId) (v : Value) : QC (Instr.checkKey e n t v) := ⟨quiet_checkKey _ _ _ _⟩
theorem quiet_findAsking (t : TypeId) (k : Value) : ∀ (l : List MapEntry) (i : Nat), Quiet (Instr.findAsking t k l i)
  | [], i => by unfold Instr.findAsking; trivial
  | e :: l, i => by
    have ih := quiet_findAsking t k l; unfold Instr.findAsking
    repeat' (first | exact trivial | exact ih _ | exact fun _ => trivial | exact QC.out | refine quiet_ite ?_ ?_ | refine quiet_bind ?_ fun _ => ?_ | refine quiet_map ?_ | refine quiet_mapM (fun _ => ?_) _ | refine quiet_forL (fun _ _ => ?_) _ _ | refine quiet_forA (fun _ _ => ?_) _ _ | refine quiet_forR (fun _ _ => ?_) _ _ | refine quiet_foldM (fun _ _ => ?_) _ _ | (intro _; done) | split | (show Quiet _; dsimp only))
instance (t : TypeId) (k : Value) (l : List MapEntry) (i : Nat) : QC (Instr.findAsking t k l i) := ⟨quiet_findAsking _ _ _ _⟩
instance (t : TypeId) (k : Value) (l : List MapEntry) : QC (Instr.findKey t k l) := ⟨by unfold Instr.findKey; exact q_auto⟩
instance (t : TypeId) (x i : Value) (b : Bool) : QC (Instr.lookup t x i b) := ⟨by unfold Instr.lookup; exact q_auto⟩
instance (t : TypeId) (v : Value) : QC (Instr.makeChan t v) := ⟨by unfold Instr.makeChan; exact q_auto⟩
instance (f : Fn) (x y : Array Value) : QC (Instr.makeFunc f x y) := ⟨by unfold Instr.makeFunc; exact q_auto⟩
instance (t : TypeId) (v : Value) : QC (Instr.makeInterface t v) := ⟨by unfold Instr.makeInterface; exact q_auto⟩
instance (t : TypeId) (v : Option Value) : QC (Instr.makeMap t v) := ⟨by unfold Instr.makeMap; exact q_auto⟩
instance (t : TypeId) (l c : Value) : QC (Instr.makeSlice t l c) := ⟨by unfold Instr.makeSlice; exact q_auto⟩
instance (x y : Value) : QC (Instr.keyThatStays x y) := ⟨by unfold Instr.keyThatStays; exact q_auto⟩
instance (t : TypeId) (m k x : Value) : QC (Instr.mapUpdate t m k x) := ⟨by unfold Instr.mapUpdate; exact q_auto⟩
instance (t : TypeId) (m k : Value) : QC (Instr.mapEntry t m k) := ⟨by unfold Instr.mapEntry; exact q_auto⟩
instance (t : TypeId) (m k x : Value) : QC (Instr.entryStore t m k x) := ⟨by unfold Instr.entryStore; exact q_auto⟩
instance (v : Value) (b : Bool) (t : TypeId) : QC (Instr.next v b t) := ⟨by unfold Instr.next; exact q_auto⟩
instance (t : TypeId) (v : Value) : QC (Instr.range t v) := ⟨by unfold Instr.range; exact q_auto⟩
instance (x : Value) (t u : TypeId) (b : Bool) : QC (Instr.typeAssert x t u b) := ⟨by unfold Instr.typeAssert; exact q_auto⟩
instance (n : Nat) : QC (Instr.ready n) := ⟨by unfold Instr.ready; exact q_auto⟩
instance (n : Nat) : QC (Instr.waits n) := ⟨by unfold Instr.waits; exact q_auto⟩
instance (a : Addr) (n : Nat) : QC (Builtin.holdsCells a n) := ⟨by unfold Builtin.holdsCells; exact q_auto⟩
instance (s l n : Nat) (b : Option Addr) (x : Value) : QC (Builtin.mayShare s l n b x) := ⟨by unfold Builtin.mayShare; exact q_auto⟩
instance (x : Value) : QC (Builtin.lenOf x) := ⟨by unfold Builtin.lenOf; exact q_auto⟩
instance (s n : Nat) (x : Value) : QC (Builtin.firstCells s n x) := ⟨by unfold Builtin.firstCells; exact q_auto⟩
theorem quiet_noRoom : Quiet (mark .noRoom) := ⟨⟨by simp, by simp⟩, trivial⟩
instance  : QC (mark .noRoom) := ⟨quiet_noRoom ⟩
instance (ts : Array TypeId) (t : TypeId) (vs : Array Value) : QC (Builtin.append_ ts t vs) := ⟨by unfold Builtin.append_; exact q_auto⟩
instance (ts : Array TypeId) (t : TypeId) (vs : Array Value) : QC (Builtin.cap_ ts t vs) := ⟨by unfold Builtin.cap_; exact q_auto⟩
instance (ts : Array TypeId) (t : TypeId) (vs : Array Value) : QC (Builtin.clear_ ts t vs) := ⟨by unfold Builtin.clear_; exact q_auto⟩
instance (ts : Array TypeId) (t : TypeId) (vs : Array Value) : QC (Builtin.copy_ ts t vs) := ⟨by unfold Builtin.copy_; exact q_auto⟩
instance (ts : Array TypeId) (t : TypeId) (vs : Array Value) : QC (Builtin.delete_ ts t vs) := ⟨by unfold Builtin.delete_; exact q_auto⟩
instance (ts : Array TypeId) (t : TypeId) (vs : Array Value) : QC (Builtin.len_ ts t vs) := ⟨by unfold Builtin.len_; exact q_auto⟩
theorem quiet_b_unsafeAdd_ (t : TypeId) (x y : Value) : Quiet (Builtin.unsafeAdd_ #[] t #[x, y]) := by
  unfold Builtin.unsafeAdd_
  cases x <;> (repeat' (first | exact trivial | assumption | exact fun _ => trivial | exact QC.out | refine quiet_ite ?_ ?_ | refine quiet_bind ?_ fun _ => ?_ | refine quiet_map ?_ | refine quiet_mapM (fun _ => ?_) _ | refine quiet_forL (fun _ _ => ?_) _ _ | refine quiet_forA (fun _ _ => ?_) _ _ | refine quiet_forR (fun _ _ => ?_) _ _ | refine quiet_foldM (fun _ _ => ?_) _ _ | (intro _; done) | split | (show Quiet _; dsimp only)))
instance (t : TypeId) (x y : Value) : QC (Builtin.unsafeAdd_ #[] t #[x, y]) := ⟨quiet_b_unsafeAdd_ _ _ _⟩
instance (t : TypeId) (x y : Value) : QC (movedNumber t x y) := ⟨by unfold movedNumber; exact q_auto⟩
instance (t : TypeId) (x y : Value) : QC (movedPointer t x y) := ⟨by unfold movedPointer; exact q_auto⟩
instance (op : BinOp) (k : IntKind) (x y : Int) : QC (Op.intArith op k x y) := ⟨by unfold Op.intArith; exact q_auto⟩
instance (op : BinOp) (k : IntKind) (x y : Int) : QC (Op.intDiv op k x y) := ⟨by unfold Op.intDiv; exact q_auto⟩
instance (op : BinOp) (k : IntKind) (x y : Int) : QC (Op.intBits op k x y) := ⟨by unfold Op.intBits; exact q_auto⟩
instance (op : BinOp) (k : IntKind) (x : Int) (k2 : IntKind) (y : Int) : QC (Op.shift op k x k2 y) := ⟨by unfold Op.shift; exact q_auto⟩
instance (op : BinOp) (x y : Int) : QC (Op.intCmp op x y) := ⟨by unfold Op.intCmp; exact q_auto⟩
instance (op : BinOp) (x y : ByteArray) : QC (Op.stringOp op x y) := ⟨by unfold Op.stringOp; exact q_auto⟩
instance (op : BinOp) (k : FloatKind) (x y : Nat) : QC (Op.floatArith op k x y) := ⟨by unfold Op.floatArith; exact q_auto⟩
instance (op : BinOp) (k : FloatKind) (x y : Nat) : QC (Op.floatCmp op k x y) := ⟨by unfold Op.floatCmp; exact q_auto⟩
instance (k : FloatKind) (x : Nat) (l : FloatKind) : QC (Conv.floatToFloat k x l) := ⟨by unfold Conv.floatToFloat; exact q_auto⟩
instance (op : BinOp) (k : FloatKind) (x y : Nat) : QC (Op.Complex.arith op k x y) := ⟨by unfold Op.Complex.arith; exact q_auto⟩
instance (op : BinOp) (k : FloatKind) (x y : Nat) : QC (Op.Complex.cmp op k x y) := ⟨by unfold Op.Complex.cmp; exact q_auto⟩
instance (k : FloatKind) (x : Nat) (l : FloatKind) : QC (Op.Complex.conv k x l) := ⟨by unfold Op.Complex.conv; exact q_auto⟩
instance (x y : Nat) : QC (Op.Complex.add x y) := ⟨by unfold Op.Complex.add; exact q_auto⟩
instance (x y : Nat) : QC (Op.Complex.sub x y) := ⟨by unfold Op.Complex.sub; exact q_auto⟩
instance (x y : Nat) : QC (Op.Complex.mul x y) := ⟨by unfold Op.Complex.mul; exact q_auto⟩
instance (x y : Nat) : QC (Op.Complex.quo x y) := ⟨by unfold Op.Complex.quo; exact q_auto⟩
instance (a b c d : Nat) : QC (Op.Complex.product a b c d) := ⟨by unfold Op.Complex.product; exact q_auto⟩
instance (s a b c d : Nat) : QC (Op.Complex.corrected s a b c d) := ⟨by unfold Op.Complex.corrected; exact q_auto⟩
instance (a b c d : Nat) : QC (Op.Complex.quotient a b c d) := ⟨by unfold Op.Complex.quotient; exact q_auto⟩
instance (op : BinOp) (k : FloatKind) (a b c d : Nat) : QC (Op.complexOp op k a b c d) := ⟨by unfold Op.complexOp; exact q_auto⟩
instance (a b : Addr) : QC (Op.twoPlaces a b) := ⟨by unfold Op.twoPlaces; exact q_auto⟩
instance (k : IntKind) (a b : Addr) : QC (Op.addrSub k a b) := ⟨by unfold Op.addrSub; exact q_auto⟩
instance (op : BinOp) (a b : Addr) : QC (Op.addrCmp op a b) := ⟨by unfold Op.addrCmp; exact q_auto⟩
instance (k : IntKind) (a : Addr) (n : Int) : QC (Op.addrMod k a n) := ⟨by unfold Op.addrMod; exact q_auto⟩
instance (a : Addr) : QC (markStringish a) := ⟨by unfold markStringish; exact q_auto⟩
instance (k : IntKind) (n : Int) : QC (Conv.intToInt k n) := ⟨by unfold Conv.intToInt; exact q_auto⟩
instance (k : FloatKind) (n : Int) : QC (Conv.intToFloat k n) := ⟨by unfold Conv.intToFloat; exact q_auto⟩
instance (k : FloatKind) (n : Nat) (l : IntKind) : QC (Conv.floatToInt k n l) := ⟨by unfold Conv.floatToInt; exact q_auto⟩
instance (k : FloatKind) (x y : Nat) (l : FloatKind) : QC (Conv.complexToComplex k x y l) := ⟨by unfold Conv.complexToComplex; exact q_auto⟩
instance (n : Int) : QC (Conv.intToString n) := ⟨by unfold Conv.intToString; exact q_auto⟩
instance (t : TypeId) (s : ByteArray) : QC (Conv.stringToBytes t s) := ⟨by unfold Conv.stringToBytes; exact q_auto⟩
instance (t : TypeId) (s : ByteArray) : QC (Conv.stringToRunes t s) := ⟨by unfold Conv.stringToRunes; exact q_auto⟩
instance (v : Value) : QC (Conv.bytesToString v) := ⟨by unfold Conv.bytesToString; exact q_auto⟩
instance (v : Value) : QC (Conv.runesToString v) := ⟨by unfold Conv.runesToString; exact q_auto⟩
instance (r : Nat) : QC (cellsIn r) := ⟨by unfold cellsIn; exact q_auto⟩
instance (a : Addr) (u : TypeId) (n : Nat) : QC (variablesAt a u n) := ⟨by unfold variablesAt; exact q_auto⟩
instance (a : Addr) : QC (Conv.seenAt a) := ⟨by unfold Conv.seenAt; exact q_auto⟩
instance (s t : TypeId) (v : Value) : QC (Conv.unsafePointer s t v) := ⟨by unfold Conv.unsafePointer; exact q_auto⟩
instance (s t : TypeId) (v : Value) : QC (convert s t v) := ⟨by unfold convert; exact q_auto⟩
instance (op : BinOp) (t : TypeId) (x y : Value) : QC (binOp op t x y) := ⟨by unfold binOp; exact q_auto⟩
instance (op : UnOp) (x : Value) : QC (Op.unary op x) := ⟨by unfold Op.unary; exact q_auto⟩
instance (x y : Value) : QC (Builtin.max2 x y) := ⟨by unfold Builtin.max2; exact q_auto⟩
instance (x y : Value) : QC (Builtin.min2 x y) := ⟨by unfold Builtin.min2; exact q_auto⟩
instance (a : Addr) (u : TypeId) (n : Nat) : QC (variablesAt a u n) := ⟨by unfold variablesAt; exact q_auto⟩
theorem quiet_loadBytes : ∀ (n : Nat) (a : Addr) (b : ByteArray), Quiet (loadBytes a b n)
  | 0, a, b => by unfold loadBytes; trivial
  | n + 1, a, b => by
    have ih := quiet_loadBytes n; unfold loadBytes; refine quiet_bind (quiet_load _ _) fun _ => ?_
    split <;> first | exact ih _ _ | trivial
instance (a : Addr) (b : ByteArray) (n : Nat) : QC (loadBytes a b n) := ⟨quiet_loadBytes _ _ _⟩
instance (ts : Array TypeId) (t : TypeId) (vs : Array Value) : QC (Builtin.unsafeSliceData_ ts t vs) := ⟨by
  unfold Builtin.unsafeSliceData_; obtain ⟨l⟩ := vs
  rcases l with _ | ⟨v, _ | ⟨u, l⟩⟩
  · exact q_auto
  · cases v with
    | slice p n c => cases p <;> exact q_auto
    | _ => exact q_auto
  · cases v with
    | slice p n c => cases p <;> exact q_auto
    | _ => exact q_auto⟩
instance (ts : Array TypeId) (t : TypeId) (vs : Array Value) : QC (Builtin.unsafeString_ ts t vs) := ⟨by
  unfold Builtin.unsafeString_
  split
  · obtain ⟨l⟩ := vs
    rcases l with _ | ⟨v, _ | ⟨u, _ | ⟨x, l⟩⟩⟩
    · exact q_auto
    · cases v <;> exact q_auto
    · cases v with
      | pointer p => cases p <;> exact q_auto
      | _ => exact q_auto
    · cases v <;> exact q_auto
  · obtain ⟨l⟩ := vs
    rcases l with _ | ⟨v, _ | ⟨u, _ | ⟨x, l⟩⟩⟩
    · exact q_auto
    · cases v <;> exact q_auto
    · cases v <;> exact q_auto
    · cases v <;> exact q_auto⟩
instance (ts : Array TypeId) (t : TypeId) (vs : Array Value) : QC (Builtin.max_ ts t vs) := ⟨by unfold Builtin.max_; exact q_auto⟩
instance (ts : Array TypeId) (t : TypeId) (vs : Array Value) : QC (Builtin.min_ ts t vs) := ⟨by unfold Builtin.min_; exact q_auto⟩
theorem quiet_placeGet (t : TypeId) (x : Place) : Quiet (x.get t) := by
  unfold Place.get
  split <;> first | trivial | exact QC.out
instance (t : TypeId) (x : Place) : QC (x.get t) := ⟨quiet_placeGet _ _⟩
theorem quiet_followBlind : ∀ (l : List FieldStep) (t : TypeId) (x : Option Value), Quiet (followBlind l t x)
  | [], t, x => by unfold followBlind; trivial
  | s :: l, t, x => by
    have ih := quiet_followBlind l; unfold followBlind
    repeat' (first | exact trivial | exact ih _ _ | exact QC.out | refine quiet_ite ?_ ?_ | refine quiet_bind ?_ fun _ => ?_ | split)
theorem quiet_nilAhead : ∀ (n : Nat) (t : TypeId) (v : Value) (s : String), Quiet (nilAhead n t v s)
  | 0, t, v, s => by unfold nilAhead; trivial
  | n + 1, t, v, s => by
    have ih := quiet_nilAhead n; unfold nilAhead
    repeat' (first | exact trivial | exact ih _ _ _ | exact QC.out | exact quiet_followBlind _ _ _ | refine quiet_ite ?_ ?_ | refine quiet_bind ?_ fun _ => ?_ | split)
def okB : Builtin → Bool
  | .append | .cap | .clear | .copy | .delete | .len | .max | .min | .unsafeSliceData | .unsafeString => true
  | _ => false
def okOp (o : Oper) : Bool :=
  match o.op with
  | .move _ | .assign _ | .nilCheck _ | .pick .. | .alloc _ | .box .. | .build .. | .buildSlice .. | .load .. | .store .. | .binOp .. | .unOp .. | .convert .. | .makeInterface .. | .makeFunc .. | .makeMap .. | .makeChan .. | .makeSlice .. | .slice ..
  | .fieldAddr .. | .field .. | .indexAddr .. | .index .. | .lookup .. | .mapUpdate .. | .insert .. | .mapEntry .. | .entryStore .. | .range .. | .next .. | .entry .. | .typeAssert .. | .extract .. | .send .. | .recv .. | .defer _ | .ready _ | .waits _ => true
  | .call ⟨.builtin b, _, _⟩ => okB b
  | _ => false
theorem quiet_ofValue (f : Value) (args : Array Value) : Quiet (Deferred.ofValue f args) := by unfold Deferred.ofValue; split <;> trivial
theorem quiet_resolve (ρ : Operand → Value) (c : Call) (t : TypeId) : Quiet (resolve ρ c t) := by
  unfold resolve
  split <;> first | trivial | exact quiet_ofValue _ _
theorem quiet_v {s : Sem Value} (h : Quiet s) : Quiet (do pure (.value (← s)) : Sem Next) := quiet_bind h fun _ => trivial
theorem quiet_u {s : Sem Unit} (h : Quiet s) : Quiet (do s; pure .skip : Sem Next) := quiet_bind h fun _ => trivial
theorem quiet_exec (ρ : Operand → Value) (o : Oper) (h : okOp o = true) : Quiet (execOp ρ o) := by
  obtain ⟨dst, op, ty, pos, af, g⟩ := o
  cases op with
  | call c =>
    obtain ⟨cal, aS9, ats⟩ := c
    cases cal with
    | builtin b =>
      show Quiet (do let d ← resolve ρ ⟨.builtin b, aS9, ats⟩ ty; invoke d.target d.args); show Quiet (builtin b ats ty _ _)
      cases b <;> first | exact quiet_v QC.out | (simp [okOp, okB] at h; done)
    | _ => simp [okOp] at h
  | move x => trivial
  | assign x => trivial
  | pick a b c => exact quiet_bind QC.out fun _ => trivial
  | makeFunc f x y => exact quiet_v QC.out
  | nilCheck x =>
    simp only [execOp]
    repeat' (first | exact trivial | exact QC.out | exact quiet_nilAhead _ _ _ _ | refine quiet_ite ?_ ?_ | refine quiet_bind ?_ fun _ => ?_ | split)
  | binOp op t x y u => exact quiet_v (quiet_bind QC.out fun _ => QC.out)
  | send a b => trivial
  | recv t c b =>
    refine quiet_bind QC.out fun _ => ?_
    split
    · exact quiet_bind QC.out fun _ => trivial
    · trivial
  | defer c => exact quiet_bind (quiet_resolve _ _ _) fun _ => trivial
  | _ => first | exact quiet_v QC.out | exact quiet_u QC.out | (simp [okOp] at h; done)
theorem calm_exec {P : Program} {ρ : Operand → Value} {o : Oper} (h : okOp o = true) (w : World) : ∀ e ∈ (execOp ρ o).events P w #[], Calm e := quiet_events (quiet_exec ρ o h) w
end Go.W
end
section
namespace Go.W
open Go Go.RowKit Go.Conc
abbrev Fr := List (Nat × Value)
abbrev Hp := List (Nat × Obj)
def lk : Fr → Nat → Option Value
  | [], _ => none
  | (k, v) :: r, t => cond (Nat.beq k t) (some v) (lk r t)
theorem lk_cons (k : Nat) (v : Value) (r : Fr) (t : Nat) : lk ((k, v) :: r) t = if k = t then some v else lk r t := by
  by_cases h : k = t
  · subst h; simp [lk, Nat.beq_refl]
  · have : Nat.beq k t = false := by
      cases hb : Nat.beq k t
      · rfl
      · exact absurd (Nat.eq_of_beq_eq_true hb) h
    simp [lk, this, h]
def ev (fr : Fr) : Operand → Option Value
  | .tmp t => lk fr t
  | .const v => some v
  | .global g => some (.pointer (some ⟨g, 0, none⟩))
  | .func f => some (.func (.func f) #[] #[])
structure Fact where
  P : World → Prop
  fp : Nat → Prop
  st : ∀ w w', (∀ k, fp k → w'.heap[k]? = w.heap[k]?) → P w → P w'
  lt : ∀ w, P w → ∀ k, fp k → k < w.heap.size
structure Ext (S : List Nat) (w w' : World) : Prop where
  os : w'.os = w.os
  tape : w'.tape = w.tape
  output : w'.output = w.output
  size : w.heap.size ≤ w'.heap.size
  block : ∀ k, k < w.heap.size → k ∉ S → w'.heap[k]? = w.heap[k]?
  dr : 0 ≤ 0
theorem Ext.refl (S : List Nat) (w : World) : Ext S w w := ⟨rfl, rfl, rfl, Nat.le_refl _, fun _ _ _ => rfl, Nat.le_refl _⟩
theorem Ext.trans {S : List Nat} {a b c : World} (h : Ext S a b) (k : Ext S b c) : Ext S a c :=
  ⟨k.os.trans h.os, k.tape.trans h.tape, k.output.trans h.output, Nat.le_trans h.size k.size,
    fun i hi hn => (k.block i (Nat.lt_of_lt_of_le hi h.size) hn).trans (h.block i hi hn), Nat.le_trans h.dr k.dr⟩
theorem Ext.below {w w' : World} (h : Ext [] w w') : Below w.heap.size w w' :=
  ⟨h.os, h.tape, h.output, h.size, fun k hk => h.block k hk (by simp)⟩
structure Bx where
  w0 : World
  S0 : List Nat
  A0 : Nat → Prop
structure Cx where
  P : Program
  n : Nat
  b : Bx
  /-- the calls that have been put off -/
  D : List Deferred
  /-- the round of a range over a function, if it is one -/
  rd : Option Nat
structure Ok (c : Cx) (a : Act) (fr : Fr) : Prop where
  d : a.defers = c.D
  sz : a.tmps.size = c.n
  at_ : ∀ t v, lk fr t = some v → a.tmps.getD t undef = v
theorem Ok.ev {c : Cx} {a : Act} {fr : Fr} {x : Operand} {v : Value} (h : Ok c a fr) (hx : ev fr x = some v) : a.eval x = v := by
  cases x with
  | tmp t => exact h.at_ t v hx
  | const u => simpa [W.ev, Act.eval] using hx
  | global g => simpa [W.ev, Act.eval] using hx
  | func f => simpa [W.ev, Act.eval] using hx
theorem Ok.put {c : Cx} {a : Act} {fr : Fr} {d : Nat} (h : Ok c a fr) (hd : d < c.n) (v : Value) : Ok c (a.put (some d) v) ((d, v) :: fr) := by
  refine ⟨h.d, by simp [Act.put, h.sz], fun t u hu => ?_⟩; rw [lk_cons] at hu; have hdn : d < a.tmps.size := by rw [h.sz]; exact hd
  by_cases e : d = t
  · subst e
    simp at hu
    subst hu
    simp [Act.put, hdn]
  · rw [if_neg e] at hu
    have := h.at_ t u hu
    simpa [Act.put, Array.getElem?_setIfInBounds_ne e] using this
theorem Ok.skip {c : Cx} {a : Act} {fr : Fr} (h : Ok c a fr) (v : Value) : Ok c (a.put none v) fr := h
structure WI (c : Bx) (w : World) (hp : Hp) (L : List Fact) : Prop where
  ext : Ext c.S0 c.w0 w
  own : ∀ p ∈ hp, w.heap[p.1]? = some p.2
  nd : (hp.map (·.1)).Nodup
  s0 : ∀ p ∈ hp, p.1 ∈ c.S0 ∨ c.w0.heap.size ≤ p.1
  fs : ∀ F ∈ L, F.P w
  ap : ∀ F ∈ L, ∀ p ∈ hp, ¬ F.fp p.1
  al : ∀ F ∈ L, ∀ k, F.fp k → c.w0.heap.size ≤ k ∨ k ∈ c.S0 ∨ c.A0 k
theorem lt_of_own {w : World} {k : Nat} {o : Obj} (h : w.heap[k]? = some o) : k < w.heap.size := by
  rcases Nat.lt_or_ge k w.heap.size with h' | h'
  · exact h'
  · simp [Array.getElem?_eq_none h'] at h
theorem WI.quiet {c : Bx} {w w' : World} {hp : Hp} {L : List Fact} (h : WI c w hp L) (e : Ext [] w w') : WI c w' hp L :=
  { ext := h.ext.trans ⟨e.os, e.tape, e.output, e.size, fun k hk _ => e.block k hk (by simp), e.dr⟩
    own := fun p hp => (e.block _ (lt_of_own (h.own p hp)) (by simp)).trans (h.own p hp)
    nd := h.nd, s0 := h.s0, ap := h.ap, al := h.al
    fs := fun F hF => F.st w w' (fun k hk => e.block k (F.lt w (h.fs F hF) k hk) (by simp)) (h.fs F hF) }
theorem WI.weak {c : Bx} {w : World} {hp hp' : Hp} {L L' : List Fact} (h : WI c w hp L) (h1 : hp'.Sublist hp) (h2 : ∀ F ∈ L', F ∈ L) : WI c w hp' L' :=
  { ext := h.ext, own := fun p hp => h.own p (h1.subset hp), nd := h.nd.sublist (h1.map _), s0 := fun p hp => h.s0 p (h1.subset hp),
    fs := fun F hF => h.fs F (h2 F hF), ap := fun F hF p hp => h.ap F (h2 F hF) p (h1.subset hp), al := fun F hF => h.al F (h2 F hF) }
theorem WI.perm {c : Bx} {w : World} {hp hp' : Hp} {L : List Fact} (h : WI c w hp L) (h1 : hp.Perm hp') : WI c w hp' L :=
  { ext := h.ext, own := fun p hp => h.own p (h1.mem_iff.2 hp), nd := (h1.map _).nodup_iff.1 h.nd, s0 := fun p hp => h.s0 p (h1.mem_iff.2 hp),
    fs := h.fs, ap := fun F hF p hp => h.ap F hF p (h1.mem_iff.2 hp), al := h.al }
theorem heap_alloc_lt (w : World) (o : Obj) {k : Nat} (h : k < w.heap.size) : (w.alloc o).heap[k]? = w.heap[k]? := Below.heap_alloc w o k h
theorem ext_alloc (w : World) (o : Obj) : Ext [] w (w.alloc o) := ⟨rfl, rfl, rfl, by simp, fun _ hk _ => heap_alloc_lt w o hk, Nat.le_refl _⟩
theorem ext_drew (w : World) : Ext [] w w.drew := ⟨rfl, rfl, rfl, by simp, fun _ _ _ => rfl, Nat.le_refl _⟩
theorem WI.alloc {c : Bx} {w : World} {hp : Hp} {L : List Fact} (h : WI c w hp L) (o : Obj) : WI c (w.alloc o) ((w.heap.size, o) :: hp) L := by
  have q := h.quiet (ext_alloc w o); have hne : ∀ p ∈ hp, p.1 ≠ w.heap.size := fun p hp e => by have := lt_of_own (h.own p hp); omega
  refine { ext := q.ext, own := ?_, nd := ?_, s0 := ?_, fs := q.fs, ap := ?_, al := q.al }
  · intro p hp
    rcases List.mem_cons.1 hp with rfl | hp
    · show (w.heap.push o)[w.heap.size]? = some o
      simp
    · exact q.own p hp
  · simp only [List.map_cons, List.nodup_cons]
    refine ⟨fun hm => ?_, h.nd⟩; obtain ⟨p, hp, e⟩ := List.mem_map.1 hm; exact hne p hp e
  · intro p hp
    rcases List.mem_cons.1 hp with rfl | hp
    · exact .inr h.ext.size
    · exact h.s0 p hp
  · intro F hF p hp
    rcases List.mem_cons.1 hp with rfl | hp
    · intro hk
      have := F.lt w (h.fs F hF) _ hk
      simp at this
    · exact h.ap F hF p hp
theorem WI.write {c : Bx} {w w' : World} {g : Nat} {o o' : Obj} {hp : Hp} {L : List Fact} (h : WI c w ((g, o) :: hp) L) (e : Ext [g] w w') (hg : w'.heap[g]? = some o') : WI c w' ((g, o') :: hp) L := by
  have hgn : ∀ p ∈ hp, p.1 ≠ g := by
    intro p hp e; have := h.nd; simp only [List.map_cons, List.nodup_cons] at this; exact this.1 (List.mem_map.2 ⟨p, hp, e⟩)
  refine { ext := ?_, own := ?_, nd := h.nd, s0 := ?_, fs := ?_, ap := ?_, al := h.al }
  · refine ⟨e.os.trans h.ext.os, e.tape.trans h.ext.tape, e.output.trans h.ext.output, Nat.le_trans h.ext.size e.size, fun k hk hn => ?_, Nat.le_trans h.ext.dr e.dr⟩
    have hkg : k ≠ g := by
      rintro rfl
      rcases h.s0 (k, o) (by simp) with h1 | h1
      · exact hn h1
      · simp at h1; omega
    exact (e.block k (Nat.lt_of_lt_of_le hk h.ext.size) (by simpa using hkg)).trans (h.ext.block k hk hn)
  · intro p hp
    rcases List.mem_cons.1 hp with rfl | hp
    · exact hg
    · have h1 := h.own p (by simp [hp])
      exact (e.block p.1 (lt_of_own h1) (by simpa using hgn p hp)).trans h1
  · intro p hp
    rcases List.mem_cons.1 hp with rfl | hp
    · exact h.s0 (g, o) (by simp)
    · exact h.s0 p (by simp [hp])
  · intro F hF
    refine F.st w w' (fun k hk => e.block k (F.lt w (h.fs F hF) k hk) ?_) (h.fs F hF); have := h.ap F hF (g, o) (by simp); simp only [List.mem_singleton]; rintro rfl; exact this hk
  · intro F hF p hp
    rcases List.mem_cons.1 hp with rfl | hp
    · exact h.ap F hF (g, o) (by simp)
    · exact h.ap F hF p (by simp [hp])
theorem WI.add {c : Bx} {w : World} {hp : Hp} {L : List Fact} (h : WI c w hp L) {F : Fact} (hF : F.P w) (ha : ∀ p ∈ hp, ¬ F.fp p.1) (hl : ∀ k, F.fp k → c.w0.heap.size ≤ k ∨ k ∈ c.S0 ∨ c.A0 k) : WI c w hp (F :: L) :=
  { ext := h.ext, own := h.own, nd := h.nd, s0 := h.s0
    fs := fun G hG => by rcases List.mem_cons.1 hG with rfl | hG; exact hF; exact h.fs G hG
    ap := fun G hG => by rcases List.mem_cons.1 hG with rfl | hG; exact ha; exact h.ap G hG
    al := fun G hG => by rcases List.mem_cons.1 hG with rfl | hG; exact hl; exact h.al G hG }
theorem WI.letgo {c : Bx} {w : World} {g : Nat} {o : Obj} {hp : Hp} {L : List Fact} (h : WI c w ((g, o) :: hp) L) {F : Fact} (hF : F.P w) (hfp : ∀ k, F.fp k → k = g) : WI c w hp (F :: L) := by
  have hgn : ∀ p ∈ hp, p.1 ≠ g := by
    intro p hp e; have := h.nd; simp only [List.map_cons, List.nodup_cons] at this; exact this.1 (List.mem_map.2 ⟨p, hp, e⟩)
  refine (h.weak (L' := L) (List.sublist_cons_self _ _) (fun _ h => h)).add hF (fun p hp hk => hgn p hp (hfp _ hk)) (fun k hk => ?_); rw [hfp k hk]
  rcases h.s0 (g, o) (by simp) with h1 | h1
  · exact .inr (.inl h1)
  · exact .inl h1
def isDefer (o : Oper) : Bool := match o.op with | .defer _ => true | _ => false
def noDefer (rd : Option Nat) (l : List Oper) : Bool := rd.isNone || l.all fun o => !isDefer o
theorem ext_at (w : World) (d : Nat) : Ext [] w (w.at d) := ⟨rfl, rfl, rfl, Nat.le_refl _, fun _ _ _ => rfl, Nat.le_refl _⟩
theorem WI.at {c : Bx} {w : World} {hp : Hp} {L : List Fact} (h : WI c w hp L) (d : Nat) : WI c (w.at d) hp L := h.quiet (ext_at w d)
/-! ### Lists of operations -/
theorem wpL_plain {P : Program} {ops : Array Oper} {Q : Exit → Act → World → Prop} {a : Act} {w : World} {rest : List Oper} {o : Oper} (hg : o.guard = none)
    (h : ∀ K : Act → World → Prop, (∀ a w, wpL P ops Q rest a w → K a w) → owp P o a w K Q) : wpL P ops Q (o :: rest) a w := by
  unfold wpL; rw [if_pos (by simp [Region.wanted, hg])]; exact h _ fun _ _ h => h
theorem wpL_skip {P : Program} {ops : Array Oper} {Q : Exit → Act → World → Prop} {a : Act} {w : World} {rest : List Oper} {o : Oper} (hw : Region.wanted o (yielded ops a.tmps) = false)
    (h : wpL P ops Q rest (a.put o.dst undef) w) : wpL P ops Q (o :: rest) a w := by
  unfold wpL; rw [if_neg (by rw [hw]; decide)]; exact h
/-! ### Triples -/
def HL (c : Cx) (ops : Array Oper) (Q : Exit → Act → World → Prop) (rest : List Oper) (fr : Fr) (hp : Hp) (L : List Fact) : Prop :=
  ∀ a w, Ok c a fr → WI c.b w hp L → wpL c.P ops Q rest a w
def cw (c : Cx) (code : Code) (Q : Exit → Act → World → Prop) : Act → World → Prop := cwp c.rd c.P code Q
def HC (c : Cx) (code : Code) (Q : Exit → Act → World → Prop) (fr : Fr) (hp : Hp) (L : List Fact) : Prop :=
  ∀ a w, Ok c a fr → WI c.b w hp L → cw c code Q a w
def HQ (c : Cx) (Q : Exit → Act → World → Prop) (e : Exit) (fr : Fr) (hp : Hp) (L : List Fact) : Prop :=
  ∀ a w, Ok c a fr → WI c.b w hp L → Q e a w
section
variable {c : Cx} {Q : Exit → Act → World → Prop} {fr : Fr} {hp : Hp} {L : List Fact} {ops : Array Oper} {rest : List Oper}
theorem hc_seq {x y : Code} (h : HC c x (Exit.then (cw c y Q) Q) fr hp L) : HC c (.seq x y) Q fr hp L := fun a w ha hw => cwp_seq (h a w ha hw)
theorem then_n {y : Code} (h : HC c y Q fr hp L) : HQ c (Exit.then (cw c y Q) Q) .normal fr hp L := fun a w ha hw => h a w ha hw
theorem then_exit {K : Act → World → Prop} {id : Nat} (h : HQ c Q (.exit id) fr hp L) : HQ c (Exit.then K Q) (.exit id) fr hp L := fun a w ha hw => h a w ha hw
theorem then_ret {K : Act → World → Prop} (h : HQ c Q .ret fr hp L) : HQ c (Exit.then K Q) .ret fr hp L := fun a w ha hw => h a w ha hw
theorem inb_n {id : Nat} (h : HQ c Q .normal fr hp L) : HQ c (Exit.inBlock id Q) .normal fr hp L := fun a w ha hw => h a w ha hw
theorem inb_ret {id : Nat} (h : HQ c Q .ret fr hp L) : HQ c (Exit.inBlock id Q) .ret fr hp L := fun a w ha hw => h a w ha hw
theorem inb_hit {id : Nat} (h : HQ c Q .normal fr hp L) : HQ c (Exit.inBlock id Q) (.exit id) fr hp L := fun a w ha hw => by
  show if id = id then _ else _; rw [if_pos rfl]; exact h a w ha hw
theorem inb_miss {id id' : Nat} (hne : Nat.beq id' id = false) (h : HQ c Q (.exit id') fr hp L) : HQ c (Exit.inBlock id Q) (.exit id') fr hp L := fun a w ha hw => by
  show if id' = id then _ else _; rw [if_neg (fun e => by subst e; simp [Nat.beq_refl] at hne)]; exact h a w ha hw
theorem hc_regionR {id : Nat} {l : List Oper} (_ : (0 : Nat) = 0) (h : HL c l.toArray Q l fr hp L) : HC c (.region id l.toArray false) Q fr hp L := fun a w ha hw => cwp_region (h a w ha hw)
theorem hc_region {P : Program} {n : Nat} {b : Bx} {D : List Deferred} {id : Nat} {l : List Oper} (h : HL ⟨P, n, b, D, none⟩ l.toArray Q l fr hp L) : HC ⟨P, n, b, D, none⟩ (.region id l.toArray false) Q fr hp L := hc_regionR rfl h
theorem hl_nil (h : HQ c Q .normal fr hp L) : HL c ops Q [] fr hp L := fun a w ha hw => h a w ha hw
theorem hc_skip (h : HQ c Q .normal fr hp L) : HC c .skip Q fr hp L := fun a w ha hw => cwp_skip (h a w ha hw)
theorem hc_exit {id : Nat} (h : HQ c Q (.exit id) fr hp L) : HC c (.exit id) Q fr hp L := fun a w ha hw => cwp_exit (h a w ha hw)
theorem hc_ret (h : HQ c Q .ret fr hp L) : HC c .ret Q fr hp L := fun a w ha hw => cwp_ret (h a w ha hw)
theorem hc_block {id : Nat} {x : Code} (h : HC c x (Exit.inBlock id Q) fr hp L) : HC c (.block id x) Q fr hp L := fun a w ha hw => cwp_block (h a w ha hw)
theorem hc_cond {x : Operand} {b : Bool} {thn els : Code} (hx : ev fr x = some (.bool b)) (ht : b = true → HC c thn Q fr hp L) (hf : b = false → HC c els Q fr hp L) : HC c (.cond x thn els) Q fr hp L :=
  fun a w ha hw => cwp_cond_split (ha.ev hx) (fun e => ht e a w ha hw) (fun e => hf e a w ha hw)
theorem hc_cond_t {x : Operand} {thn els : Code} (hx : ev fr x = some (.bool true)) (ht : HC c thn Q fr hp L) : HC c (.cond x thn els) Q fr hp L :=
  fun a w ha hw => cwp_cond (t := true) (ha.ev hx) (ht a w ha hw)
theorem hc_cond_f {x : Operand} {thn els : Code} (hx : ev fr x = some (.bool false)) (hf : HC c els Q fr hp L) : HC c (.cond x thn els) Q fr hp L :=
  fun a w ha hw => cwp_cond (t := false) (ha.ev hx) (hf a w ha hw)
def FrSub (fr : Fr) : Fr → Prop
  | [] => True
  | (t, v) :: r => lk fr t = some v ∧ FrSub fr r
theorem FrSub.lk {fr : Fr} : ∀ {fr' : Fr}, FrSub fr fr' → ∀ t v, W.lk fr' t = some v → W.lk fr t = some v
  | [], _, t, v, h => by simp [W.lk] at h
  | (k, u) :: r, hs, t, v, h => by
    rw [lk_cons] at h
    split at h
    · rename_i e; subst e; cases h; exact hs.1
    · exact FrSub.lk hs.2 t v h
theorem Ok.sub {a : Act} {fr fr' : Fr} (h : Ok c a fr) (hs : FrSub fr fr') : Ok c a fr' := ⟨h.d, h.sz, fun t v hv => h.at_ t v (hs.lk t v hv)⟩
def LSub (L : List Fact) : List Fact → Prop
  | [] => True
  | F :: r => F ∈ L ∧ LSub L r
theorem LSub.mem {L : List Fact} : ∀ {L' : List Fact}, LSub L L' → ∀ F ∈ L', F ∈ L
  | [], _, F, h => by simp at h
  | G :: r, hs, F, h => by
    rcases List.mem_cons.1 h with rfl | h
    · exact hs.1
    · exact LSub.mem hs.2 F h
theorem LSub.of_mem {L : List Fact} : ∀ {L' : List Fact}, (∀ F ∈ L', F ∈ L) → LSub L L'
  | [], _ => trivial
  | G :: r, h => ⟨h G (by simp), LSub.of_mem fun F hF => h F (by simp [hF])⟩
theorem hc_perm {code : Code} {hp' : Hp} (h1 : hp.Perm hp') (h : HC c code Q fr hp' L) : HC c code Q fr hp L := fun a w ha hw => h a w ha (hw.perm h1)
theorem hq_perm {e : Exit} {hp' : Hp} (h1 : hp.Perm hp') (h : HQ c Q e fr hp' L) : HQ c Q e fr hp L := fun a w ha hw => h a w ha (hw.perm h1)
structure Sta (β : Type) where
  inv : β → Prop
  fr : β → Fr
  hp : β → Hp
  L : β → List Fact
def Sta.holds {β : Type} (s : Sta β) (c : Cx) (a : Act) (w : World) : Prop := ∃ y, s.inv y ∧ Ok c a (s.fr y) ∧ WI c.b w (s.hp y) (s.L y)
theorem hc_cut {β : Type} (s : Sta β) {x y : Code} (h : HC c x (Exit.then (s.holds c) Q) fr hp L) (k : ∀ z, s.inv z → HC c y Q (s.fr z) (s.hp z) (s.L z)) : HC c (.seq x y) Q fr hp L :=
  fun a w ha hw => cwp_seq (cwp_mono (h a w ha hw) (fun e a w hq => by
    cases e <;> first | exact hq | (obtain ⟨z, hz, hok, hwi⟩ := hq; exact k z hz a w hok hwi)))
theorem cut_n {β : Type} (s : Sta β) (z : β) (hz : s.inv z) (h1 : FrSub fr (s.fr z)) (h2 : (s.hp z).Sublist hp) (h3 : LSub L (s.L z)) : HQ c (Exit.then (s.holds c) Q) .normal fr hp L :=
  fun _ _ ha hw => ⟨z, hz, ha.sub h1, hw.weak h2 h3.mem⟩
def AgainQ {β : Type} (s : Sta β) (μ : β → Nat) (m : Nat) (c : Cx) (a : Act) (w : World) : Prop := ∃ y, s.inv y ∧ μ y < m ∧ Ok c a (s.fr y) ∧ WI c.b w (s.hp y) (s.L y)
theorem hc_loop {β : Type} (s : Sta β) (μ : β → Nat) {body : Code} (z0 : β) (hz0 : s.inv z0) (h1 : FrSub fr (s.fr z0)) (h2 : (s.hp z0).Sublist hp) (h3 : LSub L (s.L z0))
    (round : ∀ z, s.inv z → HC c body (Exit.then (AgainQ s μ (μ z) c) Q) (s.fr z) (s.hp z) (s.L z)) : HC c (.loop body) Q fr hp L :=
  fun a w ha hw => cwp_loop (fun m a w => ∃ y, μ y = m ∧ s.inv y ∧ Ok c a (s.fr y) ∧ WI c.b w (s.hp y) (s.L y)) (μ z0) ⟨z0, rfl, hz0, ha.sub h1, hw.weak h2 h3.mem⟩
    fun m a w ⟨y, hm, hy, hok, hwi⟩ => cwp_mono (round y hy a w hok hwi) fun e a w hq => by
      cases e <;> first | exact hq | (obtain ⟨z, hz, hlt, hok', hwi'⟩ := hq; exact ⟨μ z, by rw [← hm]; exact hlt, z, rfl, hz, hok', hwi'⟩)
theorem again {β : Type} (s : Sta β) {μ : β → Nat} {m : Nat} (y : β) (hy : s.inv y) (hlt : μ y < m) (h1 : FrSub fr (s.fr y)) (h2 : (s.hp y).Sublist hp) (h3 : LSub L (s.L y)) :
    HQ c (Exit.then (AgainQ s μ m c) Q) .normal fr hp L :=
  fun _ _ ha hw => ⟨y, hy, hlt, ha.sub h1, hw.weak h2 h3.mem⟩
/-! ### Contracts -/
structure Con (β : Type) where
  hpI : Hp := []
  LI : List Fact := []
  inv : β → Prop := fun _ => True
  val : β → Value
  hpO : β → Hp := fun _ => []
  LO : β → List Fact := fun _ => []
def Con.entry {β : Type} (k : Con β) (w : World) : Bx := ⟨w, k.hpI.map (·.1), fun b => ∃ F ∈ k.LI, F.fp b⟩
def Con.post {β : Type} (k : Con β) (w : World) (v : Value) (w' : World) : Prop := ∃ x, v = k.val x ∧ k.inv x ∧ WI (k.entry w) w' (k.hpO x) (k.LO x)
def Meets (P : Program) (f : Nat) (args : List Value) {β : Type} (k : Con β) : Prop :=
  ∀ w, WI (k.entry w) w k.hpI k.LI → CallsB P f args.toArray w (k.post w)
def argFr (i : Nat) : List Value → Fr
  | [] => []
  | v :: r => (i, v) :: argFr (i + 1) r
theorem lk_argFr : ∀ (l : List Value) (i t : Nat) (v : Value), lk (argFr i l) t = some v → i ≤ t ∧ l[t - i]? = some v
  | [], i, t, v, h => by simp [argFr, lk] at h
  | u :: r, i, t, v, h => by
    rw [argFr, lk_cons] at h
    split at h
    · rename_i e; subst e; cases h; simp
    · obtain ⟨h1, h2⟩ := lk_argFr r (i + 1) t v h
      refine ⟨by omega, ?_⟩; have : t - i = (t - (i + 1)) + 1 := by omega
      rw [this]; simpa using h2
theorem meets_intro {β : Type} {P : Program} {f : Nat} {args : List Value} {k : Con β} {fn : Func} {code : Code} (hf : P.funcs[f]? = some fn) (hb : fn.body = some code) (hn : args.length ≤ fn.ntmps)
    (h : ∀ w, HC ⟨P, fn.ntmps, k.entry w, [], none⟩ code (postB P fn (k.post w)) (argFr 0 args) k.hpI k.LI) : Meets P f args k := by
  intro w hw; refine callsB_of hf hb (h w _ w ⟨rfl, by simp; omega, fun t v hv => ?_⟩ hw); obtain ⟨_, h2⟩ := lk_argFr args 0 t v hv; simp only [Nat.sub_zero] at h2
  have hlt : t < args.length := by
    rcases Nat.lt_or_ge t args.length with h' | h'
    · exact h'
    · rw [List.getElem?_eq_none h'] at h2; cases h2
  rw [List.getElem?_eq_getElem hlt] at h2
  injection h2 with h2
  simp [Array.getElem?_append, hlt, h2]
theorem ret_run {β : Type} {k : Con β} {fn : Func} {w0 : World} (x : β) (hr : ∀ a w, Ok c a fr → WI c.b w hp L → (results fn a.tmps).run c.P w = .ok (k.val x) w) (hb : c.b = k.entry w0) (hi : k.inv x) (h2 : (k.hpO x).Sublist hp) (h3 : LSub L (k.LO x)) (hD : c.D = [] := by exact rfl) :
    HQ c (postB c.P fn (k.post w0)) .ret fr hp L := fun a w ha hw => ⟨ha.d.trans hD, k.val x, fun d => hr a _ ha (hw.at d), x, rfl, hi, hb ▸ hw.weak h2 h3.mem⟩
theorem ret_run_n {β : Type} {k : Con β} {fn : Func} {w0 : World} (x : β) (hr : ∀ a w, Ok c a fr → WI c.b w hp L → (results fn a.tmps).run c.P w = .ok (k.val x) w) (hb : c.b = k.entry w0) (hi : k.inv x) (h2 : (k.hpO x).Sublist hp) (h3 : LSub L (k.LO x)) (hD : c.D = [] := by exact rfl) :
    HQ c (postB c.P fn (k.post w0)) .normal fr hp L := fun a w ha hw => ⟨ha.d.trans hD, k.val x, fun d => hr a _ ha (hw.at d), x, rfl, hi, hb ▸ hw.weak h2 h3.mem⟩
theorem ret1 {β : Type} {k : Con β} {fn : Func} {w0 : World} (x : β) {t : Tmp} (hres : fn.results = #[.tmp t]) (hv : lk fr t = some (k.val x)) (hb : c.b = k.entry w0) (hi : k.inv x) (h2 : (k.hpO x).Sublist hp) (h3 : LSub L (k.LO x)) (hD : c.D = [] := by exact rfl) :
    HQ c (postB c.P fn (k.post w0)) .ret fr hp L :=
  ret_run x (fun a w ha _ => by rw [results_tmp hres, ha.at_ _ _ hv]) hb hi h2 h3 hD
theorem ret2 {β : Type} {k : Con β} {fn : Func} {w0 : World} (x : β) {t u : Tmp} {v1 v2 : Value} (hres : fn.results = #[.tmp t, .tmp u]) (hv1 : lk fr t = some v1) (hv2 : lk fr u = some v2) (hk : k.val x = .tuple #[v1, v2]) (hb : c.b = k.entry w0) (hi : k.inv x) (h2 : (k.hpO x).Sublist hp) (h3 : LSub L (k.LO x)) (hD : c.D = [] := by exact rfl) :
    HQ c (postB c.P fn (k.post w0)) .ret fr hp L :=
  ret_run x (fun a w ha _ => by rw [results_tmp2 hres, ha.at_ _ _ hv1, ha.at_ _ _ hv2, hk]) hb hi h2 h3 hD
theorem ret0n {β : Type} {k : Con β} {fn : Func} {w0 : World} (x : β) (hres : fn.results = #[]) (hk : k.val x = .tuple #[]) (hb : c.b = k.entry w0) (hi : k.inv x) (h2 : (k.hpO x).Sublist hp) (h3 : LSub L (k.LO x)) (hD : c.D = [] := by exact rfl) :
    HQ c (postB c.P fn (k.post w0)) .normal fr hp L :=
  ret_run_n x (fun a w _ _ => by rw [results_none hres, hk]) hb hi h2 h3 hD
end
theorem WI.entry {b : Bx} {w : World} {hp hpR : Hp} {L : List Fact} {β : Type} {k : Con β} (h : WI b w hp L) (h1 : hp.Perm (k.hpI ++ hpR)) (h2 : ∀ F ∈ k.LI, F ∈ L) : WI (k.entry w) w k.hpI k.LI := by
  have h' := h.perm h1; have hs : k.hpI.Sublist (k.hpI ++ hpR) := List.sublist_append_left _ _
  exact ⟨Ext.refl _ _, fun p hp => h'.own p (by simp [hp]), h'.nd.sublist (hs.map _), fun p hp => .inl (List.mem_map.2 ⟨p, hp, rfl⟩),
    fun F hF => h.fs F (h2 F hF), fun F hF p hp => h'.ap F (h2 F hF) p (by simp [hp]), fun F hF x hx => .inr (.inr ⟨F, hF, hx⟩)⟩
theorem WI.back {b : Bx} {w w' : World} {hp hpR : Hp} {L : List Fact} {β : Type} {k : Con β} {x : β} (h : WI b w hp L) (h1 : hp.Perm (k.hpI ++ hpR)) (h2 : ∀ F ∈ k.LI, F ∈ L)
    (r : WI (k.entry w) w' (k.hpO x) (k.LO x)) : WI b w' (k.hpO x ++ hpR) (k.LO x ++ L) := by
  have h' := h.perm h1
  have hnd : ∀ p ∈ k.hpI, ∀ q ∈ hpR, p.1 ≠ q.1 := by
    have := h'.nd; rw [List.map_append, List.nodup_append] at this; intro p hp q hq; exact this.2.2 p.1 (List.mem_map.2 ⟨p, hp, rfl⟩) q.1 (List.mem_map.2 ⟨q, hq, rfl⟩)
  have hlt : ∀ q ∈ hpR, q.1 < w.heap.size := fun q hq => lt_of_own (h'.own q (by simp [hq]))
  have hoR : ∀ p ∈ k.hpO x, ∀ q ∈ hpR, p.1 ≠ q.1 := by
    intro p hp q hq e
    rcases r.s0 p hp with h3 | h3
    · obtain ⟨p', hp', e'⟩ := List.mem_map.1 h3
      exact hnd p' hp' q hq (e'.trans e)
    · have := hlt q hq; simp only [Con.entry] at h3; omega
  refine { ext := ?_, own := ?_, nd := ?_, s0 := ?_, fs := ?_, ap := ?_, al := ?_ }
  · refine ⟨r.ext.os.trans h.ext.os, r.ext.tape.trans h.ext.tape, r.ext.output.trans h.ext.output, Nat.le_trans h.ext.size r.ext.size, fun i hi hn => ?_, Nat.le_trans h.ext.dr r.ext.dr⟩
    refine (r.ext.block i (Nat.lt_of_lt_of_le hi h.ext.size) (fun hm => ?_)).trans (h.ext.block i hi hn); obtain ⟨p, hp, e⟩ := List.mem_map.1 hm
    rcases h'.s0 p (by simp [hp]) with h3 | h3
    · exact hn (e ▸ h3)
    · omega
  · intro p hp
    rcases List.mem_append.1 hp with hp | hp
    · exact r.own p hp
    · refine (r.ext.block p.1 (hlt p hp) (fun hm => ?_)).trans (h'.own p (by simp [hp]))
      obtain ⟨q, hq, e⟩ := List.mem_map.1 hm; exact hnd q hq p hp e
  · rw [List.map_append, List.nodup_append]
    refine ⟨r.nd, ?_, fun i hi j hj => ?_⟩
    · have := h'.nd
      rw [List.map_append, List.nodup_append] at this; exact this.2.1
    · obtain ⟨p, hp, rfl⟩ := List.mem_map.1 hi
      obtain ⟨q, hq, rfl⟩ := List.mem_map.1 hj; exact hoR p hp q hq
  · intro p hp
    rcases List.mem_append.1 hp with hp | hp
    · rcases r.s0 p hp with h3 | h3
      · obtain ⟨p', hp', e'⟩ := List.mem_map.1 h3
        exact e' ▸ h'.s0 p' (by simp [hp'])
      · exact .inr (Nat.le_trans h.ext.size h3)
    · exact h'.s0 p (by simp [hp])
  · intro F hF
    rcases List.mem_append.1 hF with hF | hF
    · exact r.fs F hF
    · refine F.st w w' (fun i hi => r.ext.block i (F.lt w (h.fs F hF) i hi) (fun hm => ?_)) (h.fs F hF)
      obtain ⟨p, hp, e⟩ := List.mem_map.1 hm; exact h'.ap F hF p (by simp [hp]) (e ▸ hi)
  · intro F hF p hp hk
    rcases List.mem_append.1 hF with hF | hF
    · rcases List.mem_append.1 hp with hp | hp
      · exact r.ap F hF p hp hk
      · rcases r.al F hF p.1 hk with h3 | h3 | ⟨G, hG, h3⟩
        · have := hlt p hp; simp only [Con.entry] at h3; omega
        · obtain ⟨q, hq, e⟩ := List.mem_map.1 h3
          exact hnd q hq p hp e
        · exact h'.ap G (h2 G hG) p (by simp [hp]) h3
    · rcases List.mem_append.1 hp with hp | hp
      · rcases r.s0 p hp with h3 | h3
        · obtain ⟨q, hq, e⟩ := List.mem_map.1 h3
          exact h'.ap F hF q (by simp [hq]) (e ▸ hk)
        · have := F.lt w (h.fs F hF) _ hk; simp only [Con.entry] at h3; omega
      · exact h'.ap F hF p (by simp [hp]) hk
  · intro F hF i hk
    rcases List.mem_append.1 hF with hF | hF
    · rcases r.al F hF i hk with h3 | h3 | ⟨G, hG, h3⟩
      · exact .inl (Nat.le_trans h.ext.size h3)
      · obtain ⟨q, hq, e⟩ := List.mem_map.1 h3
        rcases h'.s0 q (by simp [hq]) with h4 | h4
        · exact .inr (.inl (e ▸ h4))
        · exact .inl (e ▸ h4)
      · exact h.al G (h2 G hG) i h3
    · exact h.al F hF i hk
structure Callable (P : Program) (f : Nat) : Prop where
  ex : ∃ fn, P.funcs[f]? = some fn ∧ (fn.name == "runtime.NumGoroutine") = false ∧ fn.body.isNone = false
theorem Callable.run {P : Program} {f : Nat} (h : Callable P f) (args : Array Value) (w : World) : (callFunc f args).run P w = .ok (.enter f args) w := by
  obtain ⟨fn, h1, h2, h3⟩ := h.ex; simp only [callFunc, Sem.run_bind, run_program, Result.andThen_ok, h1, h2, h3, Bool.false_eq_true, if_false, Sem.run_pure]
theorem mB {α : Type _} {a : α} {l : List α} (h : a ∈ l := by repeat constructor) : a ∈ l := h
end Go.W
end
section
namespace Go.W
open Go Go.RowKit
abbrev Str := List UInt8
def str (s : Str) : Value := .string ⟨s.toArray⟩
abbrev int (n : Int) : Value := .int .i64 n
def I64 (n : Int) : Prop := -9223372036854775808 ≤ n ∧ n ≤ 9223372036854775807
section
variable {c : Cx} {Q : Exit → Act → World → Prop} {fr : Fr} {hp : Hp} {L : List Fact} {ops : Array Oper} {rest : List Oper}
variable {d : Tmp} {ty : TypeId} {pos : String} {af : Array Edge}
theorem hl_gen {o : Oper} (ho : o.dst = some d) (hg : o.guard = none) (hd : Nat.blt d c.n = true)
    (h : ∀ a w, Ok c a fr → WI c.b w hp L → ∃ v w' hp' L', (execOp a.eval o).run c.P w = .ok (.value v) w' ∧ WI c.b w' hp' L' ∧ HL c ops Q rest ((d, v) :: fr) hp' L') (hok : okOp o = true := by exact rfl) : HL c ops Q (o :: rest) fr hp L := by
  intro a w ha hw; refine wpL_plain hg fun K hK => fun d0 => ⟨calm_exec hok _, ?_⟩; obtain ⟨v, w', hp', L', hr, hw', hk⟩ := h a (w.at d0) ha (hw.at d0); rw [hr, uponB_value, ho]; exact hK _ _ (hk _ _ (ha.put (by simpa using hd) v) hw')
theorem hl_val {o : Oper} (v : Value) (ho : o.dst = some d) (hg : o.guard = none) (hd : Nat.blt d c.n = true)
    (hr : ∀ a w, Ok c a fr → WI c.b w hp L → (execOp a.eval o).run c.P w = .ok (.value v) w) (k : HL c ops Q rest ((d, v) :: fr) hp L) (hok : okOp o = true := by exact rfl) : HL c ops Q (o :: rest) fr hp L :=
  hl_gen ho hg hd (fun a w ha hw => ⟨v, w, hp, L, hr a w ha hw, hw, k⟩) hok
theorem hl_unit {o : Oper} (ho : o.dst = none) (hg : o.guard = none)
    (h : ∀ a w, Ok c a fr → WI c.b w hp L → ∃ w' hp' L', (execOp a.eval o).run c.P w = .ok .skip w' ∧ WI c.b w' hp' L' ∧ HL c ops Q rest fr hp' L') (hok : okOp o = true := by exact rfl) : HL c ops Q (o :: rest) fr hp L := by
  intro a w ha hw; refine wpL_plain hg fun K hK => fun d0 => ⟨calm_exec hok _, ?_⟩; obtain ⟨w', hp', L', hr, hw', hk⟩ := h a (w.at d0) ha (hw.at d0); rw [hr, uponB_skip, ho]; exact hK _ _ (hk _ _ ha hw')
/-! Guards -/
theorem yielded_eq {a : Act} {j : Nat} {t : Tmp} {b : Bool} (ha : Ok c a fr) (hj : (ops[j]?).bind (·.dst) = some t) (hv : lk fr t = some (.bool b)) : yielded ops a.tmps j = some b := by
  have h1 := ha.at_ t _ hv; unfold yielded; rw [hj]; simp only [Option.bind_some]
  have : a.tmps[t]? = some (.bool b) := by
    cases h2 : a.tmps[t]? with
    | none => simp [Array.getD_eq_getD_getElem?, h2, undef] at h1
    | some u => simp [Array.getD_eq_getD_getElem?, h2] at h1; rw [h1]
  rw [this]
theorem g_no {o : Oper} {j : Nat} {want b : Bool} {t : Tmp} (ho : o.dst = some d) (hg : o.guard = some (j, want)) (hd : Nat.blt d c.n = true) (hj : (ops[j]?).bind (·.dst) = some t) (hv : lk fr t = some (.bool b)) (hb : (b == want) = false)
    (k : HL c ops Q rest ((d, undef) :: fr) hp L) : HL c ops Q (o :: rest) fr hp L := by
  intro a w ha hw; refine wpL_skip ?_ ?_
  · rw [Region.wanted, hg]
    show (yielded ops a.tmps j == some want) = false; rw [yielded_eq ha hj hv]
    simpa using hb
  · rw [ho]; exact k _ _ (ha.put (by simpa using hd) _) hw
theorem g_yes {dst : Option Tmp} {op : Op} {j : Nat} {want b : Bool} {t : Tmp} (hj : (ops[j]?).bind (·.dst) = some t) (hv : lk fr t = some (.bool b)) (hb : (b == want) = true)
    (k : HL c ops Q (⟨dst, op, ty, pos, af, none⟩ :: rest) fr hp L) : HL c ops Q (⟨dst, op, ty, pos, af, some (j, want)⟩ :: rest) fr hp L := by
  intro a w ha hw; have h1 := k a w ha hw
  have hw1 : Region.wanted ⟨dst, op, ty, pos, af, some (j, want)⟩ (yielded ops a.tmps) = true := by
    show (yielded ops a.tmps j == some want) = true; rw [yielded_eq ha hj hv]
    simpa using hb
  unfold wpL at h1 ⊢; rw [if_pos hw1]; rw [if_pos (by simp [Region.wanted])] at h1; exact h1
/-! Plain values -/
theorem r_move {x : Operand} {v : Value} (hd : Nat.blt d c.n = true) (hx : ev fr x = some v) (k : HL c ops Q rest ((d, v) :: fr) hp L) : HL c ops Q (⟨some d, .move x, ty, pos, af, none⟩ :: rest) fr hp L :=
  hl_val v rfl rfl hd (fun a w ha _ => by show Result.ok (Next.value (a.eval x)) w = _; rw [ha.ev hx]) k
theorem r_assign {x : Operand} {v : Value} (hd : Nat.blt d c.n = true) (hx : ev fr x = some v) (k : HL c ops Q rest ((d, v) :: fr) hp L) : HL c ops Q (⟨some d, .assign x, ty, pos, af, none⟩ :: rest) fr hp L :=
  hl_val v rfl rfl hd (fun a w ha _ => by show Result.ok (Next.value (a.eval x)) w = _; rw [ha.ev hx]) k
theorem r_pick_t {x y z : Operand} {v : Value} (hd : Nat.blt d c.n = true) (hx : ev fr x = some (.bool true)) (hy : ev fr y = some v) (k : HL c ops Q rest ((d, v) :: fr) hp L) : HL c ops Q (⟨some d, .pick x y z, ty, pos, af, none⟩ :: rest) fr hp L :=
  hl_val v rfl rfl hd (fun a w ha _ => by show ((do pure (.value (if ← asBool (a.eval x) then a.eval y else a.eval z)) : Sem Next)).run c.P w = _; rw [ha.ev hx, ha.ev hy]; rfl) k
theorem r_pick_f {x y z : Operand} {v : Value} (hd : Nat.blt d c.n = true) (hx : ev fr x = some (.bool false)) (hz : ev fr z = some v) (k : HL c ops Q rest ((d, v) :: fr) hp L) : HL c ops Q (⟨some d, .pick x y z, ty, pos, af, none⟩ :: rest) fr hp L :=
  hl_val v rfl rfl hd (fun a w ha _ => by show ((do pure (.value (if ← asBool (a.eval x) then a.eval y else a.eval z)) : Sem Next)).run c.P w = _; rw [ha.ev hx, ha.ev hz]; rfl) k
theorem r_not {t : TypeId} {x : Operand} {b : Bool} (hd : Nat.blt d c.n = true) (hx : ev fr x = some (.bool b)) (k : HL c ops Q rest ((d, .bool (!b)) :: fr) hp L) : HL c ops Q (⟨some d, .unOp .not t x, ty, pos, af, none⟩ :: rest) fr hp L :=
  hl_val _ rfl rfl hd (fun a w ha _ => by show ((do pure (.value (← Op.unary .not (a.eval x))) : Sem Next)).run c.P w = _; rw [ha.ev hx]; rfl) k
theorem r_nilCheck {x : Operand} {p : Addr} (hd : Nat.blt d c.n = true) (hx : ev fr x = some (.pointer (some p))) (k : HL c ops Q rest ((d, .pointer (some p)) :: fr) hp L) : HL c ops Q (⟨some d, .nilCheck x, ty, pos, af, none⟩ :: rest) fr hp L :=
  hl_val _ rfl rfl hd (fun a w ha _ => by simp only [execOp]; rw [ha.ev hx]; rfl) k
theorem r_extract {x : Operand} {vs : Array Value} {i : Nat} {v : Value} (hd : Nat.blt d c.n = true) (hx : ev fr x = some (.tuple vs)) (hv : vs[i]? = some v) (k : HL c ops Q rest ((d, v) :: fr) hp L) : HL c ops Q (⟨some d, .extract x i, ty, pos, af, none⟩ :: rest) fr hp L :=
  hl_val _ rfl rfl hd (fun a w ha _ => by simp only [execOp]; rw [ha.ev hx]; simp [Instr.extract, hv]) k
theorem r_makeFunc {fn : Fn} {first cap : Array Operand} {v1 v2 : List Value} (hd : Nat.blt d c.n = true) (h1 : first.toList.mapM (ev fr) = some v1) (h2 : cap.toList.mapM (ev fr) = some v2)
    (k : HL c ops Q rest ((d, .func fn v1.toArray v2.toArray) :: fr) hp L) : HL c ops Q (⟨some d, .makeFunc fn first cap, ty, pos, af, none⟩ :: rest) fr hp L :=
  hl_val _ rfl rfl hd (fun a w ha _ => by
    have key : ∀ (xs : List Operand) (vs : List Value), xs.mapM (ev fr) = some vs → xs.map a.eval = vs := by
      intro xs
      induction xs with
      | nil => intro vs h; simpa using h
      | cons x xs ih =>
        intro vs h; simp only [List.mapM_cons, Option.bind_eq_bind, Option.bind_eq_some_iff, Option.pure_def, Option.some.injEq] at h; obtain ⟨v, hv, us, hus, rfl⟩ := h; rw [List.map_cons, ha.ev hv, ih us hus]
    have e1 : first.map a.eval = v1.toArray := by apply Array.ext'; simpa using key _ _ h1
    have e2 : cap.map a.eval = v2.toArray := by apply Array.ext'; simpa using key _ _ h2
    simp only [execOp, e1, e2]; rfl) k
/-! Numbers -/
theorem run_bin {a : Act} {w : World} {op : BinOp} {t yt : TypeId} {x y : Operand} {u v r : Value} {P : Program} (hx : a.eval x = u) (hy : a.eval y = v) (hg : (eqGuard op t x y u v).run P w = .ok () w) (hr : (binOp op t u v).run P w = .ok r w) :
    (execOp a.eval ⟨some d, .binOp op t x y yt, ty, pos, af, none⟩).run P w = .ok (.value r) w := by
  simp only [execOp, hx, hy, Sem.run_bind, hg, hr, Result.andThen_ok, Sem.run_pure]
theorem r_add {t yt : TypeId} {x y : Operand} {a b : Int} (z : Int) (hd : Nat.blt d c.n = true) (hx : ev fr x = some (int a)) (hy : ev fr y = some (int b)) (hz : a + b = z) (hr : I64 z) (k : HL c ops Q rest ((d, int z) :: fr) hp L) :
    HL c ops Q (⟨some d, .binOp .add t x y yt, ty, pos, af, none⟩ :: rest) fr hp L :=
  hl_val _ rfl rfl hd (fun a' w ha _ => run_bin (ha.ev hx) (ha.ev hy) rfl (by
    show Result.ok (Value.int .i64 (IntKind.i64.wrap (a + b))) w = _
    rw [IntWalk.i64_in _ (hz ▸ hr), hz])) k
theorem r_sub {t yt : TypeId} {x y : Operand} {a b : Int} (z : Int) (hd : Nat.blt d c.n = true) (hx : ev fr x = some (int a)) (hy : ev fr y = some (int b)) (hz : a - b = z) (hr : I64 z) (k : HL c ops Q rest ((d, int z) :: fr) hp L) :
    HL c ops Q (⟨some d, .binOp .sub t x y yt, ty, pos, af, none⟩ :: rest) fr hp L :=
  hl_val _ rfl rfl hd (fun a' w ha _ => run_bin (ha.ev hx) (ha.ev hy) rfl (by
    show Result.ok (Value.int .i64 (IntKind.i64.wrap (a - b))) w = _
    rw [IntWalk.i64_in _ (hz ▸ hr), hz])) k
theorem r_eql {t yt : TypeId} {x y : Operand} {kd : IntKind} {a b : Int} (hd : Nat.blt d c.n = true) (hx : ev fr x = some (.int kd a)) (hy : ev fr y = some (.int kd b)) (k : HL c ops Q rest ((d, .bool (decide (a = b))) :: fr) hp L) :
    HL c ops Q (⟨some d, .binOp .eql t x y yt, ty, pos, af, none⟩ :: rest) fr hp L :=
  hl_val _ rfl rfl hd (fun a' w ha _ => run_bin (u := .int kd a) (v := .int kd b) (ha.ev hx) (ha.ev hy) rfl (by cases kd <;> rfl)) k
theorem r_neq {t yt : TypeId} {x y : Operand} {kd : IntKind} {a b : Int} (hd : Nat.blt d c.n = true) (hx : ev fr x = some (.int kd a)) (hy : ev fr y = some (.int kd b)) (k : HL c ops Q rest ((d, .bool (decide (¬ a = b))) :: fr) hp L) :
    HL c ops Q (⟨some d, .binOp .neq t x y yt, ty, pos, af, none⟩ :: rest) fr hp L :=
  hl_val _ rfl rfl hd (fun a' w ha _ => run_bin (u := .int kd a) (v := .int kd b) (ha.ev hx) (ha.ev hy) rfl (by
    have e : (binOp .neq t (.int kd a) (.int kd b)).run c.P w = .ok (.bool (a != b)) w := by cases kd <;> rfl
    rw [e, show (a != b) = decide (¬ a = b) by by_cases h : a = b <;> simp [h]])) k
theorem r_lss {t yt : TypeId} {x y : Operand} {kd : IntKind} {a b : Int} (hd : Nat.blt d c.n = true) (hx : ev fr x = some (.int kd a)) (hy : ev fr y = some (.int kd b)) (k : HL c ops Q rest ((d, .bool (decide (a < b))) :: fr) hp L) :
    HL c ops Q (⟨some d, .binOp .lss t x y yt, ty, pos, af, none⟩ :: rest) fr hp L :=
  hl_val _ rfl rfl hd (fun a' w ha _ => run_bin (u := .int kd a) (v := .int kd b) (ha.ev hx) (ha.ev hy) rfl (by cases kd <;> rfl)) k
theorem r_leq {t yt : TypeId} {x y : Operand} {kd : IntKind} {a b : Int} (hd : Nat.blt d c.n = true) (hx : ev fr x = some (.int kd a)) (hy : ev fr y = some (.int kd b)) (k : HL c ops Q rest ((d, .bool (decide (a ≤ b))) :: fr) hp L) :
    HL c ops Q (⟨some d, .binOp .leq t x y yt, ty, pos, af, none⟩ :: rest) fr hp L :=
  hl_val _ rfl rfl hd (fun a' w ha _ => run_bin (u := .int kd a) (v := .int kd b) (ha.ev hx) (ha.ev hy) rfl (by cases kd <;> rfl)) k
theorem r_gtr {t yt : TypeId} {x y : Operand} {kd : IntKind} {a b : Int} (hd : Nat.blt d c.n = true) (hx : ev fr x = some (.int kd a)) (hy : ev fr y = some (.int kd b)) (k : HL c ops Q rest ((d, .bool (decide (b < a))) :: fr) hp L) :
    HL c ops Q (⟨some d, .binOp .gtr t x y yt, ty, pos, af, none⟩ :: rest) fr hp L :=
  hl_val _ rfl rfl hd (fun a' w ha _ => run_bin (u := .int kd a) (v := .int kd b) (ha.ev hx) (ha.ev hy) rfl (by cases kd <;> rfl)) k
theorem r_geq {t yt : TypeId} {x y : Operand} {kd : IntKind} {a b : Int} (hd : Nat.blt d c.n = true) (hx : ev fr x = some (.int kd a)) (hy : ev fr y = some (.int kd b)) (k : HL c ops Q rest ((d, .bool (decide (b ≤ a))) :: fr) hp L) :
    HL c ops Q (⟨some d, .binOp .geq t x y yt, ty, pos, af, none⟩ :: rest) fr hp L :=
  hl_val _ rfl rfl hd (fun a' w ha _ => run_bin (u := .int kd a) (v := .int kd b) (ha.ev hx) (ha.ev hy) rfl (by cases kd <;> rfl)) k
theorem r_seql {t yt : TypeId} {x y : Operand} {x' y' : Str} (hd : Nat.blt d c.n = true) (hx : ev fr x = some (str x')) (hy : ev fr y = some (str y')) (k : HL c ops Q rest ((d, .bool (decide (x' = y'))) :: fr) hp L) :
    HL c ops Q (⟨some d, .binOp .eql t x y yt, ty, pos, af, none⟩ :: rest) fr hp L :=
  hl_val _ rfl rfl hd (fun a' w ha _ => run_bin (ha.ev hx) (ha.ev hy) rfl (by
    unfold str; rw [binOp_string_eql]; simp only [ByteArray.toList_mk, Sem.run_pure]
    by_cases h : x' = y' <;> simp [h])) k
theorem r_sneq {t yt : TypeId} {x y : Operand} {x' y' : Str} (hd : Nat.blt d c.n = true) (hx : ev fr x = some (str x')) (hy : ev fr y = some (str y')) (k : HL c ops Q rest ((d, .bool (decide (¬ x' = y'))) :: fr) hp L) :
    HL c ops Q (⟨some d, .binOp .neq t x y yt, ty, pos, af, none⟩ :: rest) fr hp L :=
  hl_val _ rfl rfl hd (fun a' w ha _ => run_bin (ha.ev hx) (ha.ev hy) rfl (by
    unfold str; rw [binOp_string_neq]; simp only [ByteArray.toList_mk, Sem.run_pure]
    by_cases h : x' = y' <;> simp [h])) k
theorem r_slss {t yt : TypeId} {x y : Operand} {x' y' : Str} (hd : Nat.blt d c.n = true) (hx : ev fr x = some (str x')) (hy : ev fr y = some (str y')) (k : HL c ops Q rest ((d, .bool (Op.bytesLess x' y')) :: fr) hp L) :
    HL c ops Q (⟨some d, .binOp .lss t x y yt, ty, pos, af, none⟩ :: rest) fr hp L :=
  hl_val _ rfl rfl hd (fun a' w ha _ => run_bin (ha.ev hx) (ha.ev hy) rfl (by
    unfold str; rw [binOp_string_lss]
    simp only [ByteArray.toList_mk, Sem.run_pure])) k
theorem r_sgtr {t yt : TypeId} {x y : Operand} {x' y' : Str} (hd : Nat.blt d c.n = true) (hx : ev fr x = some (str x')) (hy : ev fr y = some (str y')) (k : HL c ops Q rest ((d, .bool (!(Op.bytesLess x' y' || x' == y'))) :: fr) hp L) :
    HL c ops Q (⟨some d, .binOp .gtr t x y yt, ty, pos, af, none⟩ :: rest) fr hp L :=
  hl_val _ rfl rfl hd (fun a' w ha _ => run_bin (ha.ev hx) (ha.ev hy) rfl (by
    show Result.ok (Value.bool (!(Op.bytesLess (ByteArray.mk x'.toArray).toList (ByteArray.mk y'.toArray).toList || (ByteArray.mk x'.toArray).toList == (ByteArray.mk y'.toArray).toList))) w = _
    simp only [ByteArray.toList_mk])) k
theorem r_bin {op : BinOp} {t yt : TypeId} {x y : Operand} {u v : Value} (r : Value) (hd : Nat.blt d c.n = true) (hx : ev fr x = some u) (hy : ev fr y = some v) (hg : ∀ w, (eqGuard op t x y u v).run c.P w = .ok () w) (hr : ∀ w, (binOp op t u v).run c.P w = .ok r w)
    (k : HL c ops Q rest ((d, r) :: fr) hp L) : HL c ops Q (⟨some d, .binOp op t x y yt, ty, pos, af, none⟩ :: rest) fr hp L :=
  hl_val _ rfl rfl hd (fun _ w ha _ => run_bin (ha.ev hx) (ha.ev hy) (hg w) (hr w)) k
theorem r_len_sl {t : TypeId} {x : Operand} {A : Option Addr} {n cp : Nat} {e : TypeId} (hd : Nat.blt d c.n = true) (ht : c.P.underlying t = some (.slice e)) (hx : ev fr x = some (.slice A n cp)) (k : HL c ops Q rest ((d, int n) :: fr) hp L) :
    HL c ops Q (⟨some d, .call ⟨.builtin .len, #[x], #[t]⟩, ty, pos, af, none⟩ :: rest) fr hp L :=
  hl_val _ rfl rfl hd (fun a w ha _ => by
    simp [execOp, resolve, invoke, builtin, Builtin.len_, ha.ev hx, run_underlying ht, goInt]) k
theorem r_len_str {t : TypeId} {x : Operand} {s : Str} (hd : Nat.blt d c.n = true) (ht : c.P.underlying t = some .string) (hx : ev fr x = some (str s)) (k : HL c ops Q rest ((d, int s.length) :: fr) hp L) :
    HL c ops Q (⟨some d, .call ⟨.builtin .len, #[x], #[t]⟩, ty, pos, af, none⟩ :: rest) fr hp L :=
  hl_val _ rfl rfl hd (fun a w ha _ => by
    have e1 : (ByteArray.mk s.toArray).size = s.length := rfl
    simp [execOp, resolve, invoke, builtin, Builtin.len_, ha.ev hx, run_underlying ht, goInt, str, e1]) k
theorem r_max {t1 t2 : TypeId} {x y : Operand} {a b : Int} (z : Int) (hd : Nat.blt d c.n = true) (hx : ev fr x = some (int a)) (hy : ev fr y = some (int b)) (hz : (if b > a then b else a) = z) (k : HL c ops Q rest ((d, int z) :: fr) hp L) :
    HL c ops Q (⟨some d, .call ⟨.builtin .max, #[x, y], #[t1, t2]⟩, ty, pos, af, none⟩ :: rest) fr hp L :=
  hl_val _ rfl rfl hd (fun a' w ha _ => by
    simp [execOp, resolve, invoke, builtin, Builtin.max_, Builtin.max2, ha.ev hx, ha.ev hy, hz]) k
end
end Go.W
end
section
namespace Go.W
open Go Go.RowKit
def adr (A : Option Addr) : Addr := A.getD ⟨0, 0, none⟩
theorem adr_some (a : Addr) : adr (some a) = a := rfl
theorem block_add (a : Addr) (n : Nat) : (a.add n).block = a.block := by unfold Addr.add; split <;> rfl
theorem add_add' (a : Addr) (i j : Nat) : (a.add i).add j = a.add (i + j) := by
  unfold Addr.add
  by_cases hi : i = 0 <;> by_cases hj : j = 0 <;> simp [hi, hj, Nat.add_assoc]
theorem add_mk (b o j : Nat) : (⟨b, o, none⟩ : Addr).add j = ⟨b, o + j, none⟩ := by unfold Addr.add; split <;> simp_all
def Row (A : Option Addr) (cs : List Value) : Fact where
  P w := ∀ j u, cs[j]? = some u → ∃ ad, A = some ad ∧ w.cell? (ad.add j) = some u
  fp k := ∃ ad, A = some ad ∧ ad.block = k ∧ cs ≠ []
  st w w' h hP j u hu := by
    obtain ⟨ad, e, hc⟩ := hP j u hu; refine ⟨ad, e, (World.cell?_of_block (w := w) (w' := w') (a := ad.add j) ?_).trans hc⟩; rw [block_add]; exact h _ ⟨ad, e, rfl, by rintro rfl; simp at hu⟩
  lt w hP k hk := by
    obtain ⟨ad, e, rfl, hne⟩ := hk; obtain ⟨u, r, rfl⟩ := List.exists_cons_of_ne_nil hne; obtain ⟨ad', e', hc⟩ := hP 0 u (by simp); have := World.block_lt_of_cell? w _ hc; rw [block_add] at this; rw [e] at e'
    injection e' with e'
    rwa [e']
theorem Row.cell {A : Option Addr} {cs : List Value} {w : World} (h : (Row A cs).P w) {j : Nat} {u : Value} (hu : cs[j]? = some u) : w.cell? ((adr A).add j) = some u := by
  obtain ⟨ad, rfl, hc⟩ := h j u hu; exact hc
theorem Row.some_ {A : Option Addr} {cs : List Value} {w : World} (h : (Row A cs).P w) {j : Nat} (hj : j < cs.length) : A = some (adr A) := by
  obtain ⟨ad, rfl, hc⟩ := h j cs[j] (List.getElem?_eq_getElem hj)
  rfl
theorem Row.nil (A : Option Addr) (w : World) : (Row A []).P w := fun j u h => by simp at h
def Cell (b : Bx) (hp : Hp) (L : List Fact) (p : Addr) (v : Value) : Prop := ∀ w, WI b w hp L → w.cell? p = some v
def Cells (b : Bx) (hp : Hp) (L : List Fact) (p : Addr) (cs : List Value) : Prop := ∀ w, WI b w hp L → ∀ j v, cs[j]? = some v → w.cell? (p.add j) = some v
section
variable {b : Bx} {hp : Hp} {L : List Fact}
theorem cell_row {A : Option Addr} {cs : List Value} {j : Nat} {v : Value} (h : Row A cs ∈ L) (hv : cs[j]? = some v) : Cell b hp L ((adr A).add j) v := fun w hw => Row.cell (hw.fs _ h) hv
theorem cell_row_f {A : Option Addr} {cs : List Value} {j o : Nat} {v : Value} (h : Row A cs ∈ L) (hv : cs[j + o]? = some v) : Cell b hp L (((adr A).add j).add o) v := fun w hw => by rw [add_add']; exact Row.cell (hw.fs _ h) hv
theorem cells_row {A : Option Addr} {cs us : List Value} {j : Nat} (h : Row A cs ∈ L) (hv : ∀ i u, us[i]? = some u → cs[j + i]? = some u) : Cells b hp L ((adr A).add j) us := fun w hw i u hu => by rw [add_add']; exact Row.cell (hw.fs _ h) (hv i u hu)
theorem cell_own {g o : Nat} {cs : Array Value} {t : TypeId} {fz : Nat × Nat} {v : Value} (h : (g, Obj.cells cs t fz) ∈ hp) (hv : cs[o]? = some v) : Cell b hp L ⟨g, o, none⟩ v := fun w hw => by
  have := hw.own _ h; simp only at this
  simp [World.cell?, this, hv]
theorem cells_own {g o : Nat} {cs : Array Value} {us : List Value} {t : TypeId} {fz : Nat × Nat} (h : (g, Obj.cells cs t fz) ∈ hp) (hv : ∀ i u, us[i]? = some u → cs[o + i]? = some u) : Cells b hp L ⟨g, o, none⟩ us := fun w hw i u hu => by
  have := hw.own _ h; simp only at this; rw [add_mk]
  simp [World.cell?, this, hv i u hu]
end
section
variable {c : Cx} {Q : Exit → Act → World → Prop} {fr : Fr} {hp : Hp} {L : List Fact} {ops : Array Oper} {rest : List Oper}
variable {d : Tmp} {ty : TypeId} {pos : String} {af : Array Edge}
/-! ### Letting go of an owned block -/
theorem own_row {g : Nat} {cs : Array Value} {t : TypeId} {w : World} (h : w.heap[g]? = some (.cells cs t (0, 0))) {us : List Value} (hu : us <+: cs.toList) : (Row (some ⟨g, 0, none⟩) us).P w := fun j u hj => by
  refine ⟨_, rfl, ?_⟩; rw [add_mk, Nat.zero_add]; obtain ⟨r, hr⟩ := hu
  have : cs[j]? = some u := by
    rw [← Array.getElem?_toList, ← hr, List.getElem?_append]; have hlt : j < us.length := (List.getElem?_eq_some_iff.1 hj).1; rw [if_pos hlt, hj]
  simp [World.cell?, h, this]
theorem wi_letgo {b : Bx} {w : World} {g : Nat} {cs : Array Value} {t : TypeId} {us : List Value} (h : WI b w ((g, .cells cs t (0, 0)) :: hp) L) (hu : us <+: cs.toList) : WI b w hp (Row (some ⟨g, 0, none⟩) us :: L) :=
  h.letgo (own_row (h.own (g, .cells cs t (0, 0)) (by simp)) hu) (fun k hk => by obtain ⟨ad, e, h1, _⟩ := hk; cases e; exact h1.symm)
theorem hl_letgo {g : Nat} {cs : Array Value} {t : TypeId} (us : List Value) (hu : us <+: cs.toList) (k : HL c ops Q rest fr hp (Row (some ⟨g, 0, none⟩) us :: L)) : HL c ops Q rest fr ((g, .cells cs t (0, 0)) :: hp) L :=
  fun a w ha hw => k a w ha (wi_letgo hw hu)
theorem hq_letgo {g : Nat} {cs : Array Value} {t : TypeId} {e : Exit} (us : List Value) (hu : us <+: cs.toList) (k : HQ c Q e fr hp (Row (some ⟨g, 0, none⟩) us :: L)) : HQ c Q e fr ((g, .cells cs t (0, 0)) :: hp) L :=
  fun a w ha hw => k a w ha (wi_letgo hw hu)
theorem wi_more {b : Bx} {w : World} {F : Fact} (h : WI b w hp L) (hF : F.P w) (hfp : ∀ k, F.fp k → ∃ G ∈ L, G.fp k) : WI b w hp (F :: L) :=
  h.add hF (fun p hp hk => by obtain ⟨G, hG, h1⟩ := hfp _ hk; exact h.ap G hG p hp h1) (fun k hk => by obtain ⟨G, hG, h1⟩ := hfp _ hk; exact h.al G hG k h1)
theorem hl_more {F : Fact} (hF : ∀ w, WI c.b w hp L → F.P w) (hfp : ∀ k, F.fp k → ∃ G ∈ L, G.fp k) (k : HL c ops Q rest fr hp (F :: L)) : HL c ops Q rest fr hp L := fun a w ha hw => k a w ha (wi_more hw (hF w hw) hfp)
theorem hq_more {F : Fact} {e : Exit} (hF : ∀ w, WI c.b w hp L → F.P w) (hfp : ∀ k, F.fp k → ∃ G ∈ L, G.fp k) (k : HQ c Q e fr hp (F :: L)) : HQ c Q e fr hp L := fun a w ha hw => k a w ha (wi_more hw (hF w hw) hfp)
/-! ### Addresses and loads -/
def NoR (P : Program) (t : TypeId) : Prop := ∃ dd, P.underlying t = some dd ∧ dd.isRow = false
def IsR (P : Program) (t : TypeId) : Prop := ∃ dd, P.underlying t = some dd ∧ dd.isRow = true
def Sz (P : Program) (t : TypeId) (n : Nat) : Prop := (P.info? t).map (·.size) = some n
theorem r_fieldAddr {s : TypeId} {f : Nat} {x : Operand} {p : Addr} {off : Nat} (q : Addr) (hd : Nat.blt d c.n = true) (hx : ev fr x = some (.pointer (some p)))
    (hrun : ∀ p w, (Instr.fieldAt s (.pointer (some p)) f).run c.P w = .ok (.pointer (some (p.add off))) w) (hq : p.add off = q) (k : HL c ops Q rest ((d, .pointer (some q)) :: fr) hp L) :
    HL c ops Q (⟨some d, .fieldAddr s x f, ty, pos, af, none⟩ :: rest) fr hp L :=
  hl_val _ rfl rfl hd (fun a w ha _ => by simp only [execOp, ha.ev hx, Sem.run_bind, hrun, Result.andThen_ok, Sem.run_pure, hq]) k
theorem r_field {s : TypeId} {f : Nat} {x : Operand} {cs : Array Value} {v : Value} (hd : Nat.blt d c.n = true) (hx : ev fr x = some (.agg cs))
    (hrun : ∀ w, (Instr.field s (.agg cs) f).run c.P w = .ok v w) (k : HL c ops Q rest ((d, v) :: fr) hp L) : HL c ops Q (⟨some d, .field s x f, ty, pos, af, none⟩ :: rest) fr hp L :=
  hl_val _ rfl rfl hd (fun a w ha _ => by simp only [execOp, ha.ev hx, Sem.run_bind, hrun, Result.andThen_ok, Sem.run_pure]) k
theorem r_build {t : TypeId} {parts : Array (Nat × Operand)} {v : Value} (vs : List (Nat × Value)) (hd : Nat.blt d c.n = true) (hx : parts.toList.mapM (fun p => (ev fr p.2).map (p.1, ·)) = some vs)
    (hrun : ∀ w, (Instr.build t vs.toArray).run c.P w = .ok v w) (k : HL c ops Q rest ((d, v) :: fr) hp L) : HL c ops Q (⟨some d, .build t parts, ty, pos, af, none⟩ :: rest) fr hp L :=
  hl_val _ rfl rfl hd (fun a w ha _ => by
    have key : ∀ (xs : List (Nat × Operand)) (vs : List (Nat × Value)), xs.mapM (fun p => (ev fr p.2).map (p.1, ·)) = some vs → xs.map (fun p => (p.1, a.eval p.2)) = vs := by
      intro xs
      induction xs with
      | nil => intro vs h; simpa using h
      | cons x xs ih =>
        intro vs h; simp only [List.mapM_cons, Option.bind_eq_bind, Option.bind_eq_some_iff, Option.pure_def, Option.some.injEq, Option.map_eq_some_iff] at h; obtain ⟨v, ⟨u, hu, rfl⟩, us, hus, rfl⟩ := h; rw [List.map_cons, ha.ev hu, ih us hus]
    have e1 : (parts.map fun (i, x) => (i, a.eval x)) = vs.toArray := by apply Array.ext'; simpa using key _ _ hx
    simp only [execOp, e1, Sem.run_bind, hrun, Result.andThen_ok, Sem.run_pure]) k
theorem r_load {t : TypeId} {x : Operand} {p : Addr} {v : Value} (hd : Nat.blt d c.n = true) (ht' : NoR c.P t) (hx : ev fr x = some (.pointer (some p))) (hc : Cell c.b hp L p v)
    (k : HL c ops Q rest ((d, v) :: fr) hp L) : HL c ops Q (⟨some d, .load t x, ty, pos, af, none⟩ :: rest) fr hp L :=
  hl_val _ rfl rfl hd (fun a w ha hw => by
    obtain ⟨dd, ht, hr⟩ := ht'
    have hagg : (isAgg t).run c.P w = .ok false w := by
      unfold isAgg; rw [Sem.run_bind, run_underlying ht w]
      cases dd <;> simp_all [TypeDesc.isRow]
    simp only [execOp, ha.ev hx, Instr.loadAt, Instr.sureAddr, loadVar, Sem.run_bind, Sem.run_pure, Result.andThen_ok, hagg, Bool.false_eq_true, if_false, run_load, hc w hw]) k
theorem r_loadS {t : TypeId} {x : Operand} {p : Addr} {cs : List Value} {n : Nat} (hd : Nat.blt d c.n = true) (ht' : IsR c.P t) (hz' : Sz c.P t n) (hx : ev fr x = some (.pointer (some p))) (hn : cs.length = n) (hc : Cells c.b hp L p cs)
    (k : HL c ops Q rest ((d, .agg cs.toArray) :: fr) hp L) : HL c ops Q (⟨some d, .load t x, ty, pos, af, none⟩ :: rest) fr hp L :=
  hl_val _ rfl rfl hd (fun a w ha hw => by
    obtain ⟨dd, ht, hr⟩ := ht'; have hz : (c.P.info? t).map (·.size) = some cs.length := by rw [hn]; exact hz'
    have hagg : (isAgg t).run c.P w = .ok true w := by
      unfold isAgg; rw [Sem.run_bind, run_underlying ht w]
      cases dd <;> simp_all [TypeDesc.isRow]
    have hl := run_loadCells_list (P := c.P) w p cs (hc w hw)
    cases hq : c.P.info? t with
    | none => simp [hq] at hz
    | some i =>
      have hs : i.size = cs.length := by simpa [hq] using hz
      simp only [execOp, ha.ev hx, Instr.loadAt, Instr.sureAddr, loadVar, Sem.run_bind, Sem.run_pure, Result.andThen_ok, hagg, if_true, sizeOf, typeInfo, run_program, hq, hs, hl]) k
theorem size_of {P : Program} {e : TypeId} {sz : Nat} (h : Sz P e sz) (w : World) : (sizeOf e).run P w = .ok sz w := by
  unfold Sz at h
  cases hq : P.info? e with
  | none => simp [hq] at h
  | some i =>
    have hs : i.size = sz := by simpa [hq] using h
    simp [sizeOf, typeInfo, hq, hs]
theorem run_indexAt {P : Program} {t e : TypeId} {ad : Addr} {n cp sz j : Nat} {kd : IntKind} (w : World) (ht : P.underlying t = some (.slice e)) (hz : Sz P e sz) (hj : j < n) :
    (Instr.indexAt t (.slice (some ad) n cp) (.int kd (j : Int))).run P w = .ok (.pointer (some (ad.add (j * sz)))) w := by
  simp [Instr.indexAt, asIntOf, run_underlying ht, size_of hz, hj]
theorem r_indexAddr {t e : TypeId} {x i : Operand} {A : Option Addr} {n cp sz : Nat} {kd : IntKind} {z : Int} {cs : List Value} (j : Nat) (hd : Nat.blt d c.n = true) (ht : c.P.underlying t = some (.slice e)) (hz : Sz c.P e sz)
    (hx : ev fr x = some (.slice A n cp)) (hi : ev fr i = some (.int kd z)) (hjz : z = (j : Int)) (hj : j < n) (hr : Row A cs ∈ L) (hlen : j * sz < cs.length)
    (k : HL c ops Q rest ((d, .pointer (some ((adr A).add (j * sz)))) :: fr) hp L) : HL c ops Q (⟨some d, .indexAddr t x i, ty, pos, af, none⟩ :: rest) fr hp L :=
  hl_val _ rfl rfl hd (fun a w ha hw => by
    have hA := Row.some_ (hw.fs _ hr) hlen; have h1 := ha.ev hx; rw [hA] at h1; subst hjz
    simp only [execOp, h1, ha.ev hi, Sem.run_bind, run_indexAt w ht hz hj, Result.andThen_ok, Sem.run_pure]) k
/-! ### Stores into owned blocks -/
theorem ext_setRow {w : World} {g : Nat} (cs : Array Value) : Ext [g] w (w.setRow g cs) := ⟨rfl, rfl, rfl, by simp, fun k _ hn => setRow_other w g k cs (by simpa using hn), Nat.le_refl _⟩
theorem r_storeS {t : TypeId} {x y : Operand} {g : Nat} {old cs : Array Value} {e : TypeId} {hp' : Hp} (hx : ev fr x = some (.pointer (some ⟨g, 0, none⟩))) (hy : ev fr y = some (.agg cs)) (hpp : hp.Perm ((g, .cells old e (0, 0)) :: hp'))
    (hz : Sz c.P t cs.size) (ho : old.size = cs.size) (h1 : cs.toList.all (·.oneCell') = true)
    (k : HL c ops Q rest fr ((g, .cells cs e (0, 0)) :: hp') L) : HL c ops Q (⟨none, .store t x y, ty, pos, af, none⟩ :: rest) fr hp L :=
  hl_unit rfl rfl fun a w ha hw => by
    have hw' := hw.perm hpp; have hg := hw'.own (g, .cells old e (0, 0)) (by simp); refine ⟨w.setRow g cs, _, L, ?_, hw'.write (ext_setRow cs) (setRow_heap w g old cs e (0, 0) hg), k⟩; simp only [execOp, ha.ev hx, ha.ev hy, Instr.storeAt, Instr.sureAddr, Sem.run_bind, Sem.run_pure, Result.andThen_ok, run_storeVar_row w g e t old cs hg hz ho (by rw [← Array.all_toList]; exact h1)]
theorem r_store {t : TypeId} {x y : Operand} {g o : Nat} {old : Array Value} {v u : Value} {e : TypeId} {hp' : Hp} (hx : ev fr x = some (.pointer (some ⟨g, o, none⟩))) (hy : ev fr y = some v) (hpp : hp.Perm ((g, .cells old e (0, 0)) :: hp'))
    (hz : Sz c.P t 1) (ho : old[o]? = some u) (h1 : v.oneCell' = true)
    (k : HL c ops Q rest fr ((g, .cells (old.setIfInBounds o v) e (0, 0)) :: hp') L) : HL c ops Q (⟨none, .store t x y, ty, pos, af, none⟩ :: rest) fr hp L :=
  hl_unit rfl rfl fun a w ha hw => by
    have hw' := hw.perm hpp; have hg := hw'.own (g, .cells old e (0, 0)) (by simp); simp only at hg; refine ⟨w.setCell ⟨g, o, none⟩ v, _, L, ?_, hw'.write (o' := .cells (old.setIfInBounds o v) e (0, 0)) ⟨rfl, rfl, rfl, by simp [World.setCell], fun k _ hn => Below.heap_setCell w ⟨g, o, none⟩ v k (by simpa using hn), Nat.le_refl _⟩ ?_, k⟩
    · have hc : w.cell? ⟨g, o, none⟩ = some u := by simp [World.cell?, hg, ho]
      have hf : w.frozen? ⟨g, o, none⟩ = false := by simp [World.frozen?, hg]
      have hcs : v.cells = #[v] := by cases v <;> simp_all [Value.cells, Value.oneCell']
      simp only [execOp, ha.ev hx, ha.ev hy, Instr.storeAt, Instr.sureAddr, Sem.run_bind, Sem.run_pure, Result.andThen_ok, storeVar, hcs, size_of hz, List.size_toArray, List.length_cons, List.length_nil, Nat.zero_add, ne_eq, not_true, if_false, storeCells, Addr.add, if_true, run_store c.P w _ v _ h1, hc, hf, Bool.false_eq_true]
    · simp [World.setCell, Array.getElem?_modify, hg]
/-! ### New blocks -/
theorem hl_new {o : Oper} (obj : Obj) (mk : Nat → Value) (ho : o.dst = some d) (hg : o.guard = none) (hd : Nat.blt d c.n = true) (hrun : ∀ a w, Ok c a fr → WI c.b w hp L → (execOp a.eval o).run c.P w = .ok (.value (mk w.heap.size)) (w.alloc obj))
    (k : ∀ g, HL c ops Q rest ((d, mk g) :: fr) ((g, obj) :: hp) L) (hok : okOp o = true := by exact rfl) : HL c ops Q (o :: rest) fr hp L :=
  hl_gen ho hg hd (fun a w ha hw => ⟨_, _, _, L, hrun a w ha hw, hw.alloc obj, k _⟩) hok
theorem r_box {e : TypeId} {x : Operand} {v : Value} (hd : Nat.blt d c.n = true) (hx : ev fr x = some v) (k : ∀ g, HL c ops Q rest ((d, .pointer (some ⟨g, 0, none⟩)) :: fr) ((g, .cells v.cells e (0, 0)) :: hp) L) :
    HL c ops Q (⟨some d, .box e x, ty, pos, af, none⟩ :: rest) fr hp L :=
  hl_new (.cells v.cells e (0, 0)) (fun g => .pointer (some ⟨g, 0, none⟩)) rfl rfl hd (fun a w ha _ => by simp only [execOp, ha.ev hx]; rfl) k
theorem r_alloc {e : TypeId} {cs : Array Value} (hd : Nat.blt d c.n = true) (hrun : ∀ w, (Instr.alloc e true (.tuple #[])).run c.P w = .ok (.pointer (some ⟨w.heap.size, 0, none⟩)) (w.alloc (.cells cs e (0, 0))))
    (k : ∀ g, HL c ops Q rest ((d, .pointer (some ⟨g, 0, none⟩)) :: fr) ((g, .cells cs e (0, 0)) :: hp) L) : HL c ops Q (⟨some d, .alloc e, ty, pos, af, none⟩ :: rest) fr hp L :=
  hl_new (.cells cs e (0, 0)) (fun g => .pointer (some ⟨g, 0, none⟩)) rfl rfl hd (fun a w _ _ => by simp only [execOp, Sem.run_bind, hrun, Result.andThen_ok, Sem.run_pure]) k
theorem r_makeMap {t : TypeId} (hd : Nat.blt d c.n = true) (k : ∀ g, HL c ops Q rest ((d, .map (some g)) :: fr) ((g, .map #[] 0) :: hp) L) : HL c ops Q (⟨some d, .makeMap t none, ty, pos, af, none⟩ :: rest) fr hp L :=
  hl_new (.map #[] 0) (fun g => .map (some g)) rfl rfl hd (fun a w _ _ => rfl) k
theorem r_buildSlice {t e : TypeId} {n : Nat} {parts : Array (Nat × Operand)} {cs : Array Value} (vs : List (Nat × Value)) (hd : Nat.blt d c.n = true) (hx : parts.toList.mapM (fun p => (ev fr p.2).map (p.1, ·)) = some vs)
    (hrun : ∀ w, (Instr.buildSlice t n vs.toArray).run c.P w = .ok (.slice (some ⟨w.heap.size, 0, none⟩) n n) (w.alloc (.cells cs e (0, 0))))
    (k : ∀ g, HL c ops Q rest ((d, .slice (some ⟨g, 0, none⟩) n n) :: fr) ((g, .cells cs e (0, 0)) :: hp) L) : HL c ops Q (⟨some d, .buildSlice t n parts, ty, pos, af, none⟩ :: rest) fr hp L :=
  hl_new (.cells cs e (0, 0)) (fun g => .slice (some ⟨g, 0, none⟩) n n) rfl rfl hd (fun a w ha _ => by
    have key : ∀ (xs : List (Nat × Operand)) (vs : List (Nat × Value)), xs.mapM (fun p => (ev fr p.2).map (p.1, ·)) = some vs → xs.map (fun p => (p.1, a.eval p.2)) = vs := by
      intro xs
      induction xs with
      | nil => intro vs h; simpa using h
      | cons x xs ih =>
        intro vs h; simp only [List.mapM_cons, Option.bind_eq_bind, Option.bind_eq_some_iff, Option.pure_def, Option.some.injEq, Option.map_eq_some_iff] at h; obtain ⟨v, ⟨u, hu, rfl⟩, us, hus, rfl⟩ := h; rw [List.map_cons, ha.ev hu, ih us hus]
    have e1 : (parts.map fun (i, x) => (i, a.eval x)) = vs.toArray := by apply Array.ext'; simpa using key _ _ hx
    simp only [execOp, e1, Sem.run_bind, hrun, Result.andThen_ok, Sem.run_pure]) k
/-! ### Calls -/
theorem Callable.evs {P : Program} {f : Nat} (h : Callable P f) (args : Array Value) (w : World) (es : Array Event) : (callFunc f args).events P w es = es := by
  obtain ⟨fn, h1, h2, h3⟩ := h.ex; simp only [callFunc, Sem.events_bind, run_program, Result.evThen, h1, h2, h3, Bool.false_eq_true, if_false, Sem.events_pure]
  rfl
theorem Callable.events {P : Program} {f : Nat} (h : Callable P f) (args : Array Value) (w : World) : (callFunc f args).events P w #[] = #[] := h.evs args w #[]
theorem calm_call {P : Program} {s : Sem Next} {f : Nat} {args : Array Value} {w : World} (hcb : Callable P f) (h : s.events P w #[] = (callFunc f args).events P w #[]) : ∀ e ∈ s.events P w #[], Calm e := by
  rw [h, hcb.events]; simp
theorem hl_call {f : Nat} {aS9 : Array Operand} {ats : Array TypeId} {vs : List Value} {β : Type} {k : Con β} {hpR : Hp} (hcb : Callable c.P f) (hd : Nat.blt d c.n = true) (hx : aS9.toList.mapM (ev fr) = some vs)
    (hm : Meets c.P f vs k) (h1 : hp.Perm (k.hpI ++ hpR)) (h2 : LSub L k.LI) (kk : ∀ x, k.inv x → HL c ops Q rest ((d, k.val x) :: fr) (k.hpO x ++ hpR) (k.LO x ++ L)) :
    HL c ops Q (⟨some d, .call ⟨.value (.func f), aS9, ats⟩, ty, pos, af, none⟩ :: rest) fr hp L := by
  intro a w ha hw; refine wpL_plain rfl fun K hK => ?_
  have key : ∀ (xs : List Operand) (vs : List Value), xs.mapM (ev fr) = some vs → xs.map a.eval = vs := by
    intro xs
    induction xs with
    | nil => intro vs h; simpa using h
    | cons x xs ih =>
      intro vs h; simp only [List.mapM_cons, Option.bind_eq_bind, Option.bind_eq_some_iff, Option.pure_def, Option.some.injEq] at h; obtain ⟨v, hv, us, hus, rfl⟩ := h; rw [List.map_cons, ha.ev hv, ih us hus]
  have e1 : (#[] ++ aS9.map a.eval ++ #[]) = vs.toArray := by simp; apply Array.ext'; simpa using key _ _ hx
  refine fun d0 => ⟨calm_call hcb (by rw [execOp_call_go]), ?_⟩; have hw := hw.at d0; rw [execOp_call_go, hcb.run, uponB_enter, e1]; refine CallsB.E ((hm _ (hw.entry h1 h2.mem)).mono fun v w' hp => ?_); obtain ⟨x, rfl, hi, hwi⟩ := hp; exact hK _ _ (kk x hi _ _ (ha.put (by simpa using hd) _) (hw.back h1 h2.mem hwi))
theorem hl_callv {f : Nat} {x : Operand} {aS9 : Array Operand} {ats : Array TypeId} {vs cap : List Value} {β : Type} {k : Con β} {hpR : Hp} (hcb : Callable c.P f) (hd : Nat.blt d c.n = true) (hf : ev fr x = some (.func (.func f) #[] cap.toArray)) (hx : aS9.toList.mapM (ev fr) = some vs)
    (hm : Meets c.P f (vs ++ cap) k) (h1 : hp.Perm (k.hpI ++ hpR)) (h2 : LSub L k.LI) (kk : ∀ x, k.inv x → HL c ops Q rest ((d, k.val x) :: fr) (k.hpO x ++ hpR) (k.LO x ++ L)) :
    HL c ops Q (⟨some d, .call ⟨.value x, aS9, ats⟩, ty, pos, af, none⟩ :: rest) fr hp L := by
  intro a w ha hw; refine wpL_plain rfl fun K hK => ?_
  have key : ∀ (xs : List Operand) (vs : List Value), xs.mapM (ev fr) = some vs → xs.map a.eval = vs := by
    intro xs
    induction xs with
    | nil => intro vs h; simpa using h
    | cons x xs ih =>
      intro vs h; simp only [List.mapM_cons, Option.bind_eq_bind, Option.bind_eq_some_iff, Option.pure_def, Option.some.injEq] at h; obtain ⟨v, hv, us, hus, rfl⟩ := h; rw [List.map_cons, ha.ev hv, ih us hus]
  have e1 : aS9.map a.eval = vs.toArray := by apply Array.ext'; simpa using key _ _ hx
  have e2 : execOp a.eval (⟨some d, .call ⟨.value x, aS9, ats⟩, ty, pos, af, none⟩ : Oper) = callFunc f (vs ++ cap).toArray := by
    show ((do let dd ← resolve a.eval ⟨.value x, aS9, ats⟩ ty; invoke dd.target dd.args) : Sem Next) = _; have e3 : (#[] ++ vs.toArray ++ cap.toArray) = (vs ++ cap).toArray := by simp
    simp only [resolve, ha.ev hf, e1, Deferred.ofValue]; show (invoke (.fn (.func f) cap.toArray) (#[] ++ vs.toArray) : Sem Next) = _; show callFunc f (#[] ++ vs.toArray ++ cap.toArray) = _; rw [e3]
  refine fun d0 => ⟨calm_call hcb (by rw [e2]), ?_⟩; have hw := hw.at d0; rw [e2, hcb.run, uponB_enter]; refine CallsB.E ((hm _ (hw.entry h1 h2.mem)).mono fun v w' hp => ?_); obtain ⟨x, rfl, hi, hwi⟩ := hp; exact hK _ _ (kk x hi _ _ (ha.put (by simpa using hd) _) (hw.back h1 h2.mem hwi))
end
end Go.W
end
