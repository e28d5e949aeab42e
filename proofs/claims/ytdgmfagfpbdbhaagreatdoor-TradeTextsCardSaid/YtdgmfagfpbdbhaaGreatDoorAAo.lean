/- Texts. -/
import Derived.Test.YtdgmfagfpbdbhaaGreatDoorProg
import Derived.WalkKit
import Derived.LaidEql
import Derived.Stop.Asserts
import Derived.RowKitTokens
import Derived.Lib.AppendStr
import Derived.Lib.UnsafeStr
import Derived.Lib.Builder
import Derived.Test.YtdgmfagfpbdbhaaGreatDoorAAn
import Derived.Test.YtdgmfagfpbdbhaaGreatDoorAAa
import Derived.Test.YtdgmfagfpbdbhaaGreatDoorAAe
import Derived.Test.YtdgmfagfpbdbhaaGreatDoorAAl
set_option linter.unusedVariables false
set_option linter.unusedSimpArgs false
section
namespace Go.Proofs.YtdgmfagfpbdbhaaGreatDoor
open Go Go.W
set_option maxRecDepth 20000
attribute [local irreducible] HL HC HQ HB Row Rows2 Blk Facts
end Go.Proofs.YtdgmfagfpbdbhaaGreatDoor
namespace Go.Proofs.YtdgmfagfpbdbhaaGreatDoor.As
open Go Go.RowKit Go.Extern.Stop Go.Stop Go.Extern
theorem as_nil (t : Value) (w : World) :
    Calls Tryz.prog 68 #[.nilIface, t] w fun e w' => e = .returned (.bool false) ∧ w' = w := by
  go_enter Tryz.func68, Tryz.ntmps68
  go_wp2
  go_ret
  exact ⟨rfl, rfl⟩
theorem val142 (t : Addr) (w : World) : (ReflectliteValue.unpack (.iface 142 (.pointer (some t)))).run Tryz.prog w
    = .ok (.agg #[.pointer (some ⟨4, 142, none⟩), .pointer (some ⟨w.heap.size, 0, none⟩), .int .u64 150]) (w.alloc (.cells #[.pointer (some t)] 142)) := by kernel_rfl
theorem type142 (a : Addr) (w : World) : (ReflectliteValue.methodAny (ReflectliteValue.valueError "reflectlite.Value.Type" 0) (fun t _ _ _ => ReflectliteType.toType t) #[.agg #[.pointer (some ⟨4, 142, none⟩), .pointer (some a), .int .u64 150]]).run Tryz.prog w
    = .ok (.iface 214 (.agg #[.pointer (some ⟨4, 142, none⟩)])) w := by kernel_rfl
theorem kind142 (w : World) : ((ReflectliteType.abiMethod fun t => (fun a : Nat => Value.int IntKind.u8 (a : Int)) <$> Rtype.kind t) #[.pointer (some ⟨4, 142, none⟩)]).run Tryz.prog w = .ok (.int .u8 22) w := by kernel_rfl
theorem kind140 (w : World) : ((ReflectliteType.abiMethod fun t => (fun a : Nat => Value.int IntKind.u8 (a : Int)) <$> Rtype.kind t) #[.pointer (some ⟨4, 140, none⟩)]).run Tryz.prog w = .ok (.int .u8 25) w := by kernel_rfl
theorem valW (a b : Int) (w : World) : (ReflectliteValue.unpack (.iface 140 (.agg #[.int .i64 a, .int .i64 b]))).run Tryz.prog w
    = .ok (.agg #[.pointer (some ⟨4, 140, none⟩), .pointer (some ⟨w.heap.size, 0, none⟩), .int .u64 153]) (w.alloc (.cells #[.int .i64 a, .int .i64 b] 140)) := by kernel_rfl
theorem methodKind (h : Value) (w : World) : (Go.method (Tryz.prog.types.size + Made.depth) 214 (.agg #[h]) "Kind").run Tryz.prog w = .ok (161, h) w := by kernel_rfl
theorem elem142 (w : World) : (ReflectliteType.method ReflectliteType.elem #[.agg #[.pointer (some ⟨4, 142, none⟩)]]).run Tryz.prog w = .ok (.iface 214 (.agg #[.pointer (some ⟨4, 140, none⟩)])) w := by kernel_rfl
theorem implements140 (w : World) : (ReflectliteType.relation "Implements" ReflectliteType.implements_ #[.agg #[.pointer (some ⟨4, 140, none⟩)], .iface 214 (.agg #[.pointer (some ⟨4, 82, none⟩)])]).run Tryz.prog w = .ok (.bool true) w := by kernel_rfl
theorem typeOf140 (v : Value) (w : World) : (ReflectliteType.typeOf #[.iface 140 v]).run Tryz.prog w = .ok (.iface 214 (.agg #[.pointer (some ⟨4, 140, none⟩)])) w := by kernel_rfl
theorem assignable140 (w : World) : (ReflectliteType.relation "AssignableTo" ReflectliteType.assignableTo #[.agg #[.pointer (some ⟨4, 140, none⟩)], .iface 214 (.agg #[.pointer (some ⟨4, 140, none⟩)])]).run Tryz.prog w = .ok (.bool true) w := by kernel_rfl
theorem elemOf142 (w : World) : (Rtype.elem? 142).run Tryz.prog w = .ok (some 140) w := by kernel_rfl
theorem mk140 (p : Addr) (w : World) : (ReflectliteValue.mk 140 p ReflectliteValue.flagAddr).run Tryz.prog w = .ok (.agg #[.pointer (some ⟨4, 140, none⟩), .pointer (some p), .int .u64 409]) w := by kernel_rfl
theorem parts142 (a : Addr) (w : World) : (ReflectliteValue.parts (.agg #[.pointer (some ⟨4, 142, none⟩), .pointer (some a), .int .u64 150])).run Tryz.prog w = .ok (some (142, a, 150)) w := by kernel_rfl
theorem parts140a (a : Addr) (w : World) : (ReflectliteValue.parts (.agg #[.pointer (some ⟨4, 140, none⟩), .pointer (some a), .int .u64 409])).run Tryz.prog w = .ok (some (140, a, 409)) w := by kernel_rfl
theorem parts140 (a : Addr) (w : World) : (ReflectliteValue.parts (.agg #[.pointer (some ⟨4, 140, none⟩), .pointer (some a), .int .u64 153])).run Tryz.prog w = .ok (some (140, a, 153)) w := by kernel_rfl
theorem direct140 (w : World) : (Rtype.directlyAssignable 140 140).run Tryz.prog w = .ok true w := by kernel_rfl
theorem rlm (z : Sem Value) (f : TypeId → Addr → Nat → Nat → Sem Value) (v : Value) :
    ReflectliteValue.method z f #[v] = (do match ← ReflectliteValue.parts v with | none => z | some (t, a, fl) => f t a fl (fl % 32)) := rfl
theorem isNil142 (a p : Addr) (W : World) (ha : W.cell? a = some (.pointer (some p))) :
    (ReflectliteValue.method (ReflectliteValue.valueError "reflectlite.Value.IsNil" 0) ReflectliteValue.isNil #[.agg #[.pointer (some ⟨4, 142, none⟩), .pointer (some a), .int .u64 150]]).run Tryz.prog W = .ok (.bool false) W := by
  rw [rlm]; simp only [Sem.run_bind, parts142, Result.andThen]
  simp [ReflectliteValue.isNil, loadVar, isAgg, underlying, Tryz.underlying142, ha, Result.andThen]
theorem methodElem (h : Value) (w : World) : (Go.method (Tryz.prog.types.size + Made.depth) 214 (.agg #[h]) "Elem").run Tryz.prog w = .ok (176, .agg #[h]) w := by kernel_rfl
theorem methodImplements (h : Value) (w : World) : (Go.method (Tryz.prog.types.size + Made.depth) 214 (.agg #[h]) "Implements").run Tryz.prog w = .ok (177, .agg #[h]) w := by kernel_rfl
theorem methodAssignableTo (h : Value) (w : World) : (Go.method (Tryz.prog.types.size + Made.depth) 214 (.agg #[h]) "AssignableTo").run Tryz.prog w = .ok (174, .agg #[h]) w := by kernel_rfl
theorem elemV142 (a p : Addr) (W : World) (ha : W.cell? a = some (.pointer (some p))) :
    (ReflectliteValue.method (ReflectliteValue.valueError "reflectlite.Value.Elem" 0) ReflectliteValue.elem #[.agg #[.pointer (some ⟨4, 142, none⟩), .pointer (some a), .int .u64 150]]).run Tryz.prog W
      = .ok (.agg #[.pointer (some ⟨4, 140, none⟩), .pointer (some p), .int .u64 409]) W := by
  rw [rlm]; simp only [Sem.run_bind, parts142, Result.andThen]
  simp [ReflectliteValue.elem, loadVar, isAgg, underlying, Tryz.underlying142, ha, Result.andThen, elemOf142, mk140]
theorem rls (v x : Value) : ReflectliteValue.set #[v, x] = (do
    let (some (dst, a, fl), some (src, b, _)) := (← ReflectliteValue.parts v, ← ReflectliteValue.parts x)
      | unsupported (.noEntry "extern/(internal/reflectlite.Value).Set.zeroValue")
    if fl / ReflectliteValue.flagAddr % 2 == 0 then unsupported (.noEntry "extern/(internal/reflectlite.Value).Set.unaddressable")
    let val ← loadVar src b
    if ← Rtype.directlyAssignable dst src then storeVar dst a val
    else if ← Rtype.implements dst src then
      if (← Rtype.kind src) == 20 then
        match val with
        | .nilIface => unsupported (.noEntry "extern/reflectlite: a nil value of one interface type handed on as a value of another")
        | _ => storeVar dst a val
      else storeVar dst a (.iface src val)
    else panicString ("reflectlite.Set: value of type " ++ (← Rtype.spelt src) ++ " is not assignable to type " ++ (← Rtype.spelt dst))
    pure (.tuple #[])) := rfl
theorem size140 (w : World) : (sizeOf 140).run Tryz.prog w = .ok 2 w := by kernel_rfl
theorem types_n : Tryz.prog.types.size + Made.depth = 375 := by kernel_rfl
theorem load140 (gb : Nat) (a b : Int) (W : World) (hb : W.heap[gb]? = some (.cells #[.int .i64 a, .int .i64 b] 140 (0, 0))) : (loadVar 140 ⟨gb, 0, none⟩).run Tryz.prog W = .ok (.agg #[.int .i64 a, .int .i64 b]) W := by
  have hagg : (isAgg 140).run Tryz.prog W = .ok true W := by
    unfold isAgg; rw [Sem.run_bind, run_underlying Tryz.underlying140 W]
    rfl
  have hc := run_loadCells_list (P := Tryz.prog) W ⟨gb, 0, none⟩ [.int .i64 a, .int .i64 b] (fun j u hu => by rw [Go.W.add_mk, Nat.zero_add]; simp [World.cell?, hb]; exact hu); simp only [loadVar, Sem.run_bind, hagg, Result.andThen_ok, if_true, size140]; rw [show (2 : Nat) = [Value.int .i64 a, Value.int .i64 b].length from rfl, hc]
  simp
theorem set140 (g gb : Nat) (a b : Int) (old : Array Value) (e : TypeId) (W : World) (hb : W.heap[gb]? = some (.cells #[.int .i64 a, .int .i64 b] 140 (0, 0))) (ht : W.heap[g]? = some (.cells old e (0, 0))) (ho : old.size = 2) :
    (ReflectliteValue.set #[.agg #[.pointer (some ⟨4, 140, none⟩), .pointer (some ⟨g, 0, none⟩), .int .u64 409], .agg #[.pointer (some ⟨4, 140, none⟩), .pointer (some ⟨gb, 0, none⟩), .int .u64 153]]).run Tryz.prog W
      = .ok (.tuple #[]) (W.setRow g #[.int .i64 a, .int .i64 b]) := by
  rw [rls]; simp only [Sem.run_bind, parts140a, parts140, Result.andThen]
  simp [ReflectliteValue.flagAddr, load140 gb a b W hb, Result.andThen, direct140]
  rw [run_storeVar_row W g e 140 old #[.int .i64 a, .int .i64 b] ht (by kernel_rfl) (by simpa using ho) (by rw [← Array.all_toList]; rfl)]
theorem ah_last (w : World) (o : Obj) : (w.alloc o).heap[w.heap.size]? = some o := by
  rw [show (w.alloc o).heap = w.heap.push o from rfl]; simp
theorem ah_old {w : World} {o x : Obj} {g : Nat} (h : w.heap[g]? = some x) : (w.alloc o).heap[g]? = some x := by
  have hl := Go.W.lt_of_own h; rw [show (w.alloc o).heap = w.heap.push o from rfl, Array.getElem?_push, if_neg (by omega)]; exact h
set_option maxHeartbeats 8000000 in
theorem as_hit (g : Nat) (a b : Int) (old : Array Value) (e : TypeId) (w : World) (hg : w.cell? ⟨0, 0, none⟩ = some (.iface 214 (.agg #[.pointer (some ⟨4, 82, none⟩)]))) (ht0 : w.heap[g]? = some (.cells old e (0, 0))) (ho : old.size = 2) :
    Calls Tryz.prog 68 #[.iface 140 (.agg #[.int .i64 a, .int .i64 b]), .iface 142 (.pointer (some ⟨g, 0, none⟩))] w fun ev w' => ev = .returned (.bool true) ∧ w' = ((((w.alloc (.cells #[.pointer (some ⟨g, 0, none⟩)] 142)).alloc (.cells #[.pointer (some ⟨4, 142, none⟩), .pointer (some ⟨w.heap.size, 0, none⟩), .int .u64 150] 176)).alloc (.cells #[.pointer (some ⟨4, 142, none⟩), .pointer (some ⟨w.heap.size, 0, none⟩), .int .u64 150] 176)).alloc (.cells #[.int .i64 a, .int .i64 b] 140)).setRow g #[.int .i64 a, .int .i64 b] := by
  have h6 := @run_callFunc_extern Tryz.prog 91 _ (fun args => ReflectliteValue.unpack (args.getD 0 (.tuple #[]))) Tryz.func91 (by kernel_rfl) (by kernel_rfl) (by kernel_rfl) (by kernel_rfl)
  have h7 := @run_callFunc_extern Tryz.prog 92 _ (ReflectliteValue.methodAny (ReflectliteValue.valueError "reflectlite.Value.Type" 0) (fun t _ _ _ => ReflectliteType.toType t)) Tryz.func92 (by kernel_rfl) (by kernel_rfl) (by kernel_rfl) (by kernel_rfl)
  have h8 := @run_callFunc_extern Tryz.prog 93 _ (ReflectliteValue.method (ReflectliteValue.valueError "reflectlite.Value.IsNil" 0) ReflectliteValue.isNil) Tryz.func93 (by kernel_rfl) (by kernel_rfl) (by kernel_rfl) (by kernel_rfl)
  have h27 := @run_callFunc_extern Tryz.prog 161 _ (ReflectliteType.abiMethod fun t => do pure (.int .u8 (← Rtype.kind t))) Tryz.func161 (by kernel_rfl) (by kernel_rfl) (by kernel_rfl) (by kernel_rfl); have h37 := @run_callFunc_extern Tryz.prog 176 _ (ReflectliteType.method ReflectliteType.elem) Tryz.func176 (by kernel_rfl) (by kernel_rfl) (by kernel_rfl) (by kernel_rfl)
  have h38 := @run_callFunc_extern Tryz.prog 177 _ (ReflectliteType.relation "Implements" ReflectliteType.implements_) Tryz.func177 (by kernel_rfl) (by kernel_rfl) (by kernel_rfl) (by kernel_rfl)
  have h10 := @run_callFunc_extern Tryz.prog 117 _ ReflectliteType.typeOf Tryz.func117 (by kernel_rfl) (by kernel_rfl) (by kernel_rfl) (by kernel_rfl)
  have h35 := @run_callFunc_extern Tryz.prog 174 _ (ReflectliteType.relation "AssignableTo" ReflectliteType.assignableTo) Tryz.func174 (by kernel_rfl) (by kernel_rfl) (by kernel_rfl) (by kernel_rfl)
  have h11 := @run_callFunc_extern Tryz.prog 118 _ (ReflectliteValue.method (ReflectliteValue.valueError "reflectlite.Value.Elem" 0) ReflectliteValue.elem) Tryz.func118 (by kernel_rfl) (by kernel_rfl) (by kernel_rfl) (by kernel_rfl)
  have h12 := @run_callFunc_extern Tryz.prog 119 _ ReflectliteValue.set Tryz.func119 (by kernel_rfl) (by kernel_rfl) (by kernel_rfl) (by kernel_rfl); have tO := typeOf140
  have mA : ∀ (h : Value) (w : World), (Go.method 375 214 (.agg #[h]) "AssignableTo").run Tryz.prog w = .ok (174, .agg #[h]) w := fun h w => by rw [← types_n]; exact methodAssignableTo h w
  have a25 := assignable140; have v25 := valW; have f6 := val142; have f7 := type142
  have mK : ∀ (h : Value) (w : World), (Go.method 375 214 (.agg #[h]) "Kind").run Tryz.prog w = .ok (161, h) w := fun h w => by rw [← types_n]; exact methodKind h w
  have mE : ∀ (h : Value) (w : World), (Go.method 375 214 (.agg #[h]) "Elem").run Tryz.prog w = .ok (176, .agg #[h]) w := fun h w => by rw [← types_n]; exact methodElem h w
  have mI : ∀ (h : Value) (w : World), (Go.method 375 214 (.agg #[h]) "Implements").run Tryz.prog w = .ok (177, .agg #[h]) w := fun h w => by rw [← types_n]; exact methodImplements h w
  have k27 := kind142; have k25 := kind140; have e27 := elem142; have i25 := implements140; have n8 := isNil142 ⟨w.heap.size, 0, none⟩ ⟨g, 0, none⟩ ((w.alloc (.cells #[.pointer (some ⟨g, 0, none⟩)] 142)).alloc (.cells #[.pointer (some ⟨4, 142, none⟩), .pointer (some ⟨w.heap.size, 0, none⟩), .int .u64 150] 176)) (by simp)
  have hlt : 0 < w.heap.size := by
    rcases Nat.eq_zero_or_pos w.heap.size with h0 | h
    · simp [World.cell?, h0] at hg
    · exact h
  have hg2 : ((w.alloc (.cells #[.pointer (some ⟨g, 0, none⟩)] 142)).alloc (.cells #[.pointer (some ⟨4, 142, none⟩), .pointer (some ⟨w.heap.size, 0, none⟩), .int .u64 150] 176)).cell? ⟨0, 0, none⟩ = some (.iface 214 (.agg #[.pointer (some ⟨4, 82, none⟩)])) := by
    rw [World.cell?_alloc_lt _ _ ⟨0, 0, none⟩ (by simp), World.cell?_alloc_lt _ _ ⟨0, 0, none⟩ hlt]; exact hg
  have htl : g < w.heap.size := Go.W.lt_of_own ht0; have el := elemV142 ⟨w.heap.size, 0, none⟩ ⟨g, 0, none⟩ (((w.alloc (.cells #[.pointer (some ⟨g, 0, none⟩)] 142)).alloc (.cells #[.pointer (some ⟨4, 142, none⟩), .pointer (some ⟨w.heap.size, 0, none⟩), .int .u64 150] 176)).alloc (.cells #[.pointer (some ⟨4, 142, none⟩), .pointer (some ⟨w.heap.size, 0, none⟩), .int .u64 150] 176)) (by rw [World.cell?_alloc_lt _ _ ⟨w.heap.size, 0, none⟩ (by simp; omega)]; simp)
  have st := set140 g (w.heap.size + 1 + 1 + 1) a b old e ((((w.alloc (.cells #[.pointer (some ⟨g, 0, none⟩)] 142)).alloc (.cells #[.pointer (some ⟨4, 142, none⟩), .pointer (some ⟨w.heap.size, 0, none⟩), .int .u64 150] 176)).alloc (.cells #[.pointer (some ⟨4, 142, none⟩), .pointer (some ⟨w.heap.size, 0, none⟩), .int .u64 150] 176)).alloc (.cells #[.int .i64 a, .int .i64 b] 140))
    (by rw [show w.heap.size + 1 + 1 + 1 = (((w.alloc (.cells #[.pointer (some ⟨g, 0, none⟩)] 142)).alloc (.cells #[.pointer (some ⟨4, 142, none⟩), .pointer (some ⟨w.heap.size, 0, none⟩), .int .u64 150] 176)).alloc (.cells #[.pointer (some ⟨4, 142, none⟩), .pointer (some ⟨w.heap.size, 0, none⟩), .int .u64 150] 176)).heap.size from by simp]; exact ah_last _ _) (ah_old (ah_old (ah_old (ah_old ht0)))) ho
  go_enter Tryz.func68, Tryz.ntmps68
  go_wp2
  refine wp_loop_rounds 1 ?_; rw [rounds_succ]
  go_wp2
  go_ret
  exact ⟨rfl, rfl⟩
end Go.Proofs.YtdgmfagfpbdbhaaGreatDoor.As
end
section
namespace Go.Proofs.YtdgmfagfpbdbhaaGreatDoor
open Go Go.W Tryz T F
abbrev ERRT : Fact := Row (d9 0) [.iface 214 (.agg #[.pointer (some ⟨4, 82, none⟩)])]
abbrev wgO (g : Nat) (a b : Int) : Nat × Obj := (g, .cells #[int a, int b] U8 (0, 0))
theorem dz9 (g : Nat) (a b : Int) : Meets prog rV [.iface U8 (.agg #[int a, int b]), .iface aq7 (.pointer (d9 g))] { hpI := [wgO g 0 0], LI := [ERRT], val := fun _ : Unit => .bool true, hpO := fun _ => [wgO g a b] } := by
  intro w hw
  have hg : w.cell? ⟨0, 0, none⟩ = some (.iface 214 (.agg #[.pointer (some ⟨4, 82, none⟩)])) := by
    obtain ⟨ad, e, h⟩ := hw.fs ERRT (by simp) 0 _ rfl
    cases e
    exact h
  have ht := hw.own (wgO g 0 0) (by simp); refine (As.as_hit g a b #[int 0, int 0] U8 w hg ht rfl).mono ?_; rintro e w' ⟨rfl, rfl⟩; refine ⟨(), rfl, tK, ?_⟩; have h4 := (((hw.alloc (.cells #[.pointer (d9 g)] 142)).alloc (.cells #[.pointer (some ⟨4, 142, none⟩), .pointer (some ⟨w.heap.size, 0, none⟩), .int .u64 150] 176)).alloc (.cells #[.pointer (some ⟨4, 142, none⟩), .pointer (some ⟨w.heap.size, 0, none⟩), .int .u64 150] 176)).alloc (.cells #[.int .i64 a, .int .i64 b] 140); have h5 := h4.perm (List.perm_append_comm (l₁ := [_, _, _, _]) (l₂ := [_])); have hg5 := h5.own (wgO g 0 0) (by simp); have h6 := h5.write (xW #[int a, int b]) (setRow_heap _ g #[int 0, int 0] #[int a, int b] U8 (0, 0) hg5); exact h6.weak (.cons_cons _ nK) (fun F hF => by cases hF)
theorem dz8 (v : Value) : Meets prog rV [.nilIface, v] { val := fun _ : Unit => .bool false } := by
  intro w hw; refine (As.as_nil v w).mono ?_; rintro e w' ⟨rfl, rfl⟩; exact ⟨(), rfl, tK, hw⟩
end Go.Proofs.YtdgmfagfpbdbhaaGreatDoor
namespace Go.Proofs.YtdgmfagfpbdbhaaGreatDoor
open Go Go.W Tryz T F
attribute [local irreducible] HL HC HQ HB Row Rows2 Blk Facts
theorem kq2 : Meets prog cF [.nilIface] { val := fun _ : Unit => .tuple #[int 0, int 0] } := by
 refine j3 nH rfl v8 fun w0 => ?_; refine i4 (c5 rfl (c5 rfl (t6 ?_))); refine u4 rfl (fun _ => mX _) fun g4 => ?_; refine c8 (d6 (i4 (b6 rfl ?_))); refine lK rfl ⟨_, underlying142, rfl⟩ rfl (j4 sC rfl rfl (dz8 _) (hpR := [_]) (.refl _) tK fun _ _ => c8 (c_f rfl bf_x ?_)); refine i8 (i1 (i4 (c5 rfl (c5 rfl (c8 (l4 ?_)))))); exact ret2 () rfl rfl rfl rfl rfl tK nK tK
theorem ij2 (a b : Int) : Meets prog cF [.iface U8 (.agg #[int a, int b])] { LI := [ERRT], val := fun _ : Unit => .tuple #[int a, int b] } := by
 refine j3 nH rfl v8 fun w0 => ?_; refine i4 (c5 rfl (c5 rfl (t6 ?_))); refine u4 rfl (fun _ => mX _) fun g4 => ?_; refine c8 (d6 (i4 (b6 rfl ?_))); refine lK rfl ⟨_, underlying142, rfl⟩ rfl (j4 sC rfl rfl (dz9 g4 a b) (.refl _) mC fun _ _ => c8 (c_t rfl px7 (d6 (C0 5 mixed (by decide) (by decide) rfl rfl ?_))))
 apply k7 _ rfl rfl rfl
 ·intro w1
  first | refine a6 ⟨_, 0, none⟩ rfl rfl kD rfl ?_ | refine a6 _ rfl rfl kD rfl ?_
  refine b5 ?_; exact i5 rfl
 apply k7 _ rfl rfl rfl
 ·intro w1
  first | refine a7 rfl a8 rfl (d8 mB rfl) ?_ | refine a7 rfl a8 rfl (i2 mB rfl) ?_ | refine a7 rfl a8 rfl (b7 mB (b4 (by omega) rfl)) ?_ | refine a7 rfl a8 rfl (b8 mB (rows_get (by omega) rfl)) ?_ | refine a7 rfl a8 rfl (d7 mB rfl) ?_
  refine b5 ?_; exact i5 rfl
 apply k7 _ rfl rfl rfl
 ·intro w1
  first | refine a6 ⟨_, 1, none⟩ rfl rfl kC rfl ?_ | refine a6 _ rfl rfl kC rfl ?_
  refine b5 ?_; exact i5 rfl
 apply k7 _ rfl rfl rfl
 ·intro w1
  first | refine a7 rfl U1 rfl (d8 mB rfl) ?_ | refine a7 rfl U1 rfl (i2 mB rfl) ?_ | refine a7 rfl U1 rfl (b7 mB (b4 (by omega) rfl)) ?_ | refine a7 rfl U1 rfl (b8 mB (rows_get (by omega) rfl)) ?_ | refine a7 rfl U1 rfl (d7 mB rfl) ?_
  refine b5 ?_; exact i5 rfl
 refine k8 (fun w1 => c5 rfl (q_z rfl)) ?_; refine v7 ⟨rfl, ?_⟩; refine c5 rfl (c8 (E9 ?_)); exact ret2 () rfl rfl rfl rfl rfl tK nK tK
end Go.Proofs.YtdgmfagfpbdbhaaGreatDoor
end
section
namespace Go.Proofs.YtdgmfagfpbdbhaaGreatDoor
open Go Go.W Tryz T F
set_option maxRecDepth 20000
attribute [local irreducible] HL HC HQ HB Row Rows2 Blk Facts
def prT (x : Str) : (List Cl × List PH) × Option (Nat × Int) := match rdF 0 (splitB 10 x) [] [] with
  | (none, p) => (([], []), some (p, 2))
  | (some (cl, hd), _) => match trbT cl hd with
    | (none, p) => (([], []), some (p, 3))
    | (some t, _) => (t, none)
def erV (o : Option (Nat × Int)) : Value := match o with
  | none => .nilIface
  | some (p, e) => wrV p e
theorem pr_no {x : Str} {p : Nat} (h : rdF 0 (splitB 10 x) [] [] = (none, p)) : prT x = (([], []), some (p, 2)) := by rw [prT, h]
theorem pr_bad {x : Str} {cl hd : List PL} {q p : Nat} (h : rdF 0 (splitB 10 x) [] [] = (some (cl, hd), q)) (h2 : trbT cl hd = (none, p)) : prT x = (([], []), some (p, 3)) := by rw [prT, h]; simp only; rw [h2]
theorem pr_ok {x : Str} {cl hd : List PL} {q r : Nat} {t : List Cl × List PH} (h : rdF 0 (splitB 10 x) [] [] = (some (cl, hd), q)) (h2 : trbT cl hd = (some t, r)) : prT x = (t, none) := by rw [prT, h]; simp only; rw [h2]
theorem kx8 {x : Str} (hx : ¬ 900 < x.length) : readT x = match prT x with
    | (_, some (p, e)) => (([], []), p, e)
    | ((cs, hs), none) => if checkT ⟨cs, hs⟩ = 0 then ((cs, hs), 0, 0) else (([], []), 0, checkT ⟨cs, hs⟩) := by
  rw [readT, if_neg hx, prT]
  rcases rdF 0 (splitB 10 x) [] [] with ⟨_ | ⟨cl, hd⟩, p⟩
  · rfl
  simp only
  rcases trbT cl hd with ⟨_ | ⟨cs, hs⟩, q⟩
  · rfl
  rfl
structure PrOK (t : List Cl × List PH) (y : TRs) : Prop where
  e1 : y.1 = t.1
  e2 : y.2.2.1.map Hd.p = t.2
  n1 : y.1.length ≤ 1000
  n2 : y.2.2.1.length ≤ 1000
  na : ∀ h ∈ y.2.2.1, h.2.2.2.l.length ≤ 1000
  c1 : y.1.length ≤ y.2.1.2
  c2 : y.2.2.1.length ≤ y.2.2.2.2
theorem U7 : PrOK ([], []) (([], (none, 0), [], (none, 0)) : TRs) := ⟨rfl, rfl, Nat.zero_le _, Nat.zero_le _, fun h hh => (by cases hh), Nat.zero_le _, Nat.zero_le _⟩
theorem bl_pr {R : BlR} {y : TRs} {o : List Cl × List PH} (h : BlOK R y) (h2 : R.1.getD ([], []) = o) : PrOK o y := by
  subst h2; obtain ⟨a, b, c, d, e, f, g⟩ := h
  cases hR : R.1 with
  | none => exact ⟨(a hR).1, by rw [(a hR).2]; rfl, c, d, e, f, g⟩
  | some t => exact ⟨(b t hR).1, (b t hR).2, c, d, e, f, g⟩
theorem nj6 (x : Str) (hx : x.length ≤ 900) (p : Nat) (h : rdF 0 (splitB 10 x) [] [] = (none, p)) : Meets prog bU [str x] { inv := fun y : TRs => PrOK (prT x).1 y, val := fun y => .tuple #[.agg #[.slice y.2.1.1 y.1.length y.2.1.2, .slice y.2.2.2.1 y.2.2.1.length y.2.2.2.2], erV (prT x).2], LO := fun y => [Row y.2.1.1 (rows y.1), RowsF y.2.2.2.1 y.2.2.1 Hd.row] } := by
 have hLm := mU x hx; rw [h] at hLm; rw [pr_no h]; refine j3 rZ rfl v8 fun w0 => i4 (u4 rfl (fun _ => D4 _) fun g2 => ?_); refine c5 rfl (t6 (b6 rfl ?_)); refine j4 nG rfl rfl (hLm) (hpR := [_]) (.refl _) tK fun q hq => ?_; refine b6 rfl (l3 rfl rfl rfl (l3 rfl rfl rfl ?_)); refine u4 rfl (fun _ => Y5 _) fun g4 => l6 (cs := #[.slice q.1.2.1 q.1.1.length q.1.2.2, .slice q.2.2.1 q.2.1.length q.2.2.2]) rfl rfl (.refl _) C4 (by rfl) (by rfl) ?_; refine c5 rfl (c8 (d6 (i4 (b6 rfl ?_)))); refine R7 (.bool (decide (¬ False))) rfl rfl rfl (fun _ => rfl) (fun _ => w7) (c8 ?_)
 first | refine k9 rfl (fun hb1 => ?_) (fun hb1 => ?_) | refine j0 rfl (fun hb1 => ?_) (fun hb1 => ?_)
 ·have hb1' := hb1; try simp at hb1'
  refine i4 (u0 _ rfl rfl (fun _ => A6 ..) (b6 rfl (l6 (cs := #[.slice none 0 0, .slice none 0 0]) rfl rfl (.swap _ _ _) c7 (by rfl) (by rfl) ?_))); refine c5 rfl (c8 (E9 ?_)); refine n5 (α := Cl) (n5 (α := Hd) ?_); refine G1 (Fs := ([] : List Hd).map Hd.row) (by intro F hF; simp at hF) ?_; refine J7 (A := none) (ps := ([] : List Hd)) (f := Hd.row) mB mB ?_; exact A9 (([], (none, 0), [], (none, 0)) : TRs) (fun a w9 ha hw9 => D1 (cs := #[.slice none 0 0, .slice none 0 0]) (v1 := wrV p 2) rfl rfl rfl i6 c7 rfl m0 a w9 ha.at_ hw9) rfl U7 nK mC
 exact absurd id hb1
theorem read_on (x : Str) (hx : x.length ≤ 900) (t : List PL × List PL) (r : Nat) (h : rdF 0 (splitB 10 x) [] [] = (some t, r)) : Meets prog bU [str x] { inv := fun y : TRs => PrOK (prT x).1 y, val := fun y => .tuple #[.agg #[.slice y.2.1.1 y.1.length y.2.1.2, .slice y.2.2.2.1 y.2.2.1.length y.2.2.2.2], erV (prT x).2], LO := fun y => [Row y.2.1.1 (rows y.1), RowsF y.2.2.2.1 y.2.2.1 Hd.row] } := by
 have hLm := mU x hx; rw [h] at hLm; obtain ⟨cl0, hd0⟩ := t; obtain ⟨R, hR⟩ : ∃ R, trbT cl0 hd0 = R := ⟨_, rfl⟩
 have hP : prT x = (R.1.getD ([], []), if R.1 = none then some (R.2, 3) else none) := by
   rcases R with ⟨_ | t, p⟩
   · exact pr_bad h hR
   exact pr_ok h hR
 have hE : erV (if R.1 = none then some (R.2, 3) else none) = blV R := by
   rcases R with ⟨_ | t, p⟩ <;> rfl
 rw [hP, hE]; refine j3 rZ rfl v8 fun w0 => i4 (u4 rfl (fun _ => D4 _) fun g2 => ?_); refine c5 rfl (t6 (b6 rfl ?_)); refine j4 nG rfl rfl (hLm) (hpR := [_]) (.refl _) tK fun q hq => ?_; obtain ⟨hq0, hq1, hqn, hqm, hqa⟩ := hq; obtain ⟨hqc, hqh⟩ := hq1 _ rfl; refine b6 rfl (l3 rfl rfl rfl (l3 rfl rfl rfl ?_)); refine u4 rfl (fun _ => Y5 _) fun g4 => l6 (cs := #[.slice q.1.2.1 q.1.1.length q.1.2.2, .slice q.2.2.1 q.2.1.length q.2.2.2]) rfl rfl (.refl _) C4 (by rfl) (by rfl) ?_; refine c5 rfl (c8 (d6 (i4 (b6 rfl ?_)))); refine R7 (.bool (decide (¬ True))) rfl rfl rfl (fun _ => rfl) (fun _ => w7) (c8 ?_)
 first | refine k9 rfl (fun hb1 => ?_) (fun hb1 => ?_) | refine j0 rfl (fun hb1 => ?_) (fun hb1 => ?_)
 ·exact absurd tK hb1
 have hb1' := hb1; try simp at hb1'
 refine i8 (i1 (i4 ?_)); refine G3 rfl J8 C4 rfl m0 (by rfl) ?_; have hB := yS (A := q.1.2.1) (B := q.2.2.1) (ca := q.1.2.2) (cb := q.2.2.2) q.1.1 q.2.1 hqn hqm hqa; rw [hqc, hqh, hR] at hB; refine j4 qA rfl rfl (hB) (hpR := [_, _]) (.refl _) mC fun y hy => ?_; refine l3 rfl rfl rfl (l3 rfl rfl rfl ?_); refine l6 (cs := #[.slice y.2.1.1 y.1.length y.2.1.2, .slice y.2.2.2.1 y.2.2.1.length y.2.2.2.2]) rfl rfl (.swap _ _ _) c7 (by rfl) (by rfl) ?_; refine c5 rfl (c8 (l4 ?_)); exact A9 y (fun a w9 ha hw9 => D1 (cs := #[.slice y.2.1.1 y.1.length y.2.1.2, .slice y.2.2.2.1 y.2.2.1.length y.2.2.2.2]) (v1 := blV R) rfl rfl rfl i6 c7 rfl m0 a w9 ha.at_ hw9) rfl (bl_pr hy rfl) nK mC
theorem pL (x : Str) (hx : x.length ≤ 900) : Meets prog bU [str x] { inv := fun y : TRs => PrOK (prT x).1 y, val := fun y => .tuple #[.agg #[.slice y.2.1.1 y.1.length y.2.1.2, .slice y.2.2.2.1 y.2.2.1.length y.2.2.2.2], erV (prT x).2], LO := fun y => [Row y.2.1.1 (rows y.1), RowsF y.2.2.2.1 y.2.2.1 Hd.row] } := by
  rcases h : rdF 0 (splitB 10 x) [] [] with ⟨_ | t, p⟩
  · exact nj6 x hx p h
  exact read_on x hx t p h
theorem mx6 (x : Str) (hx : 900 < x.length) : Meets prog X7 [str x] { LI := [ERRT], inv := fun y : TRs => PrOK (readT x).1 y, val := fun y => .tuple #[.agg #[.slice y.2.1.1 y.1.length y.2.1.2, .slice y.2.2.2.1 y.2.2.1.length y.2.2.2.2], int (readT x).2.1, int (readT x).2.2], LO := fun y => [Row y.2.1.1 (rows y.1), RowsF y.2.2.2.1 y.2.2.1 Hd.row] } := by
 have hR : readT x = (([], []), 0, 10) := by rw [readT, if_pos hx]
 rw [hR]; refine j3 jU rfl v8 fun w0 => i4 (u4 rfl (fun _ => D4 _) fun g2 => ?_); refine c5 rfl (c5 rfl (c8 (d6 (i4 (b6 rfl ?_))))); refine G5 rfl q8 rfl ?_; refine Q0 rfl rfl rfl (c8 ?_)
 first | refine k9 rfl (fun hb1 => ?_) (fun hb1 => ?_) | refine j0 rfl (fun hb1 => ?_) (fun hb1 => ?_)
 ·have hb1' := hb1; try simp at hb1'
  refine i4 (u0 _ rfl rfl (fun _ => A6 ..) (l6 (cs := #[.slice none 0 0, .slice none 0 0]) rfl rfl (.refl _) c7 (by rfl) (by rfl) ?_)); refine c5 rfl (c5 rfl (c8 (E9 ?_))); refine n5 (α := Cl) (n5 (α := Hd) ?_); refine G1 (Fs := ([] : List Hd).map Hd.row) (by intro F hF; simp at hF) ?_; refine J7 (A := none) (ps := ([] : List Hd)) (f := Hd.row) mB mB ?_; exact A9 (([], (none, 0), [], (none, 0)) : TRs) (fun a w9 ha hw9 => D0 (cs := #[.slice none 0 0, .slice none 0 0]) (v1 := int (0 : Nat)) (v2 := int (10)) rfl rfl rfl rfl i6 c7 rfl m0 a w9 ha.at_ hw9) rfl U7 nK mC
 exfalso; omega
theorem pz4 (x : Str) (hx : ¬ 900 < x.length) (p : Nat) (e : Int) (he : ¬ e = 0) (h : (prT x).2 = some (p, e)) : Meets prog X7 [str x] { LI := [ERRT], inv := fun y : TRs => PrOK (readT x).1 y, val := fun y => .tuple #[.agg #[.slice y.2.1.1 y.1.length y.2.1.2, .slice y.2.2.2.1 y.2.2.1.length y.2.2.2.2], int (readT x).2.1, int (readT x).2.2], LO := fun y => [Row y.2.1.1 (rows y.1), RowsF y.2.2.2.1 y.2.2.1 Hd.row] } := by
 have hR : readT x = (([], []), p, e) := by
   rw [kx8 hx]
   rcases hq : prT x with ⟨t, o⟩
   rw [hq] at h; obtain rfl : o = _ := h
   rfl
 rw [hR]; have hRd := pL x (by omega); rw [h] at hRd; refine j3 jU rfl v8 fun w0 => i4 (u4 rfl (fun _ => D4 _) fun g2 => ?_); refine c5 rfl (c5 rfl (c8 (d6 (i4 (b6 rfl ?_))))); refine G5 rfl q8 rfl ?_; refine Q0 rfl rfl rfl (c8 ?_)
 first | refine k9 rfl (fun hb1 => ?_) (fun hb1 => ?_) | refine j0 rfl (fun hb1 => ?_) (fun hb1 => ?_)
 ·exfalso; omega
 have hb1' := hb1; try simp at hb1'
 refine i8 (i1 (i4 (b6 rfl ?_))); refine j4 qB rfl rfl (hRd) (hpR := [_]) (.refl _) tK fun y hy => ?_; refine b6 rfl (l3 rfl rfl rfl (l3 rfl rfl rfl ?_)); refine l6 (cs := #[.slice y.2.1.1 y.1.length y.2.1.2, .slice y.2.2.2.1 y.2.2.1.length y.2.2.2.2]) rfl rfl (.refl _) c7 (by rfl) (by rfl) ?_; refine c5 rfl (c8 (d6 (i4 (b6 rfl ?_)))); refine j4 lR rfl rfl (ij2 (p : Int) e) (hpR := [_]) (.refl _) mC fun _ _ => ?_; refine b6 rfl (l3 rfl rfl rfl (l3 rfl rfl rfl (c5 rfl (c5 rfl (t6 (b6 rfl (M8 rfl rfl rfl (b5 ?_)))))))); refine i1 ?_
 first | refine k9 rfl (fun hb2 => ?_) (fun hb2 => ?_) | refine j0 rfl (fun hb2 => ?_) (fun hb2 => ?_)
 ·have hb2' := hb2; try simp at hb2'
  refine i4 (u0 _ rfl rfl (fun _ => A6 ..) ?_); refine b6 rfl (b6 rfl ?_); refine l6 (cs := #[.slice none 0 0, .slice none 0 0]) rfl rfl (.refl _) c7 (by rfl) (by rfl) ?_; refine c5 rfl (c5 rfl (c8 (E9 ?_))); refine n5 (α := Cl) (n5 (α := Hd) ?_); refine G1 (Fs := ([] : List Hd).map Hd.row) (by intro F hF; simp at hF) ?_; refine J7 (A := none) (ps := ([] : List Hd)) (f := Hd.row) mB mB ?_; exact A9 (([], (none, 0), [], (none, 0)) : TRs) (fun a w9 ha hw9 => D0 (cs := #[.slice none 0 0, .slice none 0 0]) (v1 := int (p : Nat)) (v2 := int (e)) rfl rfl rfl rfl i6 c7 rfl m0 a w9 ha.at_ hw9) rfl U7 nK mC
 exact absurd he hb2
theorem Read_on (x : Str) (hx : ¬ 900 < x.length) (h : (prT x).2 = none) : Meets prog X7 [str x] { LI := [ERRT], inv := fun y : TRs => PrOK (readT x).1 y, val := fun y => .tuple #[.agg #[.slice y.2.1.1 y.1.length y.2.1.2, .slice y.2.2.2.1 y.2.2.1.length y.2.2.2.2], int (readT x).2.1, int (readT x).2.2], LO := fun y => [Row y.2.1.1 (rows y.1), RowsF y.2.2.2.1 y.2.2.1 Hd.row] } := by
 obtain ⟨⟨cs, hs⟩, hq⟩ : ∃ t, prT x = (t, none) := ⟨(prT x).1, by rw [← h]⟩; have hR : readT x = if checkT ⟨cs, hs⟩ = 0 then ((cs, hs), 0, 0) else (([], []), 0, checkT ⟨cs, hs⟩) := by rw [kx8 hx, hq]
 have hRd := pL x (by omega); rw [hq] at hRd; refine j3 jU rfl v8 fun w0 => i4 (u4 rfl (fun _ => D4 _) fun g2 => ?_); refine c5 rfl (c5 rfl (c8 (d6 (i4 (b6 rfl ?_))))); refine G5 rfl q8 rfl ?_; refine Q0 rfl rfl rfl (c8 ?_)
 first | refine k9 rfl (fun hb1 => ?_) (fun hb1 => ?_) | refine j0 rfl (fun hb1 => ?_) (fun hb1 => ?_)
 ·exfalso; omega
 have hb1' := hb1; try simp at hb1'
 refine i8 (i1 (i4 (b6 rfl ?_))); refine j4 qB rfl rfl (hRd) (hpR := [_]) (.refl _) tK fun y hy => ?_; have hy1 : y.1 = cs := hy.e1; have hy2 : y.2.2.1.map Hd.p = hs := hy.e2; have hck : checkT (trOf y.1 y.2.2.1) = checkT ⟨cs, hs⟩ := by rw [show trOf y.1 y.2.2.1 = ⟨y.1, y.2.2.1.map Hd.p⟩ from rfl, hy1, hy2]
 refine b6 rfl (l3 rfl rfl rfl (l3 rfl rfl rfl ?_)); refine l6 (cs := #[.slice y.2.1.1 y.1.length y.2.1.2, .slice y.2.2.2.1 y.2.2.1.length y.2.2.2.2]) rfl rfl (.refl _) c7 (by rfl) (by rfl) ?_; refine c5 rfl (c8 (d6 (i4 (b6 rfl ?_)))); refine j4 lR rfl rfl (kq2) (hpR := [_]) (.refl _) tK fun _ _ => ?_; refine b6 rfl (l3 rfl rfl rfl (l3 rfl rfl rfl (c5 rfl (c5 rfl (t6 (b6 rfl (M8 rfl rfl rfl (b5 ?_)))))))); refine i1 ?_
 first | refine k9 rfl (fun hb2 => ?_) (fun hb2 => ?_) | refine j0 rfl (fun hb2 => ?_) (fun hb2 => ?_)
 ·exact absurd rfl hb2
 have hb2' := hb2; try simp at hb2'
 refine i8 (i1 (d6 (i4 ?_))); refine G3 rfl i6 c7 rfl m0 (by rfl) ?_; refine j4 nI rfl rfl (mV (A := y.2.1.1) (B := y.2.2.2.1) (ca := y.2.1.2) (cb := y.2.2.2.2) y.1 y.2.2.1 hy.c1 hy.c2 (fun h9 h8 => Nat.le_trans (hy.na h9 h8) (by decide))) (hpR := [_]) (.refl _) mC fun _ _ => ?_; refine c5 rfl (t6 (b6 rfl (M8 rfl rfl rfl (c8 ?_))))
 first | refine k9 rfl (fun hb3 => ?_) (fun hb3 => ?_) | refine j0 rfl (fun hb3 => ?_) (fun hb3 => ?_)
 ·have hb3' := hb3; try simp at hb3'
  rw [hck] at hb3; rw [if_neg hb3] at hR; rw [hR, ← hck]; refine i4 (u0 _ rfl rfl (fun _ => A6 ..) (b6 rfl (l6 (cs := #[.slice none 0 0, .slice none 0 0]) rfl rfl (.refl _) c7 (by rfl) (by rfl) ?_))); refine c5 rfl (c5 rfl (c8 (E9 ?_))); refine n5 (α := Cl) (n5 (α := Hd) ?_); refine G1 (Fs := ([] : List Hd).map Hd.row) (by intro F hF; simp at hF) ?_; refine J7 (A := none) (ps := ([] : List Hd)) (f := Hd.row) mB mB ?_; exact A9 (([], (none, 0), [], (none, 0)) : TRs) (fun a w9 ha hw9 => D0 (cs := #[.slice none 0 0, .slice none 0 0]) (v1 := int (0 : Nat)) (v2 := int (checkT (trOf y.1 y.2.2.1))) rfl rfl rfl rfl i6 c7 rfl m0 a w9 ha.at_ hw9) rfl U7 nK mC
 have hb3' := hb3; try simp at hb3'
 rw [hck] at hb3; rw [if_pos (Classical.not_not.1 hb3)] at hR; rw [hR]; refine i8 (i1 (i4 ?_)); refine G3 rfl i6 c7 rfl m0 (by rfl) (l6 (cs := #[.slice y.2.1.1 y.1.length y.2.1.2, .slice y.2.2.2.1 y.2.2.1.length y.2.2.2.2]) rfl rfl (.refl _) c7 (by rfl) (by rfl) ?_); refine c5 rfl (c5 rfl (c8 (l4 ?_))); exact A9 y (fun a w9 ha hw9 => D0 (cs := #[.slice y.2.1.1 y.1.length y.2.1.2, .slice y.2.2.2.1 y.2.2.1.length y.2.2.2.2]) (v1 := int (0 : Nat)) (v2 := int 0) rfl rfl rfl rfl i6 c7 rfl m0 a w9 ha.at_ hw9) rfl hy nK mC
theorem pr_err {x : Str} {p : Nat} {e : Int} (h : (prT x).2 = some (p, e)) : ¬ e = 0 := by
  unfold prT at h
  split at h
  · cases h; decide
  split at h
  · cases h; decide
  cases h
theorem aj8 (x : Str) : Meets prog X7 [str x] { LI := [ERRT], inv := fun y : TRs => PrOK (readT x).1 y, val := fun y => .tuple #[.agg #[.slice y.2.1.1 y.1.length y.2.1.2, .slice y.2.2.2.1 y.2.2.1.length y.2.2.2.2], int (readT x).2.1, int (readT x).2.2], LO := fun y => [Row y.2.1.1 (rows y.1), RowsF y.2.2.2.1 y.2.2.1 Hd.row] } := by
  by_cases hx : 900 < x.length
  · exact mx6 x hx
  rcases h : (prT x).2 with _ | ⟨p, e⟩
  · exact Read_on x hx h
  exact pz4 x hx p e (pr_err h) h
end Go.Proofs.YtdgmfagfpbdbhaaGreatDoor
end
section
namespace Go.W
open Go Go.RowKit
def byteV (s : Str) : List Value := s.map fun b => Value.int .u8 b.toNat
theorem ij4 (s t : Str) : byteV (s ++ t) = byteV s ++ byteV t := List.map_append
theorem yQ (s : Str) : Lib.strCells ⟨s.toArray⟩ = byteV s := by simp [Lib.strCells, byteV]
section
variable {L : List Fact} {hp : Hp}
theorem mz3 {b : Bx} {w w' : World} {g' : Nat} {o : Obj} (hpw : WI b w hp L) (h1 : w'.os = w.os) (h2 : w'.tape = w.tape) (h3 : w'.output = w.output) (h4 : w.heap.size ≤ w'.heap.size) (h5 : w.drawn ≤ w'.drawn) (hge : w.heap.size ≤ g') (hg' : w'.heap[g']? = some o)
    (hkeep : ∀ k, k < w.heap.size → (∃ p ∈ hp, p.1 = k) ∨ (∃ F ∈ L, F.fp k) ∨ (k < b.w0.heap.size ∧ k ∉ b.S0) → w'.heap[k]? = w.heap[k]?) : WI b w' ((g', o) :: hp) L := by
  have hne : ∀ p ∈ hp, p.1 ≠ g' := fun p hp e => by have := lt_of_own (hpw.own p hp); omega
  refine { ext := ⟨h1.trans hpw.ext.os, h2.trans hpw.ext.tape, h3.trans hpw.ext.output, Nat.le_trans hpw.ext.size h4, fun k hk hn => ?_, Nat.le_trans hpw.ext.dr h5⟩, own := ?_, nd := ?_, s0 := ?_, fs := ?_, ap := ?_, al := hpw.al }
  · exact (hkeep k (Nat.lt_of_lt_of_le hk hpw.ext.size) (.inr (.inr ⟨hk, hn⟩))).trans (hpw.ext.block k hk hn)
  · intro p hp
    rcases List.mem_cons.1 hp with rfl | hp
    · exact hg'
    exact (hkeep p.1 (lt_of_own (hpw.own p hp)) (.inl ⟨p, hp, rfl⟩)).trans (hpw.own p hp)
  · simp only [List.map_cons, List.nodup_cons]
    exact ⟨fun hm => by obtain ⟨p, hp, e⟩ := List.mem_map.1 hm; exact hne p hp e, hpw.nd⟩
  · intro p hp
    rcases List.mem_cons.1 hp with rfl | hp
    · right
      show b.w0.heap.size ≤ g'; exact Nat.le_trans hpw.ext.size hge
    exact hpw.s0 p hp
  · intro F hF
    exact F.st w w' (fun k hk => hkeep k (F.lt w (hpw.fs F hF) k hk) (.inr (.inl ⟨F, hF, hk⟩))) (hpw.fs F hF)
  intro F hF p hp hk
  rcases List.mem_cons.1 hp with rfl | hp
  · have := F.lt w (hpw.fs F hF) _ hk
    simp only at this
    omega
  exact hpw.ap F hF p hp hk
structure ElS (P : Program) (t u e : TypeId) : Prop where
  tu : P.underlying t = some (.slice e)
  ts : P.underlying u = some .string
  ti : ∃ i, P.info? e = some i ∧ i.zero = some (.int .u8 0) ∧ i.size = 1 ∧ i.bytes = 1
theorem ElS.of {P : Program} {t u e : TypeId} (h : P.underlying t = some (.slice e)) (hs : P.underlying u = some .string) (hi : (P.info? e).map (fun i => (i.zero, i.size, i.bytes)) = some (some (.int .u8 0), 1, 1)) : ElS P t u e := by
  obtain ⟨i, h1, h2, h3, h4⟩ := info_parts hi; exact ⟨h, hs, ⟨i, h1, h2, h3, h4⟩⟩
theorem cq7 {b : Bx} {P : Program} {w : World} {t u e : TypeId} {n cap : Nat} {A : Option Addr} {xs : List Value} {og : Hp} (el : ElS P t u e) (hG : Grow e 1 A n cap xs og) (hw : WI b w (og ++ hp) L) (s : Str)
    (hn : n + s.length ≤ maxLen) (hby : n + s.length ≤ 140737488355328) (ty : TypeId) :
    ∃ A' cap' og' w', (Builtin.append_ #[t, u] ty #[.slice A n cap, str s]).run P w = .ok (.slice A' (n + s.length) cap') w' ∧ Grow e 1 A' (n + s.length) cap' (xs ++ byteV s) og' ∧ WI b w' (og' ++ hp) L := by
  obtain ⟨i, hi, hz, hsz, hb⟩ := el.ti; have hsize : (ByteArray.mk s.toArray).size = s.length := rfl; have hxl : xs.length = n := by simpa using hG.1
  rcases hG with ⟨hl, ⟨rfl, rfl, rfl, rfl⟩ | ⟨g, cur, rfl, rfl, q1, q2, q3, q4⟩⟩
  · -- onto nil
    obtain ⟨v', w', hrun, hown, h3, _⟩ := Lib.run_append_own_string (P := P) w w.heap.size t u ty e i el.tu el.ts hi hz hsz hb (.slice none 0 0) 0 xs ⟨hl, .inl ⟨rfl, rfl⟩⟩ ⟨s.toArray⟩ hn hby (Nat.le_refl _); rw [hsize, yQ] at hown; obtain ⟨hl', ⟨rfl, h0⟩ | ⟨g', cap', cur', rfl, hge, hg', hle, hcm, hcs, htk⟩⟩ := hown
    · refine ⟨none, 0, [], w', ?_, ⟨hl', .inl ⟨rfl, h0, rfl, rfl⟩⟩, hw.quiet ⟨h3.os, h3.tape, h3.output, h3.size, fun k hk _ => h3.block k hk (by simp [Value.ownBlock]), iJ _ _ _ _ hrun⟩⟩
      rw [h0]; exact hrun
    exact ⟨some ⟨g', 0, none⟩, cap', [(g', .cells cur' e (0, 0))], w', hrun, ⟨hl', .inr ⟨g', cur', rfl, rfl, hle, hcm, hcs, htk⟩⟩, mz3 (by simpa using hw) h3.os h3.tape h3.output h3.size (iJ _ _ _ _ hrun) hge hg' fun k hk _ => h3.block k hk (by simp [Value.ownBlock])⟩
  have hw' : WI b w ((g, .cells cur e (0, 0)) :: hp) L := by simpa using hw
  have hgw : w.heap[g]? = some (.cells cur e (0, 0)) := hw'.own (g, .cells cur e (0, 0)) (by simp); obtain ⟨v', w', hrun, hown, h3, _⟩ := Lib.run_append_own_string (P := P) w 0 t u ty e i el.tu el.ts hi hz hsz hb (.slice (d9 g) n cap) n xs ⟨hl, .inr ⟨g, cap, cur, rfl, Nat.zero_le _, hgw, q1, q2, q3, q4⟩⟩ ⟨s.toArray⟩ hn hby (Nat.zero_le _); rw [hsize, yQ] at hown
  by_cases hr : n + s.length ≤ cap
  · have hx := hrun.symm.trans (Lib.run_append_room_string (P := P) w t u ty e i el.tu el.ts hi hsz g n cap cur hgw ⟨s.toArray⟩ hr (by rw [hsize, q3]; omega))
    obtain ⟨rfl, rfl⟩ : v' = _ ∧ w' = _ := by injection hx with e1 e2; exact ⟨e1, e2⟩
    obtain ⟨hl', ⟨h0, _⟩ | ⟨g', cap', cur', e1, _, hg', hle, hcm, hcs, htk⟩⟩ := hown
    · cases h0
    have e2 : g = g' := by injection e1 with e1; injection e1 with e1; injection e1
    have e3 : cap = cap' := by injection e1
    subst e2; subst e3; exact ⟨some ⟨g, 0, none⟩, cap, [(g, .cells cur' e (0, 0))], _, hrun, ⟨hl', .inr ⟨g, cur', rfl, rfl, hle, hcm, hcs, htk⟩⟩, hw'.write (o' := .cells cur' e (0, 0)) ⟨h3.os, h3.tape, h3.output, h3.size, fun k hk hn => h3.block k hk (by simp [Value.ownBlock]; simpa using hn), iJ _ _ _ _ hrun⟩ hg'⟩
  have holds : ∀ j v, xs[j]? = some v → w.cell? ((⟨g, 0, none⟩ : Addr).add j) = some v := by
    have ho : w.ownsRow 0 e 1 (.slice (d9 g) n cap) n xs := ⟨hl, .inr ⟨g, cap, cur, rfl, Nat.zero_le _, hgw, q1, q2, q3, q4⟩⟩; exact ho.cells (g := g) rfl
  have hm : maxLen ≤ 9223372036854775807 := by unfold maxLen; omega
  have hx := hrun.symm.trans (Lib.run_append_grow_string (P := P) w t u ty e i (.int .u8 0) el.tu el.ts hi hz ⟨g, 0, none⟩ n cap xs (by rw [hsz]; simpa using hxl) holds ⟨s.toArray⟩ (by rw [hsize]; omega) (by rw [hsize]; omega) (by rw [hb, hsize]; exact growslice_fits (by omega) (by omega))); have e0 : v' = .slice (some ⟨w.heap.size, 0, none⟩) (n + s.length) (grownCap w (n + s.length) cap e) := by injection hx
  obtain ⟨hl', ⟨h0, _⟩ | ⟨g', cap', cur', e1, _, hg', hle, hcm, hcs, htk⟩⟩ := hown
  · rw [h0] at e0; cases e0
  have e2 : g' = w.heap.size := by
    have e3 := e1.symm.trans e0
    injection e3 with e3
    injection e3 with e3
    injection e3
  subst e1; refine ⟨some ⟨g', 0, none⟩, cap', [(g', .cells cur' e (0, 0))], w', hrun, ⟨hl', .inr ⟨g', cur', rfl, rfl, hle, hcm, hcs, htk⟩⟩, mz3 (hw'.weak (List.sublist_cons_self _ _) fun _ h => h) h3.os h3.tape h3.output h3.size (iJ _ _ _ _ hrun) (by omega) hg' fun k hk hor => h3.block k hk ?_⟩; simp only [Value.ownBlock, ne_eq, Option.some.injEq]; rintro rfl
  rcases hor with ⟨p, hp, e⟩ | ⟨F, hF, hk⟩ | ⟨hk1, hk2⟩
  · have := hw'.nd
    simp only [List.map_cons, List.nodup_cons] at this; exact this.1 (List.mem_map.2 ⟨p, hp, e⟩)
  · exact hw'.ap F hF (k, .cells cur e (0, 0)) (by simp) hk
  rcases hw'.s0 (k, .cells cur e (0, 0)) (by simp) with h6 | h6
  · exact hk2 h6
  simp only at h6; omega
end
section
variable {c : Cx} {Q : Exit → Act → World → Prop} {fr : Fr} {hp : Hp} {L : List Fact} {ops : Array Oper} {rest : List Oper}
variable {d : Tmp} {ty : TypeId} {pos : String} {af : Array Edge}
theorem hq3 {t u e : TypeId} {x y : Operand} {n cap : Nat} {A : Option Addr} {xs : List Value} {s : Str} {og hp' : Hp} (n' : Nat) (xs' : List Value) (el : ElS c.P t u e) (hd : Nat.blt d c.n = true)
    (hx : ev fr x = some (.slice A n cap)) (hy : ev fr y = some (str s)) (hG : Grow e 1 A n cap xs og) (hpp : hp.Perm (og ++ hp')) (hn' : n + s.length = n') (hxs : xs ++ byteV s = xs') (hn : n' ≤ 140737488355328)
    (k : ∀ A' cap' og', Grow e 1 A' n' cap' xs' og' → HL c ops Q rest ((d, .slice A' n' cap') :: fr) (og' ++ hp') L) :
    HL c ops Q (⟨some d, .call ⟨.builtin .append, #[x, y], #[t, u]⟩, ty, pos, af, none⟩ :: rest) fr hp L :=
  wW rfl rfl hd fun a w ha hw => by
    subst hn'; subst hxs; obtain ⟨A', cap', og', w', hrun, hG', hw'⟩ := cq7 el hG (hw.perm hpp) s (by unfold maxLen; omega) hn ty; refine ⟨_, w', _, L, ?_, hw', k A' cap' og' hG'⟩; simp only [execOp, resolve, invoke, builtin, Sem.run_bind, Sem.run_pure, Result.andThen_ok, List.map_toArray, List.map_cons, List.map_nil, ha.ev hx, ha.ev hy, hrun]
theorem jz5 {s t te e : TypeId} {x : Operand} {g : Nat} {cs : Array Value} {fz : Nat × Nat} (hd : Nat.blt d c.n = true) (hs : c.P.underlying s = some (.pointer te)) (ht : c.P.underlying t = some .unsafePointer) (hi : (c.P.info? te).map (·.size) = some cs.size) (h0 : 0 < cs.size)
    (hx : ev fr x = some (.pointer (d9 g))) (hm : (g, Obj.cells cs e fz) ∈ hp) (k : HL c ops Q rest ((d, .pointer (d9 g)) :: fr) hp L) : HL c ops Q (⟨some d, .convert s t x, ty, pos, af, none⟩ :: rest) fr hp L :=
  E0 _ rfl rfl hd (fun a w ha hw => by
    obtain ⟨j, hj, hjs⟩ := Option.map_eq_some_iff.1 hi; have hg : w.heap[g]? = some (.cells cs e fz) := hw.own _ hm; have hrun := Lib.run_to_unsafe w ⟨g, 0, none⟩ hs ht hj (by omega) (e := e) (cells := cs.size) (by simp [World.shape?, hg]) h0
    simp only [execOp, ha.ev hx, Sem.run_bind, hrun, Result.andThen_ok, Sem.run_pure]) k
theorem hq2 {s t te e : TypeId} {x : Operand} {g : Nat} {cs : Array Value} {fz : Nat × Nat} (hd : Nat.blt d c.n = true) (hs : c.P.underlying s = some .unsafePointer) (ht : c.P.underlying t = some (.pointer te)) (hi : (c.P.info? te).map (·.size) = some cs.size) (hl : liesAt c.P c.P.depth e (cs.size / c.P.cellsOf e) 0 te 1 = true)
    (hx : ev fr x = some (.pointer (d9 g))) (hm : (g, Obj.cells cs e fz) ∈ hp) (k : HL c ops Q rest ((d, .pointer (d9 g)) :: fr) hp L) : HL c ops Q (⟨some d, .convert s t x, ty, pos, af, none⟩ :: rest) fr hp L :=
  E0 _ rfl rfl hd (fun a w ha hw => by
    obtain ⟨j, hj, hjs⟩ := Option.map_eq_some_iff.1 hi; have hg : w.heap[g]? = some (.cells cs e fz) := hw.own _ hm; have hrun := Lib.run_from_unsafe w ⟨g, 0, none⟩ hs ht hj (e := e) (cells := cs.size) (by simp [World.shape?, hg]) hl
    simp only [execOp, ha.ev hx, Sem.run_bind, hrun, Result.andThen_ok, Sem.run_pure]) k
theorem ix8 {t te yt : TypeId} {x y : Operand} {p : Addr} (hd : Nat.blt d c.n = true) (ht : c.P.underlying t = some (.pointer te)) (hi : (c.P.info? te).isSome = true) (hx : ev fr x = some (.pointer (some p))) (hy : ev fr y = some (.pointer (some p)))
    (k : HL c ops Q rest ((d, .bool false) :: fr) hp L) : HL c ops Q (⟨some d, .binOp .neq t x y yt, ty, pos, af, none⟩ :: rest) fr hp L :=
  E0 _ rfl rfl hd (fun a' w ha _ => by
    obtain ⟨j, hj⟩ := Option.isSome_iff_exists.1 hi
    exact U6 (ha.ev hx) (ha.ev hy) rfl (Lib.run_neq_ptr_same w p ht hj)) k
theorem kq4 {P : Program} {w : World} {tp te : TypeId} {p : Option Addr} (hp : P.underlying tp = some (.pointer te)) : (binOp .eql tp (.pointer p) (.pointer none)).run P w = .ok (.bool (p == none)) w := by
  have h : ∀ d : Nat, (Op.equalIn (d + 1) tp (.pointer p) (.pointer none)).run P w = .ok (p == none) w := fun d => by
    cases p <;> simp [Op.equalIn, run_underlying hp]
  simp only [binOp]
  simp [Op.equal, Op.maxDepth, h 9999]
theorem gq5 {t te yt : TypeId} {x y : Operand} {p : Option Addr} (hd : Nat.blt d c.n = true) (ht : c.P.underlying t = some (.pointer te)) (hx : ev fr x = some (.pointer p)) (hy : ev fr y = some (.pointer none))
    (k : HL c ops Q rest ((d, .bool (p == none)) :: fr) hp L) : HL c ops Q (⟨some d, .binOp .eql t x y yt, ty, pos, af, none⟩ :: rest) fr hp L :=
  E0 _ rfl rfl hd (fun a' w ha _ => U6 (ha.ev hx) (ha.ev hy) rfl (kq4 ht)) k
theorem ix6 {t pt : TypeId} {x : Operand} {A : Addr} {n cap : Nat} (hd : Nat.blt d c.n = true) (hx : ev fr x = some (.slice (some A) n cap)) (hc : cap ≠ 0) (k : HL c ops Q rest ((d, .pointer (some A)) :: fr) hp L) :
    HL c ops Q (⟨some d, .call ⟨.builtin .unsafeSliceData, #[x], #[t]⟩, ty, pos, af, none⟩ :: rest) fr hp L :=
  E0 _ rfl rfl hd (fun a w ha hw => by
    simp only [execOp, resolve, invoke, builtin, Sem.run_bind, Sem.run_pure, Result.andThen_ok, List.map_toArray, List.map_cons, List.map_nil, ha.ev hx, Lib.run_unsafeSliceData_row _ _ _ _ _ _ hc]) k
theorem cz7 {pt it e : TypeId} {x y : Operand} {g cap : Nat} {s : Str} {og hp' : Hp} (hd : Nat.blt d c.n = true) (hp0 : c.P.underlying pt = some (.pointer e)) (hc : c.P.cellsOf e = 1) (h0 : s ≠ [])
    (hx : ev fr x = some (.pointer (d9 g))) (hy : ev fr y = some (int s.length)) (hG : Grow e 1 (d9 g) s.length cap (byteV s) og) (hpp : hp.Perm (og ++ hp'))
    (k : HL c ops Q rest ((d, str s) :: fr) hp' L) : HL c ops Q (⟨some d, .call ⟨.builtin .unsafeString, #[x, y], #[pt, it]⟩, ty, pos, af, none⟩ :: rest) fr hp L :=
  wW rfl rfl hd fun a w ha hw => by
    have hw1 := hw.perm hpp
    rcases hG with ⟨hl, ⟨h, _⟩ | ⟨g', cur, e1, rfl, q1, q2, q3, q4⟩⟩
    · cases h
    obtain rfl : g = g' := by injection e1 with e1; injection e1
    have hw2 : WI c.b w ((g, .cells cur e (0, 0)) :: hp') L := by simpa using hw1
    have hg : w.heap[g]? = some (.cells cur e (0, 0)) := hw2.own (g, .cells cur e (0, 0)) (by simp); have ho : w.ownsRow 0 e 1 (.slice (d9 g) s.length cap) s.length (byteV s) := ⟨hl, .inr ⟨g, cap, cur, rfl, Nat.zero_le _, hg, q1, q2, q3, q4⟩⟩; have hm : maxLen ≤ 9223372036854775807 := by unfold maxLen; omega
    have hrun := Lib.run_unsafeString_row (P := c.P) w pt it ty e hp0 hc g cur.size (by simp [World.shape?, hg]) s h0 (by omega) (by omega) (fun j x hx => ho.cells (g := g) rfl j (.int .u8 x.toNat) (by simp [byteV, hx])); refine ⟨str s, w.freeze ⟨g, 0, none⟩ s.length, hp', L, ?_, ?_, k⟩
    · simp only [execOp, resolve, invoke, builtin, Sem.run_bind, Sem.run_pure, Result.andThen_ok, List.map_toArray, List.map_cons, List.map_nil, ha.ev hx, ha.ev hy]
      exact congrArg (fun r => Result.andThen r _) hrun
    have hl0 : s.length ≠ 0 := by simpa using h0
    have hget : ∀ k, (w.freeze ⟨g, 0, none⟩ s.length).heap[k]? = if g = k then some (.cells cur e (0, s.length)) else w.heap[k]? := fun k => by
      unfold World.freeze; rw [if_neg hl0]; simp only [Array.getElem?_modify]
      split
      · rename_i e1
        subst e1
        simp [hg]
      rfl
    have hsame : (w.freeze ⟨g, 0, none⟩ s.length).os = w.os ∧ (w.freeze ⟨g, 0, none⟩ s.length).tape = w.tape ∧ (w.freeze ⟨g, 0, none⟩ s.length).output = w.output ∧ w.heap.size ≤ (w.freeze ⟨g, 0, none⟩ s.length).heap.size ∧ w.drawn ≤ (w.freeze ⟨g, 0, none⟩ s.length).drawn := by
      unfold World.freeze; rw [if_neg hl0]; exact ⟨rfl, rfl, rfl, by simp, Nat.le_refl _⟩
    exact (hw2.write (o' := .cells cur e (0, s.length)) ⟨hsame.1, hsame.2.1, hsame.2.2.1, hsame.2.2.2.1, fun k hk hn => by rw [hget, if_neg (fun e => hn (by simp [e]))], hsame.2.2.2.2⟩ (by rw [hget, if_pos rfl])).weak (List.sublist_cons_self _ _) fun _ h => h
end
end Go.W
end
section
namespace Go.Proofs.YtdgmfagfpbdbhaaGreatDoor
open Go Go.W Tryz T F
set_option maxRecDepth 20000
attribute [local irreducible] HL HC HQ HB Row Rows2 Blk Facts
theorem el_str : ElS prog qU H2 mz5 := ElS.of underlying80 q8 w7
abbrev bldO (g : Nat) (P : Option Addr) (A : Option Addr) (n cap : Nat) : Nat × Obj := (g, Obj.cells #[.pointer P, .slice A n cap] wJ (0, 0))
theorem hq8 (v : Value) (w : World) : (callFunc 114 [v].toArray).run prog w = .ok (.value v) w := by
  show (callFunc 114 #[v]).run prog w = _; rw [run_callFunc_extern func114 w7 w7 w7 (e := Extern.AbiNoEscape.same) w7]
  rfl
theorem bx4 (g : Nat) (A : Option Addr) (n cap : Nat) : Meets prog I4 [.pointer (d9 g)] { hpI := [bldO g none A n cap], hpO := fun _ => [bldO g (d9 g) A n cap], val := fun _ : Unit => .tuple #[] } := by
 refine j3 V5 rfl v8 fun w0 => ?_; refine i4 (b6 rfl (r8 rfl rfl ?_)); refine a6 ⟨g, 0, none⟩ rfl rfl P1 rfl (a7 (v := .pointer none) rfl S3 rfl (i2 m0 rfl) (gq5 rfl underlying127 rfl rfl (c8 (c_t rfl px7 ?_)))); refine c9 (b6 rfl (b6 rfl ?_)); refine jz5 (cs := #[.pointer none, .slice A n cap]) rfl underlying127 underlying173 w7 (show 0 < 2 by decide) rfl m0 (vD rfl rfl (hq8 _) (hq2 (cs := #[.pointer none, .slice A n cap]) rfl underlying173 underlying127 w7 w7 rfl m0 (r8 rfl rfl (a6 ⟨g, 0, none⟩ rfl rfl P1 rfl (C8 rfl rfl (.refl _) pP (by rfl) (by rfl) (b5 ?_)))))); exact ret0n () rfl rfl rfl tK (.refl _) tK
theorem bx3 (g : Nat) (A : Option Addr) (n cap : Nat) : Meets prog I4 [.pointer (d9 g)] { hpI := [bldO g (d9 g) A n cap], hpO := fun _ => [bldO g (d9 g) A n cap], val := fun _ : Unit => .tuple #[] } := by
 refine j3 V5 rfl v8 fun w0 => ?_; refine i4 (b6 rfl (r8 rfl rfl ?_)); refine a6 ⟨g, 0, none⟩ rfl rfl P1 rfl (a7 (v := .pointer (d9 g)) rfl S3 rfl (i2 m0 rfl) (gq5 rfl underlying127 rfl rfl (c8 (c_f rfl bf_x ?_)))); refine i4 (b6 rfl (r8 rfl rfl ?_)); refine a6 ⟨g, 0, none⟩ rfl rfl P1 rfl (a7 (v := .pointer (d9 g)) rfl S3 rfl (i2 m0 rfl) (b6 rfl (ix8 rfl underlying127 w7 rfl rfl (c8 (c_f rfl bf_x (i8 ?_)))))); exact ret0n () rfl rfl rfl tK (.refl _) tK
theorem cq6 (g : Nat) (P A : Option Addr) (n cap : Nat) (h : P = none ∨ P = some ⟨g, 0, none⟩) : Meets prog I4 [.pointer (d9 g)] { hpI := [bldO g P A n cap], hpO := fun _ => [bldO g (d9 g) A n cap], val := fun _ : Unit => .tuple #[] } := by
  rcases h with rfl | rfl
  · exact bx4 g A n cap
  exact bx3 g A n cap
structure Bld (g : Nat) (s : Str) (P A : Option Addr) (cap : Nat) (og : Hp) : Prop where
  p : P = none ∨ P = some ⟨g, 0, none⟩
  g : Grow mz5 1 A s.length cap (byteV s) og
theorem Bld.new (g : Nat) : Bld g [] none none 0 [] := ⟨.inl rfl, Grow.nil _ _⟩
abbrev BSt := Option Addr × Nat × Hp
abbrev bldH (g : Nat) (s : Str) (P : Option Addr) (x : BSt) : Hp := bldO g P x.1 s.length x.2.1 :: x.2.2
theorem H9 (g : Nat) (s t : Str) (P : Option Addr) (x : BSt) (hb : Bld g s P x.1 x.2.1 x.2.2) (hl : s.length + t.length ≤ 140737488355328) : Meets prog N9 [.pointer (d9 g), str t] { hpI := bldH g s P x, inv := fun y : BSt => Bld g (s ++ t) (d9 g) y.1 y.2.1 y.2.2, hpO := fun y => bldH g (s ++ t) (d9 g) y, val := fun _ => .tuple #[int t.length, .nilIface] } := by
 obtain ⟨A, cap, og⟩ := x; obtain ⟨hP, hG⟩ := hb; simp only at hG; refine j3 gN rfl v8 fun w0 => ?_; refine i4 (c5 rfl (c5 rfl (t6 (b6 rfl ?_)))); refine j4 hU rfl rfl (cq6 g P A s.length cap hP) t4 tK fun _ _ => ?_; refine t6 (b6 rfl (b6 rfl (r8 rfl rfl ?_))); refine a6 ⟨g, 1, none⟩ rfl rfl P0 rfl (a7 (v := .slice A s.length cap) rfl jQ rfl (i2 m0 rfl) (b6 rfl ?_)); refine hq3 (hp' := [bldO g (d9 g) A s.length cap]) (s ++ t).length (byteV (s ++ t)) el_str rfl rfl rfl hG (List.perm_append_comm (l₁ := [_])) List.length_append.symm (ij4 _ _).symm (by rw [List.length_append]; exact hl) fun A2 c2 o2 hG2 => ?_; refine r8 rfl rfl (a6 ⟨g, 1, none⟩ rfl rfl P0 rfl (C8 (hp' := o2) rfl rfl (List.perm_append_comm (l₂ := [_])) dz0 (by rfl) (by rfl) ?_)); refine t6 (b6 rfl ?_); refine G5 rfl q8 rfl ?_; refine c5 rfl (c5 rfl (c8 (l4 ?_))); exact ret2 (A2, c2, o2) rfl rfl rfl rfl rfl ⟨.inr rfl, hG2⟩ (.refl _) tK
theorem ij8 (g : Nat) (s : Str) (P : Option Addr) (x : BSt) (hb : Bld g s P x.1 x.2.1 x.2.2) (h0 : s ≠ []) : Meets prog S6 [.pointer (d9 g)] { hpI := bldH g s P x, val := fun _ : Unit => str s } := by
 obtain ⟨A, cap, og⟩ := x; obtain ⟨hP, hG⟩ := hb; simp only at hG; have hle := hG.le; have hs0 : s.length ≠ 0 := by simpa using h0
 obtain ⟨gb, rfl⟩ : ∃ gb : Nat, A = some ⟨gb, 0, none⟩ := by
   rcases hG.2 with ⟨_, h, _⟩ | ⟨gb, _, h, _⟩
   · exact absurd h hs0
   exact ⟨gb, h⟩
 refine j3 kY rfl v8 fun w0 => ?_; refine i4 (c5 rfl (c8 (d6 (C3 ?_)))); refine C0 10 mixed (by decide) (by decide) rfl rfl (r7 rfl (k8 (fun w1 => r8 rfl rfl (q_z rfl)) (k8 (fun w1 => a6 ⟨g, 1, none⟩ rfl rfl P0 rfl (q_z rfl)) (k8 (fun w1 => a7 (v := .slice (d9 gb) s.length cap) rfl jQ rfl (d8 (List.mem_append_right _ List.mem_cons_self) rfl) (q_z rfl)) (k8 (fun w1 => ix6 (pt := jx7) rfl rfl (by omega) (q_z rfl)) (r7 rfl (k8 (fun w1 => r8 rfl rfl (q_z rfl)) (k8 (fun w1 => a6 ⟨g, 1, none⟩ rfl rfl P0 rfl (q_z rfl)) (k8 (fun w1 => a7 (v := .slice (d9 gb) s.length cap) rfl jQ rfl (d8 (List.mem_append_right _ List.mem_cons_self) rfl) (q_z rfl)) (k8 (fun w1 => k6 rfl kO rfl (q_z rfl)) ?_)))))))))); refine v7 ⟨rfl, ?_⟩; refine cz7 (hp' := []) rfl underlying166 w7 h0 rfl rfl hG (by show List.Perm ([] ++ og) (og ++ []); rw [List.append_nil, List.nil_append]) ?_; refine c5 rfl (c8 (l4 ?_)); exact ret1 () rfl rfl rfl tK nK tK
end Go.Proofs.YtdgmfagfpbdbhaaGreatDoor
end
