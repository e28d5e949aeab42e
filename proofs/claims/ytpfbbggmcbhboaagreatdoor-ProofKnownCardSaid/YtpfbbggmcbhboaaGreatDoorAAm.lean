/- Texts. -/

import Derived.Test.YtpfbbggmcbhboaaGreatDoorAAl
import Derived.Test.YtpfbbggmcbhboaaGreatDoorAAk
import Derived.Test.YtpfbbggmcbhboaaGreatDoorAAi
import Derived.Test.YtpfbbggmcbhboaaGreatDoorAAe
set_option linter.unusedVariables false
set_option linter.unusedSimpArgs false
section
namespace Go.W
open Go Go.Conc Go.RowKit
section
variable {p : Dh} {Goal : Goroutine → World → Prop} {c : Cx} {b : Frame} {cs : List Frame} {n : Nat} {k : List Item} {fr : Fr} {hp ro : Hq} {ops : Array Oper} {ix : Nat} {rest : List Nat}
variable {d : Tmp} {ty : TypeId} {pos : String} {af : Array Edge}
def chv (a : Bool) (ch : Nat) : Value := .chan (if a = true then none else some ch)
theorem kq1 (a : Bool) (ch : Nat) (z : Value) : ({ chan := chv a ch, send := none, zero := z } : CommCase) = selc a ch z := by cases a <;> rfl
theorem qj4 {x y : Operand} {e : TypeId} {ch0 ch1 i j : Nat} {a0 b0 : Bool} (ho : ops[ix]? = some ⟨some d, .select #[⟨x, none, e⟩, ⟨y, none, e⟩] true, ty, pos, af, none⟩) (hk : b.kind ≠ .early) (hd : Nat.blt d c.n = true)
    (hx : ev fr x = some (chv a0 ch0)) (hy : ev fr y = some (chv b0 ch1)) (hz : ∀ w, (zeroValue e).run p.P w = .ok p.z w)
    (k0 : a0 = false → i < p.n 0 → TC (.folM p Goal (.ga ch0 ch1 (i + 1) j a0 b0) ro) c b cs n (.inRegion ops rest :: k) ((d, .tuple #[int (0 : Nat), .bool true, p.v 0 i, p.z]) :: fr) hp)
    (k1 : b0 = false → j < p.n 1 → TC (.folM p Goal (.ga ch0 ch1 i (j + 1) a0 b0) ro) c b cs n (.inRegion ops rest :: k) ((d, .tuple #[int (1 : Nat), .bool true, p.z, p.v 1 j]) :: fr) hp)
    (e0 : a0 = false → i = p.n 0 → b0 = false → TC (.folM p Goal (.ga ch0 ch1 i j true b0) ro) c b cs n (.inRegion ops rest :: k) ((d, .tuple #[int (0 : Nat), .bool false, p.z, p.z]) :: fr) hp)
    (e1 : b0 = false → j = p.n 1 → a0 = false → TC (.folM p Goal (.ga ch0 ch1 i j a0 true) ro) c b cs n (.inRegion ops rest :: k) ((d, .tuple #[int (1 : Nat), .bool false, p.z, p.z]) :: fr) hp)
    (f0 : a0 = false → i = p.n 0 → b0 = true → j = p.n 1 → ∀ w, Sur p w → Held hp w → Held ro w → ∀ a, Ok c a ((d, .tuple #[int (0 : Nat), .bool false, p.z, p.z]) :: fr) → Co p.P (G (b.at a (.inRegion ops rest :: k)) cs) w Goal)
    (f1 : b0 = false → j = p.n 1 → a0 = true → i = p.n 0 → ∀ w, Sur p w → Held hp w → Held ro w → ∀ a, Ok c a ((d, .tuple #[int (1 : Nat), .bool false, p.z, p.z]) :: fr) → Co p.P (G (b.at a (.inRegion ops rest :: k)) cs) w Goal) :
    TC (.folM p Goal (.ga ch0 ch1 i j a0 b0) ro) c b cs (n + 1) (.inRegion ops (ix :: rest) :: k) fr hp := fun a ha w he hh hr0 => by
  have hrun : ∀ w, (execOp a.eval (⟨some d, .select #[⟨x, none, e⟩, ⟨y, none, e⟩] true, ty, pos, af, none⟩ : Oper)).run p.P w = .ok (.comm #[selc a0 ch0 p.z, selc b0 ch1 p.z] true .select) w := fun w => by
    rw [← kq1, ← kq1]
    simp [execOp, ha.ev hx, ha.ev hy, hz]
  have hevn : (execOp a.eval (⟨some d, .select #[⟨x, none, e⟩, ⟨y, none, e⟩] true, ty, pos, af, none⟩ : Oper)).events p.P w #[] = #[] := by
    have dz : ∀ es, (zeroValue e).events p.P w es = es := fun es => V6 DC.out _ _
    simp [execOp, ha.ev hx, ha.ev hy, hz, dz]
  have fin : ∀ v, (b.at a (.inRegion ops (ix :: rest) :: k)).finish v = b.at (a.put (some d) v) (.inRegion ops rest :: k) := fun v => fin_at' ho v; have okp : ∀ v, Ok c (a.put (some d) v) ((d, v) :: fr) := fun v => ha.put (by simpa using hd) v; refine .inr ⟨?_, fun h1 h2 => ?_, fun h1 h2 => ?_, fun h1 h2 h3 => ?_, fun h1 h2 h3 => ?_, fun h1 h2 h3 h4 w' g1 g2 g3 => ?_, fun h1 h2 h3 h4 w' g1 g2 g3 => ?_⟩
  · rw [stepG_comm (cases := #[selc a0 ch0 p.z, selc b0 ch1 p.z]) (blocking := true) (shape := .select) (w' := w) ho rfl hk (hrun w)]
    have : listed p.P b.fn a (⟨some d, .select #[⟨x, none, e⟩, ⟨y, none, e⟩] true, ty, pos, af, none⟩ : Oper) w = #[] := by unfold listed; rw [hevn]; exact seen_none _ _
    rw [this]
  · rw [fin]; exact k0 h1 h2 _ (okp _)
  · rw [fin]; exact k1 h1 h2 _ (okp _)
  · rw [fin]; exact e0 h1 h2 h3 _ (okp _)
  · rw [fin]; exact e1 h1 h2 h3 _ (okp _)
  · rw [fin]; exact f0 h1 h2 h3 h4 w' g1 g2 g3 _ (okp _)
  rw [fin]; exact f1 h1 h2 h3 h4 w' g1 g2 g3 _ (okp _)
end
/-! ### Behind it all -/
theorem wi_out {p : Dh} {b : Bx} {w : World} {hp0 hp rest hp' : Hp} {L : List Fact} (h0 : WI b p.W hp0 L) (hpp : hp0.Perm (hp ++ rest)) (ho : p.o = hp.map (·.1)) (he : Sur p w) (hh : Held hp' w) (nd : (hp'.map (·.1)).Nodup) (hin : ∀ q ∈ hp', q.1 ∈ p.o ∨ p.W.heap.size ≤ q.1) : WI b w (hp' ++ rest) L := by
  have h := h0.perm hpp; have hmo : ∀ k, k ∈ p.o → ∃ q ∈ hp, q.1 = k := fun k hk => by rw [ho] at hk; exact List.mem_map.1 hk
  have hnd := h.nd; rw [List.map_append, List.nodup_append] at hnd; obtain ⟨n1, n2, n3⟩ := hnd
  have hr : ∀ q ∈ rest, q.1 ∉ p.o := fun q hq hm => by
    rw [ho] at hm; exact n3 _ hm _ (List.mem_map.2 ⟨q, hq, rfl⟩) rfl
  refine { ext := ⟨he.os.trans h.ext.os, he.tape.trans h.ext.tape, he.output.trans h.ext.output, Nat.le_trans h.ext.size he.size, fun k hk hn => ?_, h.ext.dr⟩, own := fun q hq => ?_, nd := ?_, s0 := fun q hq => ?_, fs := fun F hF => ?_, ap := fun F hF q hq => ?_, al := h.al }
  · refine (he.block k (Nat.lt_of_lt_of_le hk h.ext.size) fun hm => ?_).trans (h.ext.block k hk hn)
    obtain ⟨q, hq, rfl⟩ := hmo k hm
    rcases h.s0 q (by simp [hq]) with h1 | h1
    · exact hn h1
    omega
  · rcases List.mem_append.1 hq with hq | hq
    · exact hh q hq
    have h1 := h.own q (by simp [hq]); exact (he.block q.1 (E1 h1) (hr q hq)).trans h1
  · rw [List.map_append, List.nodup_append]
    refine ⟨nd, n2, fun a ha c hc e => ?_⟩; obtain ⟨q, hq, rfl⟩ := List.mem_map.1 ha; obtain ⟨r, hr', rfl⟩ := List.mem_map.1 hc
    rcases hin q hq with h1 | h1
    · exact hr r hr' (e ▸ h1)
    have := E1 (h.own r (by simp [hr']))
    omega
  · rcases List.mem_append.1 hq with hq | hq
    · rcases hin q hq with h1 | h1
      · obtain ⟨q', hq', e⟩ := hmo _ h1
        rw [← e]; exact h.s0 q' (by simp [hq'])
      exact .inr (Nat.le_trans h.ext.size h1)
    exact h.s0 q (by simp [hq])
  · refine F.st p.W w (fun k hk => he.block k (F.lt _ (h.fs F hF) k hk) fun hm => ?_) (h.fs F hF)
    obtain ⟨q, hq, rfl⟩ := hmo k hm; exact h.ap F hF q (by simp [hq]) hk
  rcases List.mem_append.1 hq with hq | hq
  · rcases hin q hq with h1 | h1
    · obtain ⟨q', hq', e⟩ := hmo _ h1
      rw [← e]; exact h.ap F hF q' (by simp [hq'])
    intro hf; have := F.lt _ (h.fs F hF) _ hf
    omega
  exact h.ap F hF q (by simp [hq])
def ContsN (P : Program) (b : Frame) (k : List Item) (cs : List Frame) (Goal : Goroutine → World → Prop) : Exit → Act → World → Prop
  | .normal, a, w => Co P (G (b.at a k) cs) w Goal
  | .exit id, a, w => ∀ k₁, exitTo id k₁ = exitTo id k → Co P (G (b.at a (.code (.exit id) :: k₁)) cs) w Goal
  | .goto l, a, w => ∀ k₁, gotoIn l k₁ = gotoIn l k → Co P (G (b.at a (.code (.goto l) :: k₁)) cs) w Goal
  | .ret, a, w => ∀ k₁, Co P (G (b.at a (.code .ret :: k₁)) cs) w Goal
  | .panic ch, a, w => ∀ k₁, Co P (G ((b.at a k₁).raise ch) cs) w Goal
  | .outgrown, _, _ => True
theorem jx3 {P : Program} {b : Frame} {k : List Item} {cs : List Frame} {Goal : Goroutine → World → Prop} {e : Exit} {a : Act} {w : World} (hro : b.roundOf = none) : ContsN P b k cs Goal e a w ↔ Conts P b k cs Goal e a w := by
  cases e <;> simp only [ContsN, Conts, Frame.atR_of_none hro]
theorem hc_co {c : Cx} {x : Code} {Q : Exit → Act → World → Prop} {fr : Fr} {hp : Hp} {L : List Fact}
    (h : ∀ a w, Ok c a fr → WI c.b w hp L → ∀ (b : Frame) (k : List Item) (cs : List Frame) (Goal : Goroutine → World → Prop), b.kind ≠ .early → b.roundOf = none → (∀ e a' w', Q e a' w' → ContsN c.P b k cs Goal e a' w') → Co c.P (G (b.at a (.code x :: k)) cs) w Goal) (hrd : c.rd = none := by rfl) : HC c x Q fr hp L := fun a w ha hw b k cs Goal hk ho hc => by
  have hro : b.roundOf = none := ho.1.trans hrd; rw [Frame.atR_of_none hro]; exact h a w ha hw b k cs Goal hk hro fun e a' w' hq => (jx3 hro).2 (hc e a' w' hq)
theorem lj9 {c : Cx} {x : Code} {Q : Exit → Act → World → Prop} {fr : Fr} {hp : Hp} {L : List Fact} (h : HC c x Q fr hp L) {a : Act} {w : World} (ha : Ok c a fr) (hw : WI c.b w hp L) {b : Frame} {k : List Item} {cs : List Frame} {Goal : Goroutine → World → Prop} (hk : b.kind ≠ .early) (hro : b.roundOf = none)
    (hc : ∀ e a' w', Q e a' w' → ContsN c.P b k cs Goal e a' w') (hrd : c.rd = none := by rfl) : Co c.P (G (b.at a (.code x :: k)) cs) w Goal := by
  rw [← Frame.atR_of_none hro]; exact h a w ha hw b k cs Goal hk ⟨hro.trans hrd.symm, .inl hrd⟩ fun e a' w' hq => (jx3 hro).1 (hc e a' w' hq)
theorem co_hl {c : Cx} {ops : Array Oper} {l : List Oper} {i : Nat} {Q : Exit → Act → World → Prop} {fr : Fr} {hp : Hp} {L : List Fact} (h : HL c ops Q l fr hp L) (hi : ops.toList.drop i = l) {a : Act} {w : World} (ha : Ok c a fr) (hw : WI c.b w hp L) {b : Frame} {k : List Item} {cs : List Frame} {Goal : Goroutine → World → Prop} (hk : b.kind ≠ .early) (hro : b.roundOf = none)
    (hc : ∀ e a' w', Q e a' w' → ContsN c.P b k cs Goal e a' w') : Co c.P (G (b.at a (.inRegion ops (List.range' i l.length) :: k)) cs) w Goal := by
  rw [← Frame.atR_of_none hro]; exact xF hk (.inl hro) (fun e a' w' hq => (jx3 hro).1 (hc e a' w' hq)) _ a w (jz6 l i a w hi (h a w ha hw))
theorem ij2 {c : Cx} {e : Exit} {Q : Exit → Act → World → Prop} {fr : Fr} {hp : Hp} {L : List Fact} (h : ∀ a w, Ok c a fr → WI c.b w hp L → Q e a w) : HQ c Q e fr hp L := h
theorem folM_of {p : Dh} {Goal : Goroutine → World → Prop} {ms : Ms} {ro : Hq} {c : Cx} {b : Frame} {cs : List Frame} {n : Nat} {ks : List Item} {fr : Fr} {hp : Hq} {a : Act} (h : TC (.folM p Goal ms ro) c b cs n ks fr hp) (ha : Ok c a fr) : FolM p Goal n ms ro (b.at a ks) cs hp := h a ha
section
variable {X : TX} {c : Cx} {b : Frame} {cs : List Frame} {n : Nat} {k : List Item} {fr : Fr} {hp hp' : Hq}
theorem wG {x : Code} (hs : ∀ q ∈ hp', q ∈ hp) (kk : TC X c b cs n (.code x :: .inLoop x :: k) fr hp') : TC X c b cs (n + 1) (.inLoop x :: k) fr hp := fun a ha =>
  X.lift _ _ _ _ fun w he hh hr0 => ⟨_, _, w, #[], hp', stepG_inLoop, by simp, nB hh hs, kk a ha⟩
end
theorem wi_row0 {b : Bx} {w : World} {hp : Hp} {L : List Fact} (hw : WI b w hp L) : WI b w hp (Row none [] :: L) := cH hw (Row.nil none w) (fun k hk => by obtain ⟨ad, e, _⟩ := hk; cases e)
theorem hl_row0 {c : Cx} {ops : Array Oper} {Q : Exit → Act → World → Prop} {rest : List Oper} {fr : Fr} {hp : Hp} {L : List Fact} (h : HL c ops Q rest fr hp (Row none [] :: L)) : HL c ops Q rest fr hp L := fun a w ha hw => h a w ha (wi_row0 hw)
end Go.W
end
section
namespace Go.W
open Go Go.RowKit
theorem madeR {α : Type} [El α] (a0 : α) {zc : Array Value} (hz : zc.toList = El.cells a0) (n : Nat) : madeCells zc (n * El.sz α) = (rows (List.replicate n a0)).toArray := by
  have hsz : zc.size = El.sz α := by rw [← El.len a0, ← hz, Array.length_toList]
  apply Array.ext
  · simp [madeCells, O9]
  intro i h1 h2; have hi : i < n * El.sz α := by simpa [madeCells] using h1
  have hs0 : 0 < El.sz α := Nat.pos_of_ne_zero fun h => by rw [h] at hi; omega
  have hq : i / El.sz α < n := Nat.div_lt_of_lt_mul (by rw [Nat.mul_comm]; exact hi); have hm : i % El.sz α < El.sz α := Nat.mod_lt _ hs0; have e : i = i / El.sz α * El.sz α + i % El.sz α := by rw [Nat.mul_comm]; exact (Nat.div_add_mod _ _).symm
  have h3 := rows_get' (List.replicate n a0) (i / El.sz α) (i % El.sz α) (by simpa using hq) hm; rw [← e] at h3; have h4 : (List.replicate n a0).getD (i / El.sz α) default = a0 := by simp [List.getD_eq_getElem?_getD, hq]
  rw [h4, ← hz] at h3; have h5 : i < (rows (List.replicate n a0)).length := by rw [O9, List.length_replicate]; exact hi
  rw [List.getElem?_eq_getElem h5, List.getElem?_eq_getElem (by rw [Array.length_toList, hsz]; exact hm)] at h3; have h6 := Option.some.inj h3; have h7 : (rows (List.replicate n a0)).toArray[i] = (rows (List.replicate n a0))[i] := by simp
  have hm' : i % zc.size < zc.size := by rw [hsz]; exact hm
  have h8 : (madeCells zc (n * El.sz α))[i] = zc[i % zc.size] := by
    simp only [madeCells, Array.getElem_map, Array.getElem_range]; exact getElem!_pos zc _ hm'
  rw [h7, h6, h8]
  simp [hsz]
end Go.W
end
section
namespace Go.Proofs.YtpfbbggmcbhboaaGreatDoor
open Go Go.W Go.Conc
set_option maxRecDepth 20000
attribute [local irreducible] HL HC HQ HB Row Rows2 Blk Facts
set_option maxRecDepth 20000
abbrev mkV (m : Mk) : Value := .agg #[int m.1, int m.2.1, str m.2.2]
def regionAt (id : Nat) : Code → Array Oper
  | .region i ops _ => if i = id then ops else #[]
  | .seq x y => regionAt id x ++ regionAt id y
  | .block _ x => regionAt id x
  | .loop x => regionAt id x
  | .cond _ x y => regionAt id x ++ regionAt id y
  | _ => #[]
def blockAt (id : Nat) : Code → Code
  | .block i x => if i = id then x else blockAt id x
  | .seq x y => match blockAt id x with
    | .skip => blockAt id y
    | c => c
  | .loop x => blockAt id x
  | .cond _ x y => match blockAt id x with
    | .skip => blockAt id y
    | c => c
  | _ => .skip
def unLoop : Code → Code
  | .loop x => x
  | _ => .skip
section
variable {W : World} {o : List Nat} {v : Nat → Nat → Value} {nn : Nat → Nat} {z : Value} {BW : Nat} {ro : Hq} {j ch gc gb cap : Nat} {A : Option Addr} {l : List Mk}
noncomputable def bodyS : Code := unLoop (blockAt 0 (Tryz.f76.body.getD .skip))
theorem sends {cs : List Frame} {b0 : Bx} {dd : Deferred} (hgc : (gc, Obj.cells #[.chan (some ch)] T.A8 (0, 0)) ∈ ro) (hrow : (Row A (rows l)).P W) (hA : ∀ ad, A = some ad → l ≠ [] → ad.block ∉ o)
    (hn : nn j = l.length) (hv : ∀ i, i < l.length → v j i = mkV (l.getD i default)) (hl : l.length ≤ 1000000) (n : Nat)
    (hend : ∀ hp, TC (.folS ⟨Tryz.prog, W, o, v, nn, z, BW⟩ j ch ro l.length) ⟨Tryz.prog, Tryz.f76.ntmps, b0, [dd], none⟩ (baseD 76) cs n [] [] hp) :
    ∀ (m i : Nat), i + m = l.length → TC (.folS ⟨Tryz.prog, W, o, v, nn, z, BW⟩ j ch ro i) ⟨Tryz.prog, Tryz.f76.ntmps, b0, [dd], none⟩ (baseD 76) cs (n + 10 + 40 * m) (.code bodyS :: .inLoop bodyS :: .inBlock 0 :: [])
      [(0, .pointer (k5 gc)), (7, int i), (6, int l.length), (5, .slice A l.length cap)] [] := by
  have hk' : (baseD 76).kind ≠ .early := fun h => by cases h
  intro m
  induction m with
  | zero =>
    intro i hi; obtain rfl : i = l.length := by omega
    refine G7 (m := n + 7) (by omega) ?_; refine v4 (p8 ?_); refine dj6 rfl rfl hk' rfl rfl ?_; refine w9 (v4 ?_); refine K8 false (by show some (Value.bool (decide ((l.length : Int) < (l.length : Int)))) = _; rw [decide_eq_false (by omega)]) ?_; refine cz1 [] rfl ?_; exact iL (fr' := []) tK (hend [])
  | succ m ih =>
    intro i hi; have hi' : i < l.length := by omega
    have hne : l ≠ [] := fun e => by rw [e] at hi'; simp at hi'
    obtain ⟨ad, rfl⟩ : ∃ ad, A = some ad := ⟨_, Row.some_ hrow (j := 0) (by rw [O9]; exact Nat.mul_pos (by omega) (by decide))⟩; rw [show n + 10 + 40 * (m + 1) = (n + 10 + 40 * m) + 40 by omega]; refine v4 (p8 ?_); refine dj6 rfl rfl hk' rfl rfl ?_; refine w9 (v4 ?_); refine K8 true (by show some (Value.bool (decide ((i : Int) < (l.length : Int)))) = _; rw [decide_eq_true (by omega)]) ?_; refine qI (v4 (Y3 (v4 (p8 ?_)))); refine ix0 i (ad.add (i * 3)) rfl rfl hk' Tryz.underlying32 T.c6 rfl rfl rfl hi' rfl ?_; refine sV (vs := [int (l.getD i default).1, int (l.getD i default).2.1, str (l.getD i default).2.2]) rfl rfl hk' T.j0 T.c6 rfl rfl (sx7 hrow (by simp) (hA ad rfl hne) fun j u hu => s6 (α := Mk) hi' j u hu) ?_; refine jS rfl rfl hk' T.r7 (fun _ _ => n5) fun g hg hng => ?_; refine nC (us := #[int (l.getD i default).1, int (l.getD i default).2.1, str (l.getD i default).2.2]) (hp' := []) rfl hk' rfl rfl l6 hng T.c6 rfl rfl ?_; refine w9 (p8 ?_); refine aB (v := .chan (some ch)) rfl rfl hk' T.K7 rfl (gq9 hgc rfl) ?_; refine sV (vs := [int (l.getD i default).1, int (l.getD i default).2.1, str (l.getD i default).2.2]) rfl rfl hk' T.j0 T.c6 rfl rfl (zU (vs := #[int (l.getD i default).1, int (l.getD i default).2.1, str (l.getD i default).2.2]) (List.mem_cons_self ..) fun j u hu => by rw [Nat.zero_add]; simpa using hu) ?_; refine at_send (q := i) rfl hk' rfl (by show i < nn j; omega) (by show _ = some (v j i); rw [hv i hi']; rfl) ?_; refine w9 (bK (p8 ?_)); refine lq9 ((i + 1 : Nat) : Int) rfl rfl hk' rfl rfl (by omega) r6 (B9 rfl rfl hk' rfl (w9 ?_)); refine wG (hp' := []) (by simp) ?_; exact G7 (m := n + 10 + 40 * m) (by omega) (iL mC (ih (i + 1) (by omega)))
theorem sj2 (hgc : (gc, Obj.cells #[.chan (some ch)] T.A8 (0, 0)) ∈ ro) (hgb : (gb, Obj.cells #[.slice A l.length cap] T.D1 (0, 0)) ∈ ro) (hrow : (Row A (rows l)).P W) (hA : ∀ ad, A = some ad → l ≠ [] → ad.block ∉ o)
    (hn : nn j = l.length) (hv : ∀ i, i < l.length → v j i = mkV (l.getD i default)) (hl : l.length ≤ 1000000) :
    FolS ⟨Tryz.prog, W, o, v, nn, z, BW⟩ j ch ro (40 * l.length + 60) 0 (born Tryz.prog ⟨.fn (.func 76) [Value.pointer (k5 gc), .pointer (k5 gb)].toArray, #[]⟩).frame [] [] := by
  have hk' : (baseD 76).kind ≠ .early := fun h => by cases h
  refine px0 (m := 40 * l.length + 59) (p := ⟨Tryz.prog, W, o, v, nn, z, BW⟩) F.lW rfl rfl ⟨W, [], fun _ => False⟩ q6 ?_; refine v4 (p8 ?_); refine aB (v := .chan (some ch)) rfl rfl hk' T.K7 rfl (gq9 hgc rfl) (qx5 rfl hk' rfl fun cst => ?_); refine w9 (v4 (p8 ?_)); refine aB (v := .slice A l.length cap) rfl rfl hk' T.i6 rfl (gq9 hgb rfl) (tr_len rfl rfl hk' Tryz.underlying32 rfl (B9 rfl rfl hk' rfl ?_)); refine w9 (Y3 (ix6 ?_)); refine G7 (m := 4 + 10 + 40 * l.length) (by omega) ?_; refine iL mC (sends (A := A) (cap := cap) hgc hrow hA hn hv hl 4 (fun hp => ?_) l.length 0 (by omega)); exact at_end F.lW rfl rfl hn.symm rfl rfl
end
end Go.Proofs.YtpfbbggmcbhboaaGreatDoor
end
section
namespace Go.W
open Go Go.RowKit
section
variable {κ : Type} [DecidableEq κ]
def updF (f : κ → Nat) (k : κ) (n : Nat) : κ → Nat := fun x => if x = k then n else f x
structure MapIs (l : List (Ment κ)) (clk : Nat) (f : κ → Nat) : Prop where
  bs : (l.map (·.2.2)).Pairwise (· < ·)
  lt : ∀ p ∈ l, p.2.2 < clk
  nd : (l.map (·.1)).Nodup
  vl : ∀ p ∈ l, p.2.1 = int (f p.1) ∧ 0 < f p.1
  al : ∀ k, 0 < f k → k ∈ l.map (·.1)
theorem MapIs.nil : MapIs ([] : List (Ment κ)) 0 (fun _ => 0) := ⟨.nil, by simp, by simp, by simp, fun k h => by omega⟩
theorem aq7 {l : List (Ment κ)} {k : κ} : getM l k = none ↔ k ∉ l.map (·.1) := by
  induction l with
  | nil => simp [getM, findM]
  | cons p l ih =>
    rw [aH]
    by_cases h : p.1 = k
    · rw [if_pos h]; simp [h]
    rw [if_neg h, ih, List.map_cons, List.mem_cons]; simp only [not_or]; exact ⟨fun e => ⟨fun e2 => h e2.symm, e⟩, fun e => e.2⟩
theorem MapIs.get {l : List (Ment κ)} {clk : Nat} {f : κ → Nat} (h : MapIs l clk f) (k : κ) : getM l k = if f k = 0 then none else some (int (f k)) := by
  split
  · rename_i e
    refine aq7.2 fun hm => ?_; obtain ⟨p, hp, rfl⟩ := List.mem_map.1 hm; have := (h.vl p hp).2
    omega
  rename_i e
  cases hg : getM l k with
  | none => exact absurd (h.al k (by omega)) (aq7.1 hg)
  | some v =>
    obtain ⟨p, hp, e1, e2⟩ := lj0 hg; rw [← e2, (h.vl p hp).1, e1]
theorem nP (p : Ment κ) (l : List (Ment κ)) (k : κ) (v : Value) (clk : Nat) : putM (p :: l) k v clk = if p.1 = k then (k, v, p.2.2) :: l else p :: putM l k v clk := by
  by_cases h : p.1 = k
  · simp [putM, findM, h]
  simp only [putM, findM, h, if_false]; rw [lA]
  cases hf : findM k l 0 with
  | none => simp
  | some q => simp
theorem gj3 {l : List (Ment κ)} {k : κ} : findM k l 0 = none ↔ k ∉ l.map (·.1) := by
  rw [← aq7]; unfold getM
  cases findM k l 0 <;> simp
theorem clkM_eq (l : List (Ment κ)) (k : κ) (clk : Nat) : clkM l k clk = if k ∈ l.map (·.1) then clk else clk + 1 := by
  unfold clkM
  cases hf : findM k l 0 with
  | none => rw [if_neg (gj3.1 hf)]; rfl
  | some q =>
    have h1 : k ∈ l.map (·.1) := Classical.byContradiction fun h => by rw [gj3.2 h] at hf; cases hf
    rw [if_pos h1]
    rfl
theorem hz9 (l : List (Ment κ)) (k : κ) (v : Value) (clk : Nat) : (putM l k v clk).map (·.1) = if k ∈ l.map (·.1) then l.map (·.1) else l.map (·.1) ++ [k] := by
  induction l with
  | nil => simp [putM, findM]
  | cons p l ih =>
    rw [nP]
    by_cases h : p.1 = k
    · rw [if_pos h, if_pos (by simp [h])]
      simp [h]
    rw [if_neg h, List.map_cons, ih, List.map_cons]
    by_cases h2 : k ∈ l.map (·.1)
    · rw [if_pos h2, if_pos (List.mem_cons_of_mem _ h2)]
    rw [if_neg h2, if_neg (by rw [List.mem_cons, not_or]; exact ⟨fun e => h e.symm, h2⟩)]
    rfl
theorem dx0 (l : List (Ment κ)) (k : κ) (v : Value) (clk : Nat) : (putM l k v clk).map (·.2.2) = if k ∈ l.map (·.1) then l.map (·.2.2) else l.map (·.2.2) ++ [clk] := by
  induction l with
  | nil => simp [putM, findM]
  | cons p l ih =>
    rw [nP]
    by_cases h : p.1 = k
    · rw [if_pos h, if_pos (by simp [h])]
      simp
    rw [if_neg h, List.map_cons, ih, List.map_cons, List.map_cons]
    by_cases h2 : k ∈ l.map (·.1)
    · rw [if_pos h2, if_pos (List.mem_cons_of_mem _ h2)]
    rw [if_neg h2, if_neg (by rw [List.mem_cons, not_or]; exact ⟨fun e => h e.symm, h2⟩)]
    rfl
theorem putM_in {l : List (Ment κ)} {k : κ} {v : Value} {clk : Nat} (hn : (l.map (·.1)).Nodup) {p : Ment κ} (h : p ∈ putM l k v clk) : (p.1 = k ∧ p.2.1 = v) ∨ (p ∈ l ∧ p.1 ≠ k) := by
  induction l with
  | nil => simp [putM, findM] at h; subst h; exact .inl ⟨rfl, rfl⟩
  | cons q l ih =>
    rw [nP] at h; rw [List.map_cons, List.nodup_cons] at hn
    by_cases e : q.1 = k
    · rw [if_pos e] at h
      rcases List.mem_cons.1 h with rfl | h
      · exact .inl ⟨rfl, rfl⟩
      refine .inr ⟨List.mem_cons_of_mem _ h, fun e2 => hn.1 ?_⟩; rw [e, ← e2]; exact List.mem_map_of_mem h
    rw [if_neg e] at h
    rcases List.mem_cons.1 h with rfl | h
    · exact .inr ⟨List.mem_cons_self, e⟩
    exact (ih hn.2 h).imp id fun h => ⟨List.mem_cons_of_mem _ h.1, h.2⟩
theorem MapIs.put {l : List (Ment κ)} {clk : Nat} {f : κ → Nat} (h : MapIs l clk f) (k : κ) {n : Nat} (hn : 0 < n) : MapIs (putM l k (int n) clk) (clkM l k clk) (updF f k n) where
  bs := by
    rw [dx0]
    split
    · exact h.bs
    refine List.pairwise_append.2 ⟨h.bs, by simp, fun a ha b hb => ?_⟩; obtain ⟨p, hp, rfl⟩ := List.mem_map.1 ha; rw [List.mem_singleton.1 hb]; exact h.lt p hp
  lt p hp := by
    have h1 : p.2.2 ∈ (putM l k (int n) clk).map (·.2.2) := List.mem_map_of_mem hp; rw [dx0] at h1; rw [clkM_eq]
    split at h1
    · rename_i e
      rw [if_pos e]; obtain ⟨q, hq, e2⟩ := List.mem_map.1 h1; rw [← e2]; exact h.lt q hq
    rename_i e
    rw [if_neg e]
    rcases List.mem_append.1 h1 with h1 | h1
    · obtain ⟨q, hq, e2⟩ := List.mem_map.1 h1
      have := h.lt q hq
      omega
    rw [List.mem_singleton.1 h1]; omega
  nd := by
    rw [hz9]
    split
    · exact h.nd
    rename_i e
    refine List.nodup_append.2 ⟨h.nd, by simp, fun a ha b hb e2 => e ?_⟩; rw [← List.mem_singleton.1 hb, ← e2]; exact ha
  vl p hp := by
    unfold updF
    rcases putM_in h.nd hp with ⟨e1, e2⟩ | ⟨e1, e2⟩
    · rw [if_pos e1]; exact ⟨e2, hn⟩
    rw [if_neg e2]; exact h.vl p e1
  al x hx := by
    rw [hz9]; unfold updF at hx
    by_cases e : x = k
    · subst e
      split
      · assumption
      simp
    rw [if_neg e] at hx; have := h.al x hx
    split
    · exact this
    exact List.mem_append_left _ this
def delM (l : List (Ment κ)) (k : κ) : List (Ment κ) := match findM k l 0 with | some (i, _) => l.eraseIdx i | none => l
theorem jx1 (l : List (Ment κ)) (k : κ) : delM l k = l.eraseP fun p => decide (p.1 = k) := by
  induction l with
  | nil => rfl
  | cons p l ih =>
    unfold delM; rw [List.eraseP_cons]
    by_cases h : p.1 = k
    · simp [findM, h]
    simp only [findM, h, if_false, decide_false]; rw [lA]; unfold delM at ih
    cases hf : findM k l 0 with
    | none => rw [hf] at ih; simp only [Option.map_none]; rw [← ih]; rfl
    | some q => rw [hf] at ih; simp only [Option.map_some, List.eraseIdx_cons_succ]; rw [← ih]; rfl
theorem MapIs.del {l : List (Ment κ)} {clk : Nat} {f : κ → Nat} (h : MapIs l clk f) (k : κ) : MapIs (delM l k) clk (updF f k 0) := by
  have hs : (delM l k).Sublist l := by rw [jx1]; exact List.eraseP_sublist
  have hk : ∀ p ∈ delM l k, p.1 ≠ k := by
    rw [jx1]; have h1 := h.nd; clear hs h
    induction l with
    | nil => intro p hp; cases hp
    | cons q l ih =>
      rw [List.map_cons, List.nodup_cons] at h1; intro p hp e; rw [List.eraseP_cons] at hp
      by_cases e1 : q.1 = k
      · rw [decide_eq_true e1] at hp
        exact h1.1 (by rw [e1, ← e]; exact List.mem_map_of_mem hp)
      rw [decide_eq_false e1] at hp
      rcases List.mem_cons.1 hp with rfl | hp
      · exact e1 e
      exact ih h1.2 p hp e
  refine ⟨h.bs.sublist (hs.map _), fun p hp => h.lt p (hs.subset hp), h.nd.sublist (hs.map _), fun p hp => ?_, fun x hx => ?_⟩
  · unfold updF
    rw [if_neg (hk p hp)]; exact h.vl p (hs.subset hp)
  unfold updF at hx
  by_cases e : x = k
  · rw [if_pos e] at hx; omega
  rw [if_neg e] at hx; obtain ⟨p, hp, e2⟩ := List.mem_map.1 (h.al x hx); refine List.mem_map.2 ⟨p, ?_, e2⟩; rw [jx1]; exact (List.mem_eraseP_of_neg (by rw [decide_eq_true_eq, e2]; exact e)).2 hp
omit [DecidableEq κ] in
theorem MapIs.congr {l : List (Ment κ)} {clk : Nat} {f g : κ → Nat} (h : MapIs l clk f) (e : ∀ k, f k = g k) : MapIs l clk g := by
  have : f = g := funext e; exact this ▸ h
theorem uR {α : Type} [DecidableEq α] : ∀ {l K : List α}, l.Nodup → (∀ x ∈ l, x ∈ K) → l.length ≤ K.length
  | [], K, _, _ => Nat.zero_le _
  | x :: l, K, hn, h => by
    rw [List.nodup_cons] at hn; have h1 := h x List.mem_cons_self; have h2 := uR (K := K.erase x) hn.2 fun y hy => (List.mem_erase_of_ne (fun e : y = x => hn.1 (by rw [← e]; exact hy))).2 (h y (List.mem_cons_of_mem _ hy)); rw [List.length_erase_of_mem h1] at h2; have := List.length_pos_of_mem h1; rw [List.length_cons]
    omega
theorem uE {α β : Type} (f : α → β) : ∀ (l : List α) (i : Nat), (l.map f).eraseIdx i = (l.eraseIdx i).map f
  | [], i => rfl
  | x :: l, 0 => rfl
  | x :: l, i + 1 => by rw [List.map_cons, List.eraseIdx_cons_succ, List.eraseIdx_cons_succ, List.map_cons, uE f l i]
theorem MapIs.len {l : List (Ment κ)} {clk : Nat} {f : κ → Nat} (h : MapIs l clk f) {K : List κ} (hK : ∀ k, 0 < f k → k ∈ K) : l.length ≤ K.length := by
  have h2 := uR (K := K) h.nd fun k hk => by
    obtain ⟨p, hp, rfl⟩ := List.mem_map.1 hk; exact hK _ (h.vl p hp).2
  rwa [List.length_map] at h2
end
structure Vis {κ : Type} (l vis : List (Ment κ)) : Prop where
  sub : ∀ p ∈ vis, p ∈ l
  nd : (vis.map (·.2.2)).Nodup
theorem Vis.nil {κ : Type} (l : List (Ment κ)) : Vis l [] := ⟨by simp, by simp⟩
theorem Vis.snoc {κ : Type} {l vis : List (Ment κ)} (h : Vis l vis) {p : Ment κ} (hp : p ∈ l) (hn : p.2.2 ∉ vis.map (·.2.2)) : Vis l (vis ++ [p]) := by
  refine ⟨fun q hq => ?_, ?_⟩
  · rcases List.mem_append.1 hq with hq | hq
    · exact h.sub q hq
    rw [List.mem_singleton.1 hq]; exact hp
  rw [List.map_append]; refine List.nodup_append.2 ⟨h.nd, by simp, fun a ha b hb e => hn ?_⟩; have h1 : b = p.2.2 := by simpa using hb
  rw [← h1, ← e]; exact ha
theorem Vis.len {κ : Type} {l vis : List (Ment κ)} (h : Vis l vis) : vis.length ≤ l.length := by
  have h2 := uR (K := l.map (·.2.2)) h.nd fun b hb => by
    obtain ⟨p, hp, rfl⟩ := List.mem_map.1 hb; exact List.mem_map_of_mem (h.sub p hp)
  rwa [List.length_map, List.length_map] at h2
theorem Vis.lt {κ : Type} {l vis : List (Ment κ)} (h : Vis l vis) {p : Ment κ} (hp : p ∈ l) (hn : p.2.2 ∉ vis.map (·.2.2)) : vis.length < l.length := by
  have := (h.snoc hp hn).len
  simp at this
  omega
theorem MapIs.born {κ : Type} {l : List (Ment κ)} (h : (l.map (·.2.2)).Pairwise (· < ·)) {p q : Ment κ} (hp : p ∈ l) (hq : q ∈ l) (e : p.2.2 = q.2.2) : p = q := by
  induction l with
  | nil => cases hp
  | cons x l ih =>
    rw [List.map_cons, List.pairwise_cons] at h
    rcases List.mem_cons.1 hp with h1 | h1 <;> rcases List.mem_cons.1 hq with h2 | h2
    · rw [h1, h2]
    · have := h.1 _ (List.mem_map_of_mem h2); rw [h1] at e; omega
    · have := h.1 _ (List.mem_map_of_mem h1); rw [h2] at e; omega
    exact ih h.2 h1 h2
theorem MapIs.key {κ : Type} {l : List (Ment κ)} (h : (l.map (·.1)).Nodup) {p q : Ment κ} (hp : p ∈ l) (hq : q ∈ l) (e : p.1 = q.1) : p = q := by
  induction l with
  | nil => cases hp
  | cons x l ih =>
    rw [List.map_cons, List.nodup_cons] at h
    rcases List.mem_cons.1 hp with h1 | h1 <;> rcases List.mem_cons.1 hq with h2 | h2
    · rw [h1, h2]
    · exact absurd (by rw [← h1, e]; exact List.mem_map_of_mem h2) h.1
    · exact absurd (by rw [← h2, ← e]; exact List.mem_map_of_mem h1) h.1
    exact ih h.2 h1 h2
theorem MapIs.newKey {κ : Type} [DecidableEq κ] {l vis : List (Ment κ)} {clk : Nat} {f : κ → Nat} (h : MapIs l clk f) (hv : Vis l vis) {p : Ment κ} (hp : p ∈ l) (hn : p.2.2 ∉ vis.map (·.2.2)) : p.1 ∉ vis.map (·.1) := fun hm => by
  obtain ⟨q, hq, e⟩ := List.mem_map.1 hm; have := MapIs.key h.nd (hv.sub q hq) hp e; subst this; exact hn (List.mem_map_of_mem hq)
theorem MapIs.allVis {κ : Type} [DecidableEq κ] {l vis : List (Ment κ)} {clk : Nat} {f : κ → Nat} (h : MapIs l clk f) (hv : Vis l vis) (ha : ∀ p ∈ l, p.2.2 ∈ vis.map (·.2.2)) {k : κ} (hk : 0 < f k) : k ∈ vis.map (·.1) := by
  obtain ⟨p, hp, rfl⟩ := List.mem_map.1 (h.al k hk); obtain ⟨q, hq, e⟩ := List.mem_map.1 (ha p hp); have := MapIs.born h.bs (hv.sub q hq) hp e; subst this; exact List.mem_map_of_mem hq
section
variable {κ : Type} [DecidableEq κ] {enc : κ → Value} {kt e : TypeId}
variable {c : Cx} {Q : Exit → Act → World → Prop} {fr : Fr} {hp : Hp} {L : List Fact} {ops : Array Oper} {rest : List Oper}
variable {d : Tmp} {ty : TypeId} {pos : String} {af : Array Edge}
theorem cz3 {t : TypeId} {x y : Operand} {g : Nat} {l : List (Ment κ)} {clk : Nat} {k : κ} {f : κ → Nat} (K : KeyC c.P kt enc) (hd : Nat.blt d c.n = true) (ht : c.P.underlying t = some (.map kt e)) (hx : ev fr x = some (.map (some g))) (hy : ev fr y = some (enc k)) (hm : MapAt c.b hp L g (mapO enc l clk))
    (hz : ∀ w, (zeroValue e).run c.P w = .ok (int 0) w) (h : MapIs l clk f) (kk : HL c ops Q rest ((d, int (f k)) :: fr) hp L) : HL c ops Q (⟨some d, .lookup t x y false, ty, pos, af, none⟩ :: rest) fr hp L := by
  have hg := h.get k
  by_cases e0 : f k = 0
  · rw [if_pos e0] at hg
    rw [e0] at kk; exact mz8 K hd ht hx hy hm hz hg kk
  rw [if_neg e0] at hg; exact iz8 K hd ht hx hy hm hg kk
theorem rj6 {t u : TypeId} {x y : Operand} {g : Nat} {l : List (Ment κ)} {clk : Nat} {k : κ} {hp' : Hp} (K : KeyC c.P kt enc) (ht : c.P.underlying t = some (.map kt e)) (hx : ev fr x = some (.map (some g))) (hy : ev fr y = some (enc k))
    (hpp : hp.Perm ((g, mapO enc l clk) :: hp')) (kk : HL c ops Q rest fr ((g, mapO enc (delM l k) clk) :: hp') L) : HL c ops Q (⟨none, .call ⟨.builtin .delete, #[x, y], #[t, u]⟩, ty, pos, af, none⟩ :: rest) fr hp L :=
  hl_eff rfl rfl fun a w ha hw => by
    have hw' := hw.perm hpp; have hg := hw'.own (g, mapO enc l clk) (by simp); have hg' : w.heap[g]? = some (.map (l.map (entOf enc)).toArray clk) := hg; have hf := K.find k l w
    have hrun : (Builtin.delete_ #[t, u] ty #[.map (some g), enc k]).run c.P w = .ok (.tuple #[]) { w with heap := w.heap.setIfInBounds g (mapO enc (delM l k) clk) } := by
      unfold delM
      cases hr : findM k l 0 with
      | none =>
        rw [hr] at hf
        simp [Builtin.delete_, run_underlying ht, MapKept.run_getObj_map hg', K.chk, hf, MapKept.run_setObj_map _ hg', mapO]
      | some p =>
        obtain ⟨i, u⟩ := p; rw [hr] at hf
        have e1 : (l.map (entOf enc)).toArray.eraseIdxIfInBounds i = ((l.eraseIdx i).map (entOf enc)).toArray := by
          apply Array.ext'
          simp [uE]
        simp [Builtin.delete_, run_underlying ht, MapKept.run_getObj_map hg', K.chk, hf, MapKept.run_setObj_map _ hg', mapO, uE]
    refine ⟨.tuple #[], { w with heap := w.heap.setIfInBounds g (mapO enc (delM l k) clk) }, _, L, ?_, hw'.write (o' := mapO enc (delM l k) clk) ⟨rfl, rfl, rfl, by simp, fun j hj hn => by simp only [List.mem_singleton] at hn; simp [Array.getElem?_setIfInBounds_ne (Ne.symm hn)], Nat.le_refl _⟩ ?_, kk⟩
    · simp only [execOp, resolve, invoke, builtin, Sem.run_bind, Sem.run_pure, Result.andThen_ok, List.map_toArray, List.map_cons, List.map_nil, ha.ev hx, ha.ev hy, hrun]
    have := E1 hg; simp only at this
    simp [this]
/-! ### A map that is ranged over -/
def iterM (g clk : Nat) (vis : List (Ment κ)) : Obj := .mapIter (some g) clk (vis.map (·.2.2)).toArray clk
def nextMV (enc : κ → Value) : Option (Ment κ) → Value
  | none => .tuple #[.bool false]
  | some p => .tuple #[.bool true, enc p.1, p.2.1]
omit [DecidableEq κ] in
theorem kq7 {t : TypeId} {x : Operand} {g : Nat} {l : List (Ment κ)} {clk : Nat} (hd : Nat.blt d c.n = true) (ht : c.P.underlying t = some (.map kt e)) (hx : ev fr x = some (.map (some g))) (hm : MapAt c.b hp L g (mapO enc l clk)) (k : ∀ gi, HL c ops Q rest ((d, .pointer (k5 gi)) :: fr) ((gi, iterM g clk ([] : List (Ment κ))) :: hp) L) : HL c ops Q (⟨some d, .range t x, ty, pos, af, none⟩ :: rest) fr hp L :=
  dz3 (iterM g clk ([] : List (Ment κ))) (fun g => .pointer (k5 g)) rfl rfl hd (fun a w ha hw => by
    have hg : w.heap[g]? = some (.map (l.map (entOf enc)).toArray clk) := hm w hw; simp only [execOp, ha.ev hx, Instr.range, Sem.run_bind, run_underlying ht, Result.andThen_ok, MapKept.run_getObj_map hg]
    simp [run_newObj_alloc, iterM]) k
theorem kq3 (P : Program) (n : Nat) (w : World) : ∃ j w', (choose (.mapNext n)).run P w = .ok j w' ∧ (0 < n → j < n) ∧ (n ≤ 1 → j = 0) ∧ Ext [] w w' ∧ w'.heap = w.heap := by
  by_cases h : n ≤ 1
  · refine ⟨0, w, ?_, fun h => h, fun _ => rfl, Ext.refl _ _, rfl⟩
    have hf : (Question.mapNext n).forced = true := decide_eq_true h; show Sem.run P (Sem.choose (.mapNext n) Sem.pure) w = _; simp only [Sem.run, hf, if_true]
  refine ⟨(w.tape w.drawn (.mapNext n)) % n, w.drew, ?_, ?_, fun h2 => absurd h2 h, gj5 w, rfl⟩
  · have hf : (Question.mapNext n).forced = false := decide_eq_false h
    show Sem.run P (Sem.choose (.mapNext n) Sem.pure) w = _; simp only [Sem.run, hf, Bool.false_eq_true, if_false]
    rfl
  exact fun h0 => Nat.mod_lt _ h0
omit [DecidableEq κ] in
theorem aj6 {P : Program} {w : World} {r : Nat} {m : Option Nat} {a z : Nat} {s : Array Nat} (hb : w.heap[r]? = some (.mapIter m a s z)) : (getObj r).run P w = .ok (.mapIter m a s z) w := by simp [getObj, Sem.run, hb]
omit [DecidableEq κ] in
theorem nx8 {P : Program} {w : World} {r : Nat} {m : Option Nat} {a z : Nat} {s : Array Nat} (o : Obj) (hb : w.heap[r]? = some (.mapIter m a s z)) : (setObj r o).run P w = .ok () { w with heap := w.heap.setIfInBounds r o } := by simp [setObj, Sem.run, hb]
def restM (l vis : List (Ment κ)) : List (Ment κ) := l.filter fun p => !(vis.map (·.2.2)).contains p.2.2
omit [DecidableEq κ] in
theorem mz6 {x : Operand} {gi g : Nat} {l vis : List (Ment κ)} {clk : Nat} {hp' : Hp} (hd : Nat.blt d c.n = true) (hx : ev fr x = some (.pointer (k5 gi))) (hm : MapAt c.b hp L g (mapO enc l clk)) (hlt : ∀ p ∈ l, p.2.2 < clk) (hpp : hp.Perm ((gi, iterM g clk vis) :: hp'))
    (kk : ∀ x : Option (Ment κ), (x = none → ∀ p ∈ l, p.2.2 ∈ vis.map (·.2.2)) → (∀ p, x = some p → p ∈ l ∧ p.2.2 ∉ vis.map (·.2.2)) → HL c ops Q rest ((d, nextMV enc x) :: fr) ((gi, iterM g clk (vis ++ x.toList)) :: hp') L) :
    HL c ops Q (⟨some d, .next x false, ty, pos, af, none⟩ :: rest) fr hp L :=
  tP rfl rfl hd fun a w ha hw => by
    have hw' := hw.perm hpp; have hg : w.heap[g]? = some (.map (l.map (entOf enc)).toArray clk) := hm w hw; have hi : w.heap[gi]? = some (.mapIter (some g) clk (vis.map (·.2.2)).toArray clk) := hw'.own (gi, iterM g clk vis) (by simp); obtain ⟨j, w1, hch, hj, hj0, hext, hheap⟩ := kq3 c.P ((if (restM l vis).isEmpty then 1 else 0) + (restM l vis).length) w; have hi1 : w1.heap[gi]? = some (.mapIter (some g) clk (vis.map (·.2.2)).toArray clk) := by rw [hheap]; exact hi
    have hcond : (!(vis.map (·.2.2)).toArray.isEmpty && !(l.map (entOf enc)).toArray.isEmpty && (l.map (entOf enc)).toArray.all (fun e => decide (e.born ≥ clk))) = false := by
      cases l with
      | nil => simp
      | cons p l =>
        have := hlt p List.mem_cons_self
        simp [entOf]
        intro _ h
        omega
    have hleft : (l.map (entOf enc)).toArray.filter (fun e => !(vis.map (·.2.2)).toArray.contains e.born) = ((restM l vis).map (entOf enc)).toArray := by
      simp only [List.filter_toArray, List.filter_map, restM]
      congr 2
      apply List.filter_congr
      intro p _; show (!(vis.map (·.2.2)).toArray.contains p.2.2) = !(vis.map (·.2.2)).contains p.2.2; rw [List.contains_toArray]
    have hold : ((restM l vis).map (entOf enc)).toArray.filter (fun e => decide (e.born < clk)) = ((restM l vis).map (entOf enc)).toArray := by
      simp only [List.filter_toArray]
      congr 1
      rw [List.filter_eq_self]; intro e he; obtain ⟨p, hp, rfl⟩ := List.mem_map.1 he; exact decide_eq_true (show p.2.2 < clk from hlt p (List.mem_filter.1 hp).1)
    have hnew : ((restM l vis).map (entOf enc)).toArray.filter (fun e => decide (e.born ≥ clk)) = #[] := by
      simp only [List.filter_toArray]
      congr 1
      rw [List.filter_eq_nil_iff]; intro e he; obtain ⟨p, hp, rfl⟩ := List.mem_map.1 he; have := hlt p (List.mem_filter.1 hp).1
      simp [entOf]
      omega
    cases hr : restM l vis with
    | nil =>
      have hall : ∀ p ∈ l, p.2.2 ∈ vis.map (·.2.2) := by
        intro p hp; have := (List.filter_eq_nil_iff.1 hr) p hp
        simpa using this
      rw [hr] at hch hj0 hleft hold hnew; have hj0' := hj0 (by simp); subst hj0'; refine ⟨nextMV enc none, w1, hp, L, ?_, hw.quiet hext, ?_⟩
      · simp only [execOp, ha.ev hx, Instr.next, Sem.run_bind, aj6 hi, Result.andThen_ok, MapKept.run_getObj_map hg, hcond, Bool.false_eq_true, if_false, Sem.run_pure, hleft, hold, hnew]
        simp at hch
        simp [hch, nextMV]
      have k0 := kk none (fun _ => hall) (fun p h => by cases h); simp only [Option.toList_none, List.append_nil] at k0; exact fun a w ha hw => k0 a w ha (hw.perm hpp)
    | cons p0 r0 =>
      have hjl : j < (restM l vis).length := by
        have := hj (by rw [hr]; simp); rw [hr] at this ⊢
        simpa using this
      have hmem := List.getElem_mem hjl; have hin := List.mem_filter.1 hmem
      have hni : ((restM l vis)[j]).2.2 ∉ vis.map (·.2.2) := by
        have := hin.2
        simpa using this
      have hne : ((restM l vis).map (entOf enc)).toArray.isEmpty = false := by rw [hr]; simp
      rw [show (restM l vis).isEmpty = false by rw [hr]; rfl] at hch; simp only [Bool.false_eq_true, if_false, Nat.zero_add] at hch; have hcs : ((((restM l vis).map (entOf enc)).toArray ++ #[]).map some).size = (restM l vis).length := by simp
      have hce : ((((restM l vis).map (entOf enc)).toArray ++ #[]).map some)[j]? = some (some (entOf enc (restM l vis)[j])) := by simp [hjl]
      refine ⟨nextMV enc (some (restM l vis)[j]), { w1 with heap := w1.heap.setIfInBounds gi (iterM g clk (vis ++ [(restM l vis)[j]])) }, (gi, iterM g clk (vis ++ [(restM l vis)[j]])) :: hp', L, ?_, ((hw'.quiet hext).write (o' := iterM g clk (vis ++ [(restM l vis)[j]])) ⟨rfl, rfl, rfl, by simp, fun q _ hn => by simp only [List.mem_singleton] at hn; simp [Array.getElem?_setIfInBounds_ne (Ne.symm hn)], Nat.le_refl _⟩ ?_), kk (some (restM l vis)[j]) (fun h => by cases h) (fun p h => by cases h; exact ⟨hin.1, hni⟩)⟩
      · simp only [execOp, ha.ev hx, Instr.next, Sem.run_bind, aj6 hi, Result.andThen_ok, MapKept.run_getObj_map hg, hcond, Bool.false_eq_true, if_false, Sem.run_pure, hleft, hold, hnew, hne, Array.empty_append, hcs, hch, hce, nx8 _ hi1]
        simp [entOf, nextMV, iterM]
      have := E1 hi1
      simp [this]
omit [DecidableEq κ] in
theorem mz9 {x : Operand} {gi g : Nat} {l vis : List (Ment κ)} {p : Ment κ} {clk : Nat} (hd : Nat.blt d c.n = true) (hx : ev fr x = some (.pointer (k5 gi))) (hm : MapAt c.b hp L g (mapO enc l clk)) (hi : MapAt c.b hp L gi (iterM g clk (vis ++ [p]))) (hp' : p ∈ l) (hb : (l.map (·.2.2)).Pairwise (· < ·))
    (kk : HL c ops Q rest ((d, .tuple #[enc p.1, p.2.1]) :: fr) hp L) : HL c ops Q (⟨some d, .entry x, ty, pos, af, none⟩ :: rest) fr hp L :=
  u5 _ rfl rfl hd (fun a w ha hw => by
    have hg : w.heap[g]? = some (.map (l.map (entOf enc)).toArray clk) := hm w hw; have hit : w.heap[gi]? = some (.mapIter (some g) clk ((vis ++ [p]).map (·.2.2)).toArray clk) := hi w hw
    have hfind : (l.map (entOf enc)).toArray.find? (fun e => e.born == p.2.2) = some (entOf enc p) := by
      rw [List.find?_toArray]; clear hw hg hit hi hm
      induction l with
      | nil => cases hp'
      | cons q l ih =>
        rw [List.map_cons, List.pairwise_cons] at hb; rw [List.map_cons, List.find?_cons]
        rcases List.mem_cons.1 hp' with rfl | h
        · simp [entOf]
        have := hb.1 _ (List.mem_map_of_mem h); rw [show ((entOf enc q).born == p.2.2) = false by simp [entOf]; omega]; exact ih h hb.2
    have hback : ((vis ++ [p]).map (·.2.2)).toArray.back? = some p.2.2 := by simp
    simp only [execOp, ha.ev hx, Instr.entry, Sem.run_bind, aj6 hit, Result.andThen_ok, hback, MapKept.run_getObj_map hg, bne_self_eq_false, Bool.false_eq_true, if_false, Sem.run_pure, hfind]
    rfl) kk
omit [DecidableEq κ] in
theorem mz7 {x : Operand} {o : Option (Ment κ)} (hd : Nat.blt d c.n = true) (hx : ev fr x = some (nextMV enc o)) (k : HL c ops Q rest ((d, .bool o.isSome) :: fr) hp L) : HL c ops Q (⟨some d, .extract x 0, ty, pos, af, none⟩ :: rest) fr hp L := by
  cases o with
  | none => exact j6 hd hx rfl k
  | some p => exact j6 hd hx rfl k
end
end Go.W
end
section
namespace Go.Proofs.YtpfbbggmcbhboaaGreatDoor
open Go Go.W Go.Conc
set_option maxRecDepth 20000
attribute [local irreducible] HL HC HQ HB Row Rows2 Blk Facts
/-! ### Lists of words by line -/
abbrev EL := List (Int × List Str)
def getE : EL → Int → Option (List Str)
  | [], _ => none
  | p :: e, k => if p.1 = k then some p.2 else getE e k
def putE : EL → Int → List Str → EL
  | [], k, ws => [(k, ws)]
  | p :: e, k, ws => if p.1 = k then (k, ws) :: e else p :: putE e k ws
theorem lj1 : ∀ (e : EL) (k k' : Int) (ws : List Str), getE (putE e k ws) k' = if k = k' then some ws else getE e k'
  | [], k, k', ws => by simp [putE, getE]
  | p :: e, k, k', ws => by
    simp only [putE]
    by_cases h : p.1 = k
    · simp only [h, if_true, getE]
      by_cases h2 : k = k'
      · simp [h2]
      simp [h2]
    simp only [h, if_false, getE, lj1 e k k' ws]
    by_cases h2 : p.1 = k'
    · have : ¬ k = k' := fun e => h (h2.trans e.symm)
      simp [h2, this]
    simp [h2]
inductive InM : List (Ment Int) → Hp → EL → Prop
  | nil : InM [] [] []
  | cons {k : Int} {A : Option Addr} {cap born : Nat} {ws : List Str} {og hp : Hp} {l : List (Ment Int)} {e : EL} (hG : Grow T.z3 1 A ws.length cap (rows ws) og) (h : InM l hp e) : InM ((k, .slice A ws.length cap, born) :: l) (og ++ hp) ((k, ws) :: e)
theorem InM.at_ {l : List (Ment Int)} {hp : Hp} {e : EL} (h : InM l hp e) (k : Int) :
    ∃ A cap og hp', Grow T.z3 1 A ((getE e k).getD []).length cap (rows ((getE e k).getD [])) og ∧ hp.Perm (og ++ hp') ∧
      (getM l k = some (.slice A ((getE e k).getD []).length cap) ∨ (getM l k = none ∧ A = none ∧ cap = 0 ∧ (getE e k).getD [] = [])) ∧
      ∀ A' cap' og' ws' clk, Grow T.z3 1 A' (List.length ws') cap' (rows ws') og' → ∃ hp'', hp''.Perm (og' ++ hp') ∧ InM (putM l k (.slice A' ws'.length cap') clk) hp'' (putE e k ws') := by
  induction h with
  | nil => exact ⟨none, 0, [], [], Grow.nil _ _, .refl _, .inr ⟨rfl, rfl, rfl, rfl⟩, fun A' cap' og' ws' clk hG => ⟨og' ++ [], .refl _, .cons hG .nil⟩⟩
  | @cons k0 A cap born ws og hp l e hG h ih =>
    by_cases hk : k0 = k
    · subst hk
      have e1 : (getE ((k0, ws) :: e) k0).getD [] = ws := by simp [getE]
      rw [e1]; refine ⟨A, cap, og, hp, hG, .refl _, .inl (by rw [aH, if_pos rfl]), fun A' cap' og' ws' clk hG' => ⟨og' ++ hp, .refl _, ?_⟩⟩; rw [nP, if_pos rfl, putE, if_pos rfl]; exact .cons hG' h
    have e1 : getE ((k0, ws) :: e) k = getE e k := by simp [getE, hk]
    rw [e1]; obtain ⟨A2, cap2, og2, hp2, h1, h2, h3, h4⟩ := ih; refine ⟨A2, cap2, og2, og ++ hp2, h1, ?_, ?_, fun A' cap' og' ws' clk hG' => ?_⟩
    · refine (List.Perm.append_left og h2).trans ?_
      exact C0 fun p => by simp only [List.countP_append]; omega
    · rw [aH, if_neg hk]; exact h3
    obtain ⟨hp3, h5, h6⟩ := h4 A' cap' og' ws' clk hG'; refine ⟨og ++ hp3, ?_, ?_⟩
    · refine (List.Perm.append_left og h5).trans ?_
      exact C0 fun p => by simp only [List.countP_append]; omega
    rw [nP, if_neg hk, putE, if_neg hk]; exact .cons hG h6
theorem InM.rows {b : Bx} {w : World} {l : List (Ment Int)} {hp : Hp} {e : EL} (h : InM l hp e) : ∀ {rest : Hp} {L : List Fact}, WI b w (hp ++ rest) L → ∃ Ls, WI b w rest (Ls ++ L) ∧ ∀ k, (getM l k = none ∧ getE e k = none) ∨ ∃ A cap ws, getE e k = some ws ∧ getM l k = some (.slice A ws.length cap) ∧ Row A (rows ws) ∈ Ls := by
  induction h with
  | nil => exact fun hw => ⟨[], hw, fun k => .inl ⟨rfl, rfl⟩⟩
  | @cons k0 A cap born ws og hp l e hG h ih =>
    intro rest L hw; have hw2 : WI b w (og ++ (hp ++ rest)) L := by rwa [← List.append_assoc]
    obtain ⟨Ls, h1, h2⟩ := ih (sS hG hw2); refine ⟨Ls ++ [Row A (W.rows ws)], by rw [List.append_assoc]; exact h1, fun k => ?_⟩; rw [aH]
    by_cases hk : k0 = k
    · exact .inr ⟨A, cap, ws, by simp [getE, hk], by rw [if_pos hk], by simp⟩
    have e1 : getE ((k0, ws) :: e) k = getE e k := by simp [getE, hk]
    rw [if_neg hk, e1]
    rcases h2 k with h3 | ⟨A', cap', ws', h3, h4, h5⟩
    · exact .inl h3
    exact .inr ⟨A', cap', ws', h3, h4, by simp [h5]⟩
/-! ### What a reader's marks come to -/
def stepE (e : EL) (m : Mk) : EL := if m.1 = 1 then putE e m.2.1 ((getE e m.2.1).getD [] ++ [m.2.2]) else e
def insE (xs : List Mk) : EL := xs.foldl stepE []
def insAt (xs : List Mk) (k : Int) : List Str := (xs.filter fun m => decide (m.1 = 1 ∧ m.2.1 = k)).map (·.2.2)
def lastAt (xs : List Mk) (k : Int) : Option Mk := (xs.filter fun m => decide (m.1 ≠ 1 ∧ m.2.1 = k)).getLast?
theorem aq4 (xs : List Mk) (m : Mk) : insE (xs ++ [m]) = stepE (insE xs) m := by simp [insE]
theorem rev_ind {α : Type} {P : List α → Prop} (h0 : P []) (h1 : ∀ l a, P l → P (l ++ [a])) (l : List α) : P l := by
  have : ∀ l : List α, P l.reverse := by
    intro l
    induction l with
    | nil => exact h0
    | cons a l ih => rw [List.reverse_cons]; exact h1 _ _ ih
  simpa using this l.reverse
theorem ij5 (xs : List Mk) (k : Int) : (getE (insE xs) k).getD [] = insAt xs k := by
  refine rev_ind (P := fun xs => (getE (insE xs) k).getD [] = insAt xs k) rfl (fun xs m ih => ?_) xs; rw [aq4]; unfold stepE insAt; rw [List.filter_append, List.map_append]
  by_cases h1 : m.1 = 1
  · rw [if_pos h1, lj1]
    by_cases h2 : m.2.1 = k
    · rw [if_pos h2, h2, ih]
      simp [h1, h2, insAt]
    rw [if_neg h2, ih]
    simp [h2, insAt]
  rw [if_neg h1, ih]
  simp [h1, insAt]
theorem bq5 (xs : List Mk) (m : Mk) (k : Int) : lastAt (xs ++ [m]) k = if m.1 ≠ 1 ∧ m.2.1 = k then some m else lastAt xs k := by
  unfold lastAt; rw [List.filter_append]
  by_cases h : m.1 ≠ 1 ∧ m.2.1 = k
  · rw [if_pos h]
    simp [h]
  rw [if_neg h]
  have : [m].filter (fun m => decide (m.1 ≠ 1 ∧ m.2.1 = k)) = [] := by
    rw [List.filter_cons_of_neg (by simpa using h), List.filter_nil]
  rw [this, List.append_nil]
def LaM (l : List (Ment Int)) (xs : List Mk) : Prop := ∀ k, getM l k = (lastAt xs k).map mkV
theorem LaM.nil : LaM [] [] := fun k => rfl
theorem LaM.put {l : List (Ment Int)} {xs : List Mk} (h : LaM l xs) {m : Mk} (hm : m.1 ≠ 1) (clk : Nat) : LaM (putM l m.2.1 (mkV m) clk) (xs ++ [m]) := fun k => by
  rw [kz9, bq5]
  by_cases e : m.2.1 = k
  · rw [if_pos e, if_pos ⟨hm, e⟩]; rfl
  rw [if_neg e, if_neg (fun h => e h.2)]; exact h k
theorem LaM.same {l : List (Ment Int)} {xs : List Mk} (h : LaM l xs) {m : Mk} (hm : m.1 = 1) : LaM l (xs ++ [m]) := fun k => by
  rw [bq5, if_neg (fun h => h.1 hm)]; exact h k
set_option maxRecDepth 20000
theorem u1 {ld : Nat → Bool} {j i : Nat} (h : Nat.beq j i = false) : (ld j || Nat.beq j i) = ld j := by rw [h, Bool.or_false]
theorem kx4 {ld : Nat → Bool} {j i : Nat} (h : Nat.beq j i = true) : (ld j || Nat.beq j i) = true := by rw [h, Bool.or_true]
def Inn (W : World) (o : List Nat) (hp : Hq) : Prop := ∀ q ∈ hp, q.1 ∈ o ∨ W.heap.size ≤ q.1
noncomputable def ops2 : Array Oper := regionAt 2 (Tryz.f52.body.getD .skip)
noncomputable def ops3 : Array Oper := regionAt 3 (Tryz.f52.body.getD .skip)
def Mst (W : World) (H H' : Hq) (w : Str) (ws : List Str) (Fin : Hq → Prop) (b19 b20 b21 : Bool) (fr : Fr) (hp : Hq) : Prop :=
  if b21 = true then Fin hp else if b20 = true then ∃ gs A' cap' og', lk fr 29 = some (.slice A' (ws ++ [w]).length cap') ∧ Grow T.z3 1 A' (ws ++ [w]).length cap' (rows (ws ++ [w])) og' ∧ hp = og' ++ ((gs, .cells #[str w] T.z3 (0, 0)) :: H') ∧ (hp.map (·.1)).Nodup ∧ ∀ q ∈ og', Has H q.1 ∨ W.heap.size ≤ q.1
  else if b19 = true then ∃ gs, lk fr 28 = some (.slice (k5 gs) 1 1) ∧ hp = (gs, .cells #[str w] T.z3 (0, 0)) :: H ∧ ¬ Has H gs ∧ W.heap.size ≤ gs
  else hp = H
section
variable {W : World} {H H' og : Hq} {w : Str} {ws : List Str} {Fin : Hq → Prop} {b19 b20 b21 : Bool} {fr : Fr} {hp : Hq}
theorem D9 {c19 c20 c21 : Bool} (h1 : c19 = b19) (h2 : c20 = b20) (h3 : c21 = b21) (h : Mst W H H' w ws Fin b19 b20 b21 fr hp) : Mst W H H' w ws Fin c19 c20 c21 fr hp := by subst h1 h2 h3; exact h
theorem Mst.put {d : Tmp} {v : Value} (h : Mst W H H' w ws Fin b19 b20 b21 fr hp) (h1 : d ≠ 28) (h2 : d ≠ 29) : Mst W H H' w ws Fin b19 b20 b21 ((d, v) :: fr) hp := by
  have e1 : lk ((d, v) :: fr) 28 = lk fr 28 := by rw [p9, if_neg h1]
  have e2 : lk ((d, v) :: fr) 29 = lk fr 29 := by rw [p9, if_neg h2]
  unfold Mst at h ⊢; rw [e1, e2]; exact h
theorem Mst.mem (h : Mst W H H' w ws Fin b19 b20 false fr hp) (hH : H.Perm (og ++ H')) (x : Nat × Obj) (hx : x ∈ H') : x ∈ hp := by
  have hxH : x ∈ H := hH.mem_iff.2 (by simp [hx]); unfold Mst at h; rw [if_neg (by decide)] at h
  split at h
  · obtain ⟨gs, A', cap', og', _, _, rfl, _⟩ := h
    simp [hx]
  split at h
  · obtain ⟨gs, _, rfl, _⟩ := h
    simp [hxH]
  rw [h]; exact hxH
end
def Mst3 (H : Hq) (Fin : Hq → Prop) (b9 : Bool) (hp : Hq) : Prop := if b9 = true then Fin hp else hp = H
theorem W6 {H : Hq} {Fin : Hq → Prop} {b c : Bool} {hp : Hq} (h1 : c = b) (h : Mst3 H Fin b hp) : Mst3 H Fin c hp := by subst h1; exact h
abbrev tab2 (d r g mr : Nat) (m : Mk) (A : Option Addr) (cap : Nat) (ws : List Str) : List (Option Nat × Tmp × Value) := [(none, 0, .pointer (k5 d)), (none, 1, int (r : Int)), (none, 5, .pointer (k5 g)), (some 0, 9, .pointer (k5 d)), (some 1, 10, int (r : Int)), (some 2, 11, .pointer (k5 d)), (some 3, 12, .pointer (k5 d)), (some 4, 13, .pointer (some ⟨d, 0 + r, none⟩)), (some 5, 14, .map (some mr)), (some 6, 15, .pointer (some ⟨g, 1, none⟩)), (some 7, 16, int m.2.1), (some 8, 17, .pointer (k5 d)), (some 9, 18, int (r : Int)), (some 10, 19, .pointer (k5 d)), (some 11, 20, .pointer (k5 d)), (some 12, 21, .pointer (some ⟨d, 0 + r, none⟩)), (some 13, 22, .map (some mr)), (some 14, 23, .pointer (some ⟨g, 1, none⟩)), (some 15, 24, int m.2.1), (some 16, 25, .slice A ws.length cap), (some 17, 26, .pointer (some ⟨g, 2, none⟩)), (some 18, 27, str m.2.2)]
abbrev tab3 (d r g qr : Nat) (m : Mk) : List (Option Nat × Tmp × Value) := [(none, 0, .pointer (k5 d)), (none, 1, int (r : Int)), (none, 5, .pointer (k5 g)), (some 0, 30, .pointer (k5 d)), (some 1, 31, int (r : Int)), (some 2, 32, .pointer (k5 d)), (some 3, 33, .pointer (some ⟨d, 2, none⟩)), (some 4, 34, .pointer (some ⟨d, 2 + r, none⟩)), (some 5, 35, .map (some qr)), (some 6, 36, .pointer (some ⟨g, 1, none⟩)), (some 7, 37, int m.2.1), (some 8, 38, mkV m)]
section
variable {d r g mr qr : Nat} {m : Mk} {A : Option Addr} {cap : Nat} {ws : List Str}
theorem mz4 : (tab2 d r g mr m A cap ws).map (·.2.1) = [0, 1, 5, 9, 10, 11, 12, 13, 14, 15, 16, 17, 18, 19, 20, 21, 22, 23, 24, 25, 26, 27] := rfl
theorem ix7 : (tab2 d r g mr m A cap ws).filterMap (·.1) = [0, 1, 2, 3, 4, 5, 6, 7, 8, 9, 10, 11, 12, 13, 14, 15, 16, 17, 18] := rfl
theorem tab3_is : (tab3 d r g qr m).filterMap (·.1) = [0, 1, 2, 3, 4, 5, 6, 7, 8] := rfl
theorem L3 : ((tab2 d r g mr m A cap ws).map (·.2.1)).Nodup := by show [0, 1, 5, 9, 10, 11, 12, 13, 14, 15, 16, 17, 18, 19, 20, 21, 22, 23, 24, 25, 26, 27].Nodup; decide
theorem K9 : ((tab2 d r g mr m A cap ws).filterMap (·.1)).Nodup := by show [0, 1, 2, 3, 4, 5, 6, 7, 8, 9, 10, 11, 12, 13, 14, 15, 16, 17, 18].Nodup; decide
theorem jD : ((tab3 d r g qr m).map (·.2.1)).Nodup := by show [0, 1, 5, 30, 31, 32, 33, 34, 35, 36, 37, 38].Nodup; decide
theorem jC : ((tab3 d r g qr m).filterMap (·.1)).Nodup := by show [0, 1, 2, 3, 4, 5, 6, 7, 8].Nodup; decide
variable {W : World} {o : List Nat} {v : Nat → Nat → Value} {nn : Nat → Nat} {z : Value} {BW : Nat} {Goal : Goroutine → World → Prop} {ms : Ms} {ro : Hq}
variable {dc : Array Value} {H H' og hpk : Hq} {li : List (Ment Int)} {ci : Nat} {Fin : Hq → Prop} {b : Frame} {cs : List Frame} {k : List Item} {b0 : Bx}
noncomputable abbrev XM (W : World) (o : List Nat) (v : Nat → Nat → Value) (nn : Nat → Nat) (z : Value) (BW : Nat) (Goal : Goroutine → World → Prop) (ms : Ms) (ro : Hq) : TX := .folM ⟨Tryz.prog, W, o, v, nn, z, BW⟩ Goal ms ro
noncomputable abbrev cT (b0 : Bx) : Cx := ⟨Tryz.prog, Tryz.f52.ntmps, b0, [], none⟩
theorem step2 (hk2 : b.kind ≠ .early) (hr : r < 2) (hdc1 : dc[0 + r]? = some (.map (some mr)))
    (hG : Grow T.z3 1 A ws.length cap (rows ws) og) (hH : H.Perm (og ++ H')) (ndH : (H.map (·.1)).Nodup)
    (memD : (d, Obj.cells dc T.y7 (0, 0)) ∈ H') (memG : (g, Obj.cells #[int m.1, int m.2.1, str m.2.2] T.C9 (0, 0)) ∈ H') (memM : (mr, mapO int li ci) ∈ H')
    (hlk : getM li m.2.1 = some (.slice A ws.length cap) ∨ (getM li m.2.1 = none ∧ A = none ∧ cap = 0 ∧ ws = [])) (hlen : ws.length ≤ 1000000)
    (hfin : ∀ gs A' cap' og' (hp : Hq), Grow T.z3 1 A' (ws ++ [m.2.2]).length cap' (rows (ws ++ [m.2.2])) og' → hp = og' ++ ((gs, .cells #[str m.2.2] T.z3 (0, 0)) :: H') → (hp.map (·.1)).Nodup → (∀ q ∈ og', Has H q.1 ∨ W.heap.size ≤ q.1) →
      ∃ hp2, hp.Perm ((mr, mapO int li ci) :: hp2) ∧ ¬ Has hp2 mr ∧ Fin ((mr, mapO int (putM li m.2.1 (.slice A' (ws ++ [m.2.2]).length cap') ci) (clkM li m.2.1 ci)) :: hp2)) :
    ∀ i, i < 22 → ∀ (ld : Nat → Bool) fr hp, (Tab (tab2 d r g mr m A cap ws) ld fr ∧ Mst W H H' m.2.2 ws Fin (ld 19) (ld 20) (ld 21) fr hp) → (∀ i, ld i = true → ∀ j ∈ edgesOf ops2 i, ld j = true) → ld i = false → (∀ j ∈ edgesOf ops2 i, ld j = true) →
      ∀ n rest, (∀ fr' hp', (Tab (tab2 d r g mr m A cap ws) (fun j => ld j || Nat.beq j i) fr' ∧ Mst W H H' m.2.2 ws Fin (ld 19 || Nat.beq 19 i) (ld 20 || Nat.beq 20 i) (ld 21 || Nat.beq 21 i) fr' hp') → TC (XM W o v nn z BW Goal ms ro) (cT b0) b cs n (.inRegion ops2 rest :: k) fr' hp') →
        TC (XM W o v nn z BW Goal ms ro) (cT b0) b cs (n + 1) (.inRegion ops2 (i :: rest) :: k) fr hp := by
  rintro i hi ld fr hp ⟨ht, hm⟩ hcl hn hd n rest hk
  have h21 : ld 21 = false := by
    cases h : ld 21 with
    | false => rfl
    | true =>
      by_cases e : i = 21
      · rw [← e, hn] at h; cases h
      have hall : (List.range 21).all (deps ops2 22 21) = true := n5
      have h2 := rN hcl 22 21 i (hcl 21 h) (List.all_eq_true.1 hall i (List.mem_range.2 (by omega))); rw [hn] at h2; cases h2
  have hmem : ∀ x ∈ H', x ∈ hp := by
    have := hm; rw [h21] at this; exact this.mem hH
  have look25 : ∀ {n : Nat} {rest : List Nat}, lk fr 22 = some (.map (some mr)) → lk fr 24 = some (int m.2.1) → (mr, mapO int li ci) ∈ hp → TC (XM W o v nn z BW Goal ms ro) (cT b0) b cs n (.inRegion ops2 rest :: k) ((25, .slice A ws.length cap) :: fr) hp → TC (XM W o v nn z BW Goal ms ro) (cT b0) b cs (n + 1) (.inRegion ops2 (16 :: rest) :: k) fr hp := fun h22 h24 hmm kk => by
    rcases hlk with h | ⟨h, rfl, rfl, rfl⟩
    · exact tr_look (ok := false) rfl rfl hk2 T.G9 T.V7 h22 h24 hmm h kk
    exact qq9 (ok := false) (v := .slice none 0 0) rfl rfl hk2 T.G9 T.V7 h22 h24 hmm h (fun _ => n5) kk
  have hcases : i = 0 ∨ i = 1 ∨ i = 2 ∨ i = 3 ∨ i = 4 ∨ i = 5 ∨ i = 6 ∨ i = 7 ∨ i = 8 ∨ i = 9 ∨ i = 10 ∨ i = 11 ∨ i = 12 ∨ i = 13 ∨ i = 14 ∨ i = 15 ∨ i = 16 ∨ i = 17 ∨ i = 18 ∨ i = 19 ∨ i = 20 ∨ i = 21 := by omega
  rcases hcases with rfl | rfl | rfl | rfl | rfl | rfl | rfl | rfl | rfl | rfl | rfl | rfl | rfl | rfl | rfl | rfl | rfl | rfl | rfl | rfl | rfl | rfl
  · have hE : edgesOf ops2 0 = [] := n5
    have h0 : lk fr 0 = some (.pointer (k5 d)) := ht.base mC; refine B9 rfl rfl hk2 h0 ?_; refine hk _ _ ⟨ht.put 0 mC L3 K9, ?_⟩; exact D9 (u1 rfl) (u1 rfl) (u1 rfl) (hm.put (by decide) (by decide))
  · have hE : edgesOf ops2 1 = [] := n5
    have h1 : lk fr 1 = some (int (r : Int)) := ht.base mC; refine B9 rfl rfl hk2 h1 ?_; refine hk _ _ ⟨ht.put 1 mC L3 K9, ?_⟩; exact D9 (u1 rfl) (u1 rfl) (u1 rfl) (hm.put (by decide) (by decide))
  · have hE : edgesOf ops2 2 = [0] := n5
    have h9 : lk fr 9 = some (.pointer (k5 d)) := ht.of (j := 0) (hd 0 (by rw [hE]; decide)) mC; refine hU rfl rfl hk2 h9 ?_; refine hk _ _ ⟨ht.put 2 mC L3 K9, ?_⟩; exact D9 (u1 rfl) (u1 rfl) (u1 rfl) (hm.put (by decide) (by decide))
  · have hE : edgesOf ops2 3 = [2] := n5
    have h11 : lk fr 11 = some (.pointer (k5 d)) := ht.of (j := 2) (hd 2 (by rw [hE]; decide)) mC; refine I1 ⟨d, 0, none⟩ rfl rfl hk2 h11 T.H3 (fun _ _ _ => n5) rfl ?_; refine hk _ _ ⟨ht.put 3 mC L3 K9, ?_⟩; exact D9 (u1 rfl) (u1 rfl) (u1 rfl) (hm.put (by decide) (by decide))
  · have hE : edgesOf ops2 4 = [3, 1] := n5
    have h12 : lk fr 12 = some (.pointer (k5 d)) := ht.of (j := 3) (hd 3 (by rw [hE]; decide)) mC; have h10 : lk fr 10 = some (int (r : Int)) := ht.of (j := 1) (hd 1 (by rw [hE]; decide)) mC; refine hZ (o := 0) (q := 0 + r) r rfl rfl hk2 T.C2 T.B6 h12 h10 rfl hr (by omega) ?_; refine hk _ _ ⟨ht.put 4 mC L3 K9, ?_⟩; exact D9 (u1 rfl) (u1 rfl) (u1 rfl) (hm.put (by decide) (by decide))
  · have hE : edgesOf ops2 5 = [4] := n5
    have h13 : lk fr 13 = some (.pointer (some ⟨d, 0 + r, none⟩)) := ht.of (j := 4) (hd 4 (by rw [hE]; decide)) mC; refine aB (v := .map (some mr)) rfl rfl hk2 T.E2 h13 (mD (hmem _ memD) hdc1) ?_; refine hk _ _ ⟨ht.put 5 mC L3 K9, ?_⟩; exact D9 (u1 rfl) (u1 rfl) (u1 rfl) (hm.put (by decide) (by decide))
  · have hE : edgesOf ops2 6 = [] := n5
    have h5 : lk fr 5 = some (.pointer (k5 g)) := ht.base mC; refine I1 ⟨g, 1, none⟩ rfl rfl hk2 h5 T.i8 (fun _ _ _ => n5) rfl ?_; refine hk _ _ ⟨ht.put 6 mC L3 K9, ?_⟩; exact D9 (u1 rfl) (u1 rfl) (u1 rfl) (hm.put (by decide) (by decide))
  · have hE : edgesOf ops2 7 = [6] := n5
    have h15 : lk fr 15 = some (.pointer (some ⟨g, 1, none⟩)) := ht.of (j := 6) (hd 6 (by rw [hE]; decide)) mC; refine aB (v := int m.2.1) rfl rfl hk2 T.a9 h15 (mD (vs := #[int m.1, int m.2.1, str m.2.2]) (hmem _ memG) rfl) ?_; refine hk _ _ ⟨ht.put 7 mC L3 K9, ?_⟩; exact D9 (u1 rfl) (u1 rfl) (u1 rfl) (hm.put (by decide) (by decide))
  · have hE : edgesOf ops2 8 = [] := n5
    have h0 : lk fr 0 = some (.pointer (k5 d)) := ht.base mC; refine B9 rfl rfl hk2 h0 ?_; refine hk _ _ ⟨ht.put 8 mC L3 K9, ?_⟩; exact D9 (u1 rfl) (u1 rfl) (u1 rfl) (hm.put (by decide) (by decide))
  · have hE : edgesOf ops2 9 = [] := n5
    have h1 : lk fr 1 = some (int (r : Int)) := ht.base mC; refine B9 rfl rfl hk2 h1 ?_; refine hk _ _ ⟨ht.put 9 mC L3 K9, ?_⟩; exact D9 (u1 rfl) (u1 rfl) (u1 rfl) (hm.put (by decide) (by decide))
  · have hE : edgesOf ops2 10 = [8] := n5
    have h17 : lk fr 17 = some (.pointer (k5 d)) := ht.of (j := 8) (hd 8 (by rw [hE]; decide)) mC; refine hU rfl rfl hk2 h17 ?_; refine hk _ _ ⟨ht.put 10 mC L3 K9, ?_⟩; exact D9 (u1 rfl) (u1 rfl) (u1 rfl) (hm.put (by decide) (by decide))
  · have hE : edgesOf ops2 11 = [10] := n5
    have h19 : lk fr 19 = some (.pointer (k5 d)) := ht.of (j := 10) (hd 10 (by rw [hE]; decide)) mC; refine I1 ⟨d, 0, none⟩ rfl rfl hk2 h19 T.H3 (fun _ _ _ => n5) rfl ?_; refine hk _ _ ⟨ht.put 11 mC L3 K9, ?_⟩; exact D9 (u1 rfl) (u1 rfl) (u1 rfl) (hm.put (by decide) (by decide))
  · have hE : edgesOf ops2 12 = [11, 9] := n5
    have h20 : lk fr 20 = some (.pointer (k5 d)) := ht.of (j := 11) (hd 11 (by rw [hE]; decide)) mC; have h18 : lk fr 18 = some (int (r : Int)) := ht.of (j := 9) (hd 9 (by rw [hE]; decide)) mC; refine hZ (o := 0) (q := 0 + r) r rfl rfl hk2 T.C2 T.B6 h20 h18 rfl hr (by omega) ?_; refine hk _ _ ⟨ht.put 12 mC L3 K9, ?_⟩; exact D9 (u1 rfl) (u1 rfl) (u1 rfl) (hm.put (by decide) (by decide))
  · have hE : edgesOf ops2 13 = [12] := n5
    have h21 : lk fr 21 = some (.pointer (some ⟨d, 0 + r, none⟩)) := ht.of (j := 12) (hd 12 (by rw [hE]; decide)) mC; refine aB (v := .map (some mr)) rfl rfl hk2 T.E2 h21 (mD (hmem _ memD) hdc1) ?_; refine hk _ _ ⟨ht.put 13 mC L3 K9, ?_⟩; exact D9 (u1 rfl) (u1 rfl) (u1 rfl) (hm.put (by decide) (by decide))
  · have hE : edgesOf ops2 14 = [] := n5
    have h5 : lk fr 5 = some (.pointer (k5 g)) := ht.base mC; refine I1 ⟨g, 1, none⟩ rfl rfl hk2 h5 T.i8 (fun _ _ _ => n5) rfl ?_; refine hk _ _ ⟨ht.put 14 mC L3 K9, ?_⟩; exact D9 (u1 rfl) (u1 rfl) (u1 rfl) (hm.put (by decide) (by decide))
  · have hE : edgesOf ops2 15 = [14] := n5
    have h23 : lk fr 23 = some (.pointer (some ⟨g, 1, none⟩)) := ht.of (j := 14) (hd 14 (by rw [hE]; decide)) mC; refine aB (v := int m.2.1) rfl rfl hk2 T.a9 h23 (mD (vs := #[int m.1, int m.2.1, str m.2.2]) (hmem _ memG) rfl) ?_; refine hk _ _ ⟨ht.put 15 mC L3 K9, ?_⟩; exact D9 (u1 rfl) (u1 rfl) (u1 rfl) (hm.put (by decide) (by decide))
  · have hE : edgesOf ops2 16 = [13, 15] := n5
    have h22 : lk fr 22 = some (.map (some mr)) := ht.of (j := 13) (hd 13 (by rw [hE]; decide)) mC; have h24 : lk fr 24 = some (int m.2.1) := ht.of (j := 15) (hd 15 (by rw [hE]; decide)) mC; refine look25 h22 h24 (hmem _ memM) ?_; refine hk _ _ ⟨ht.put 16 mC L3 K9, ?_⟩; exact D9 (u1 rfl) (u1 rfl) (u1 rfl) (hm.put (by decide) (by decide))
  · have hE : edgesOf ops2 17 = [] := n5
    have h5 : lk fr 5 = some (.pointer (k5 g)) := ht.base mC; refine I1 ⟨g, 2, none⟩ rfl rfl hk2 h5 T.q7 (fun _ _ _ => n5) rfl ?_; refine hk _ _ ⟨ht.put 17 mC L3 K9, ?_⟩; exact D9 (u1 rfl) (u1 rfl) (u1 rfl) (hm.put (by decide) (by decide))
  · have hE : edgesOf ops2 18 = [17] := n5
    have h26 : lk fr 26 = some (.pointer (some ⟨g, 2, none⟩)) := ht.of (j := 17) (hd 17 (by rw [hE]; decide)) mC; refine aB (v := str m.2.2) rfl rfl hk2 T.j5 h26 (mD (vs := #[int m.1, int m.2.1, str m.2.2]) (hmem _ memG) rfl) ?_; refine hk _ _ ⟨ht.put 18 mC L3 K9, ?_⟩; exact D9 (u1 rfl) (u1 rfl) (u1 rfl) (hm.put (by decide) (by decide))
  · -- the new word's slice
    have hE : edgesOf ops2 19 = [18] := n5
    have h27 : lk fr 27 = some (str m.2.2) := ht.of (j := 18) (hd 18 (by rw [hE]; decide)) mC
    have h20 : ld 20 = false := by
      cases h : ld 20 with
      | false => rfl
      | true =>
        have hE2 : edgesOf ops2 20 = [16, 19] := n5
        have := hcl 20 h 19 (by rw [hE2]; decide); rw [hn] at this; cases this
    have hHp : hp = H := by
      have := hm; rw [h21, h20, hn] at this; exact this
    subst hHp; refine gx5 (e := T.z3) (us := #[str m.2.2]) [(0, str m.2.2)] rfl rfl hk2 (by show (do let v ← (lk fr 27).map (0, ·); pure [v]) = _; rw [h27]; rfl) (fun w => n5) (fun _ _ => n5) fun gs hgs hns => ?_; refine hk _ _ ⟨?_, ?_⟩
    · intro e he hl
      have hne : e.2.1 ≠ 28 := by
        rintro h; have h1 : e.2.1 ∈ (tab2 d r g mr m A cap ws).map (·.2.1) := List.mem_map.2 ⟨e, he, rfl⟩; rw [mz4] at h1; rw [h] at h1; exact absurd h1 (by decide)
      rw [p9, if_neg (Ne.symm hne)]; refine ht e he ?_
      cases h1 : e.1 with
      | none => rfl
      | some j =>
        rw [h1] at hl; simp only [Option.all_some, Bool.or_eq_true] at hl ⊢
        rcases hl with hl | hl
        · exact hl
        obtain rfl := Nat.eq_of_beq_eq_true hl; have h1 : (19 : Nat) ∈ (tab2 d r g mr m A cap ws).filterMap (·.1) := List.mem_filterMap.2 ⟨e, he, h1⟩; rw [ix7] at h1; exact absurd h1 (by decide)
    refine D9 (kx4 rfl) ((u1 rfl).trans h20) ((u1 rfl).trans h21) ?_; show ∃ gs, _; exact ⟨gs, by rw [p9, if_pos rfl], rfl, hns, hgs⟩
  · -- it is put behind the others
    have hE : edgesOf ops2 20 = [16, 19] := n5
    have h25 : lk fr 25 = some (.slice A ws.length cap) := ht.of (j := 16) (hd 16 (by rw [hE]; decide)) mC; have h19 : ld 19 = true := hd 19 (by rw [hE]; decide); have hHp := hm; rw [h21, hn, h19] at hHp; obtain ⟨gs, h28, rfl, hns, hgs⟩ := (show ∃ gs, lk fr 28 = some (.slice (k5 gs) 1 1) ∧ hp = (gs, .cells #[str m.2.2] T.z3 (0, 0)) :: H ∧ ¬ Has H gs ∧ W.heap.size ≤ gs from hHp); have hl1 : (ws ++ [m.2.2]).length = ws.length + 1 := by simp
    refine nq8 (hp' := (gs, .cells #[str m.2.2] T.z3 (0, 0)) :: H') (og := og) (ws.length + 1) (rows (ws ++ [m.2.2])) rfl rfl hk2 T.jV h25 h28 hG ?_ (uQ ndH hns) (List.mem_cons_self ..) rfl rfl rfl (by rw [z7]; rfl) (by simp only [maxLen]; omega) (by omega) fun A' cap' og' hG' hnd hfresh => ?_
    · exact (List.Perm.cons _ hH).trans (C0 fun p => by simp only [List.countP_append, List.countP_cons]; omega)
    refine hk _ _ ⟨?_, ?_⟩
    · intro e he hl
      have hne : e.2.1 ≠ 29 := by
        rintro h; have h1 : e.2.1 ∈ (tab2 d r g mr m A cap ws).map (·.2.1) := List.mem_map.2 ⟨e, he, rfl⟩; rw [mz4] at h1; rw [h] at h1; exact absurd h1 (by decide)
      rw [p9, if_neg (Ne.symm hne)]; refine ht e he ?_
      cases h1 : e.1 with
      | none => rfl
      | some j =>
        rw [h1] at hl; simp only [Option.all_some, Bool.or_eq_true] at hl ⊢
        rcases hl with hl | hl
        · exact hl
        obtain rfl := Nat.eq_of_beq_eq_true hl; have h1 : (20 : Nat) ∈ (tab2 d r g mr m A cap ws).filterMap (·.1) := List.mem_filterMap.2 ⟨e, he, h1⟩; rw [ix7] at h1; exact absurd h1 (by decide)
    refine D9 (b19 := ld 19) (u1 rfl) (kx4 rfl) ((u1 rfl).trans h21) ?_; show ∃ gs A' cap' og', _; refine ⟨gs, A', cap', og', by rw [p9, if_pos rfl, hl1], by rw [hl1]; exact hG', rfl, hnd, fun q hq => ?_⟩
    rcases hfresh q hq with ⟨q', hq', e⟩ | h
    · rcases List.mem_cons.1 hq' with rfl | hq'
      · exact .inr (e ▸ hgs)
      exact .inl ⟨q', hq', e⟩
    exact .inr h
  -- into the map
  have hall : (List.range 21).all (deps ops2 22 21) = true := n5
  have hld : ∀ j, j < 21 → ld j = true := fun j hj => rN hcl 22 21 j hd (List.all_eq_true.1 hall j (List.mem_range.2 hj)); have h14 : lk fr 14 = some (.map (some mr)) := ht.of (j := 5) (hld 5 (by omega)) mC; have h16 : lk fr 16 = some (int m.2.1) := ht.of (j := 7) (hld 7 (by omega)) mC; have hHp := hm; rw [h21, hld 20 (by omega)] at hHp; obtain ⟨gs, A', cap', og', h29, hG', rfl, hnd, hfr⟩ := (show ∃ gs A' cap' og', lk fr 29 = some (.slice A' (ws ++ [m.2.2]).length cap') ∧ Grow T.z3 1 A' (ws ++ [m.2.2]).length cap' (rows (ws ++ [m.2.2])) og' ∧ hp = og' ++ ((gs, .cells #[str m.2.2] T.z3 (0, 0)) :: H') ∧ (hp.map (·.1)).Nodup ∧ ∀ q ∈ og', Has H q.1 ∨ W.heap.size ≤ q.1 from hHp); obtain ⟨hp2, hpp, hnm, hF⟩ := hfin gs A' cap' og' _ hG' rfl hnd hfr; refine xL rfl hk2 T.G9 T.V7 h14 h16 h29 hpp hnm ?_; refine hk _ _ ⟨fun e he hl => ht e he ?_, ?_⟩
  · cases h1 : e.1 with
    | none => rfl
    | some j =>
      have h2 : j ∈ (tab2 d r g mr m A cap ws).filterMap (·.1) := List.mem_filterMap.2 ⟨e, he, h1⟩; rw [ix7] at h2
      have : j < 21 := by
        have : ∀ j ∈ [0, 1, 2, 3, 4, 5, 6, 7, 8, 9, 10, 11, 12, 13, 14, 15, 16, 17, 18], j < 21 := by decide
        exact this j h2
      simpa using hld j this
  exact D9 (b19 := ld 19) (b20 := ld 20) (u1 rfl) (u1 rfl) (kx4 rfl) (show Mst W H H' m.2.2 ws Fin _ _ true fr _ from hF)
theorem step3 {ll : List (Ment Int)} {cl : Nat} (hk2 : b.kind ≠ .early) (hr : r < 2) (hdc2 : dc[2 + r]? = some (.map (some qr)))
    (memD : (d, Obj.cells dc T.y7 (0, 0)) ∈ H) (memG : (g, Obj.cells #[int m.1, int m.2.1, str m.2.2] T.C9 (0, 0)) ∈ H)
    (hfin : ∃ hp2, H.Perm ((qr, mapO int ll cl) :: hp2) ∧ ¬ Has hp2 qr ∧ Fin ((qr, mapO int (putM ll m.2.1 (mkV m) cl) (clkM ll m.2.1 cl)) :: hp2)) :
    ∀ i, i < 10 → ∀ (ld : Nat → Bool) fr hp, (Tab (tab3 d r g qr m) ld fr ∧ Mst3 H Fin (ld 9) hp) → (∀ i, ld i = true → ∀ j ∈ edgesOf ops3 i, ld j = true) → ld i = false → (∀ j ∈ edgesOf ops3 i, ld j = true) →
      ∀ n rest, (∀ fr' hp', (Tab (tab3 d r g qr m) (fun j => ld j || Nat.beq j i) fr' ∧ Mst3 H Fin (ld 9 || Nat.beq 9 i) hp') → TC (XM W o v nn z BW Goal ms ro) (cT b0) b cs n (.inRegion ops3 rest :: k) fr' hp') →
        TC (XM W o v nn z BW Goal ms ro) (cT b0) b cs (n + 1) (.inRegion ops3 (i :: rest) :: k) fr hp := by
  rintro i hi ld fr hp ⟨ht, hm⟩ hcl hn hd n rest hk
  have h9 : ld 9 = false := by
    cases h : ld 9 with
    | false => rfl
    | true =>
      by_cases e : i = 9
      · rw [← e, hn] at h; cases h
      have hall : (List.range 9).all (deps ops3 10 9) = true := n5
      have h2 := rN hcl 10 9 i (hcl 9 h) (List.all_eq_true.1 hall i (List.mem_range.2 (by omega))); rw [hn] at h2; cases h2
  have hHp : hp = H := by
    have := hm; rw [h9] at this; exact this
  subst hHp; have hmem : ∀ x ∈ hp, x ∈ hp := fun _ h => h; have hcases : i = 0 ∨ i = 1 ∨ i = 2 ∨ i = 3 ∨ i = 4 ∨ i = 5 ∨ i = 6 ∨ i = 7 ∨ i = 8 ∨ i = 9 := by omega
  rcases hcases with rfl | rfl | rfl | rfl | rfl | rfl | rfl | rfl | rfl | rfl
  · have hE : edgesOf ops3 0 = [] := n5
    have h0 : lk fr 0 = some (.pointer (k5 d)) := ht.base mC; refine B9 rfl rfl hk2 h0 ?_; refine hk _ _ ⟨ht.put 0 mC jD jC, ?_⟩; exact W6 (u1 rfl) hm
  · have hE : edgesOf ops3 1 = [] := n5
    have h1 : lk fr 1 = some (int (r : Int)) := ht.base mC; refine B9 rfl rfl hk2 h1 ?_; refine hk _ _ ⟨ht.put 1 mC jD jC, ?_⟩; exact W6 (u1 rfl) hm
  · have hE : edgesOf ops3 2 = [0] := n5
    have h30 : lk fr 30 = some (.pointer (k5 d)) := ht.of (j := 0) (hd 0 (by rw [hE]; decide)) mC; refine hU rfl rfl hk2 h30 ?_; refine hk _ _ ⟨ht.put 2 mC jD jC, ?_⟩; exact W6 (u1 rfl) hm
  · have hE : edgesOf ops3 3 = [2] := n5
    have h32 : lk fr 32 = some (.pointer (k5 d)) := ht.of (j := 2) (hd 2 (by rw [hE]; decide)) mC; refine I1 ⟨d, 2, none⟩ rfl rfl hk2 h32 T.U2 (fun _ _ _ => n5) rfl ?_; refine hk _ _ ⟨ht.put 3 mC jD jC, ?_⟩; exact W6 (u1 rfl) hm
  · have hE : edgesOf ops3 4 = [3, 1] := n5
    have h33 : lk fr 33 = some (.pointer (some ⟨d, 2, none⟩)) := ht.of (j := 3) (hd 3 (by rw [hE]; decide)) mC; have h31 : lk fr 31 = some (int (r : Int)) := ht.of (j := 1) (hd 1 (by rw [hE]; decide)) mC; refine hZ (o := 2) (q := 2 + r) r rfl rfl hk2 T.I2 T.G3 h33 h31 rfl hr (by omega) ?_; refine hk _ _ ⟨ht.put 4 mC jD jC, ?_⟩; exact W6 (u1 rfl) hm
  · have hE : edgesOf ops3 5 = [4] := n5
    have h34 : lk fr 34 = some (.pointer (some ⟨d, 2 + r, none⟩)) := ht.of (j := 4) (hd 4 (by rw [hE]; decide)) mC; refine aB (v := .map (some qr)) rfl rfl hk2 T.P4 h34 (mD (hmem _ memD) hdc2) ?_; refine hk _ _ ⟨ht.put 5 mC jD jC, ?_⟩; exact W6 (u1 rfl) hm
  · have hE : edgesOf ops3 6 = [] := n5
    have h5 : lk fr 5 = some (.pointer (k5 g)) := ht.base mC; refine I1 ⟨g, 1, none⟩ rfl rfl hk2 h5 T.i8 (fun _ _ _ => n5) rfl ?_; refine hk _ _ ⟨ht.put 6 mC jD jC, ?_⟩; exact W6 (u1 rfl) hm
  · have hE : edgesOf ops3 7 = [6] := n5
    have h36 : lk fr 36 = some (.pointer (some ⟨g, 1, none⟩)) := ht.of (j := 6) (hd 6 (by rw [hE]; decide)) mC; refine aB (v := int m.2.1) rfl rfl hk2 T.a9 h36 (mD (vs := #[int m.1, int m.2.1, str m.2.2]) (hmem _ memG) rfl) ?_; refine hk _ _ ⟨ht.put 7 mC jD jC, ?_⟩; exact W6 (u1 rfl) hm
  · have hE : edgesOf ops3 8 = [] := n5
    have h5 : lk fr 5 = some (.pointer (k5 g)) := ht.base mC; refine sV (vs := [int m.1, int m.2.1, str m.2.2]) rfl rfl hk2 T.j0 T.c6 h5 rfl (zU (vs := #[int m.1, int m.2.1, str m.2.2]) (hmem _ memG) fun j u hu => by rw [Nat.zero_add]; simpa using hu) ?_; refine hk _ _ ⟨ht.put 8 mC jD jC, ?_⟩; exact W6 (u1 rfl) hm
  have hall : (List.range 9).all (deps ops3 10 9) = true := n5
  have hld : ∀ j, j < 9 → ld j = true := fun j hj => rN hcl 10 9 j hd (List.all_eq_true.1 hall j (List.mem_range.2 hj)); have h35 : lk fr 35 = some (.map (some qr)) := ht.of (j := 5) (hld 5 (by omega)) mC; have h37 : lk fr 37 = some (int m.2.1) := ht.of (j := 7) (hld 7 (by omega)) mC; have h38 : lk fr 38 = some (mkV m) := ht.of (j := 8) (hld 8 (by omega)) mC; obtain ⟨hp2, hpp, hnm, hF⟩ := hfin; refine xL rfl hk2 T.dO T.V7 h35 h37 h38 hpp hnm ?_; refine hk _ _ ⟨fun e he hl => ht e he ?_, ?_⟩
  · cases h1 : e.1 with
    | none => rfl
    | some j =>
      have h2 : j ∈ (tab3 d r g qr m).filterMap (·.1) := List.mem_filterMap.2 ⟨e, he, h1⟩; rw [tab3_is] at h2
      have : j < 9 := by
        have : ∀ j ∈ [0, 1, 2, 3, 4, 5, 6, 7, 8], j < 9 := by decide
        exact this j h2
      simpa using hld j this
  exact W6 (kx4 rfl) (show Mst3 hp Fin true _ from hF)
end
set_option maxRecDepth 20000
abbrev ptrB (g : Nat) : Value := .pointer (k5 g)
theorem edges2 : ∀ i, i < 22 → ∀ j ∈ edgesOf ops2 i, j < i := fun i hi j hj => by
  have h : ((List.range 22).all fun i => (edgesOf ops2 i).all fun j => Nat.blt j i) = true := n5
  have h1 := List.all_eq_true.1 (List.all_eq_true.1 h i (List.mem_range.2 hi)) j hj
  simpa using h1
theorem edges3 : ∀ i, i < 10 → ∀ j ∈ edgesOf ops3 i, j < i := fun i hi j hj => by
  have h : ((List.range 10).all fun i => (edgesOf ops3 i).all fun j => Nat.blt j i) = true := n5
  have h1 := List.all_eq_true.1 (List.all_eq_true.1 h i (List.mem_range.2 hi)) j hj
  simpa using h1
theorem dz7 {hp : Hq} {k : Nat} : Has hp k ↔ k ∈ hp.map (·.1) := ⟨fun ⟨q, hq, e⟩ => List.mem_map.2 ⟨q, hq, e⟩, fun h => by obtain ⟨q, hq, e⟩ := List.mem_map.1 h; exact ⟨q, hq, e⟩⟩
theorem Inn.sub {W : World} {o : List Nat} {hp hp' : Hq} (h : Inn W o hp) (hs : ∀ q ∈ hp', Has hp q.1 ∨ W.heap.size ≤ q.1) : Inn W o hp' := fun q hq => by
  rcases hs q hq with ⟨q', hq', e⟩ | h1
  · rw [← e]; exact h q' hq'
  exact .inr h1
section
variable {W : World} {o : List Nat} {v : Nat → Nat → Value} {nn : Nat → Nat} {z : Value} {BW : Nat} {Goal : Goroutine → World → Prop} {ms : Ms} {ro : Hq}
variable {d r mr qr ci cl : Nat} {dc : Array Value} {li ll : List (Ment Int)} {og rest hp : Hq} {xs : List Mk} {m : Mk}
abbrev dsk (d mr qr : Nat) (dc : Array Value) (li : List (Ment Int)) (ci : Nat) (ll : List (Ment Int)) (cl : Nat) (og rest : Hq) : Hq := (d, Obj.cells dc T.y7 (0, 0)) :: (mr, mapO int li ci) :: (qr, mapO int ll cl) :: (og ++ rest)
theorem qx6 (hr : r < 2) (hdc1 : dc[0 + r]? = some (.map (some mr))) (hdc2 : dc[2 + r]? = some (.map (some qr))) (hin : InM li og (insE xs)) (hla : LaM ll xs) (hlen : xs.length ≤ 1000000)
    (hpp : hp.Perm (dsk d mr qr dc li ci ll cl og rest)) (nd : (hp.map (·.1)).Nodup) (inn : Inn W o hp) {n : Nat} {cf : Frame} {cs : List Frame}
    (cont : ∀ li' ci' ll' cl' og', InM li' og' (insE (xs ++ [m])) → LaM ll' (xs ++ [m]) → ((dsk d mr qr dc li' ci' ll' cl' og' rest).map (·.1)).Nodup → Inn W o (dsk d mr qr dc li' ci' ll' cl' og' rest) →
      (XM W o v nn z BW Goal ms ro).T n (cf.finish (.tuple #[])) cs (dsk d mr qr dc li' ci' ll' cl' og' rest)) :
    (XM W o v nn z BW Goal ms ro).T (n + 60) (Frame.enter Tryz.prog 52 [ptrB d, int (r : Int), mkV m].toArray .normal) (cf :: cs) hp := by
  refine ix8 (X := XM W o v nn z BW Goal ms ro) F.Z6 rfl ⟨W, [], fun _ => False⟩ q6 ?_; have hk2 : (base 52).kind ≠ .early := fun h => by cases h
  refine G7 (m := n + 2 + 1 + 22 + 1 + 1 + 1 + 1 + 20) (by omega) ?_; refine v4 (p8 ?_); refine ix1 rfl rfl hk2 rfl fun g hg hng => ?_; refine w9 (v4 (v4 (p8 ?_))); refine I1 ⟨g, 0, none⟩ rfl rfl hk2 rfl T.j9 (fun _ _ _ => n5) rfl ?_; refine aB (v := int m.1) rfl rfl hk2 T.a9 rfl (mD (vs := #[int m.1, int m.2.1, str m.2.2]) (List.mem_cons_self ..) rfl) ?_; refine cI rfl rfl hk2 rfl rfl (w9 ?_); obtain ⟨A, cap, ogk, hpk, hG, hpo, hlk, hput⟩ := hin.at_ m.2.1
  have hwl : ((getE (insE xs) m.2.1).getD []).length ≤ 1000000 := by
    rw [ij5]; unfold insAt; rw [List.length_map]; exact Nat.le_trans (List.length_filter_le _ _) hlen
  have hdm : ∀ q ∈ dsk d mr qr dc li ci ll cl og rest, q ∈ hp := fun q hq => hpp.mem_iff.2 hq; have ndH : (((g, Obj.cells #[int m.1, int m.2.1, str m.2.2] T.C9 (0, 0)) :: hp).map (·.1)).Nodup := uQ nd hng
  by_cases h1 : m.1 = 1
  · refine K8 true (by show some (Value.bool (m.1 == 1)) = _; rw [h1]; rfl) ?_
    refine G7 (m := n + 2 + 1 + 22 + 1 + 1) (by omega) (v4 ?_)
    let Fin : Hq → Prop := fun hp1 => ∃ li' ci' og', InM li' og' (insE (xs ++ [m])) ∧ ((dsk d mr qr dc li' ci' ll cl og' rest).map (·.1)).Nodup ∧ Inn W o (dsk d mr qr dc li' ci' ll cl og' rest) ∧ ∀ q ∈ dsk d mr qr dc li' ci' ll cl og' rest, q ∈ hp1
    let H : Hq := (g, Obj.cells #[int m.1, int m.2.1, str m.2.2] T.C9 (0, 0)) :: hp
    let H' : Hq := (g, Obj.cells #[int m.1, int m.2.1, str m.2.2] T.C9 (0, 0)) :: (d, Obj.cells dc T.y7 (0, 0)) :: (mr, mapO int li ci) :: (qr, mapO int ll cl) :: (hpk ++ rest)
    have hH : H.Perm (ogk ++ H') := by
      refine (List.Perm.cons _ (hpp.trans (List.Perm.cons _ (List.Perm.cons _ (List.Perm.cons _ (List.Perm.append_right rest hpo)))))).trans ?_; exact C0 fun p => by simp only [H', List.countP_append, List.countP_cons]; omega
    refine qJ (m := 22) mixed n5 (fun ld fr hp1 => Tab (tab2 d r g mr m A cap ((getE (insE xs) m.2.1).getD [])) ld fr ∧ Mst W H H' m.2.2 ((getE (insE xs) m.2.1).getD []) Fin (ld 19) (ld 20) (ld 21) fr hp1)
      (step2 (dc := dc) (li := li) (ci := ci) hk2 hr hdc1 hG hH ndH (by simp [H']) (by simp [H']) (by simp [H']) hlk hwl ?_) edges2 ⟨?_, ?_⟩ ?_
    · rintro gs A' cap' og' hp1 hG' rfl hnd hfr
      obtain ⟨hp3, h5, h6⟩ := hput A' cap' og' _ ci hG'
      let hp2 : Hq := og' ++ ((gs, .cells #[str m.2.2] T.z3 (0, 0)) :: (g, Obj.cells #[int m.1, int m.2.1, str m.2.2] T.C9 (0, 0)) :: (d, Obj.cells dc T.y7 (0, 0)) :: (qr, mapO int ll cl) :: (hpk ++ rest))
      have hp12 : (og' ++ ((gs, Obj.cells #[str m.2.2] T.z3 (0, 0)) :: H')).Perm ((mr, mapO int li ci) :: hp2) := C0 fun p => by simp only [H', hp2, List.countP_append, List.countP_cons]; omega
      have hnd2 : (((mr, mapO int li ci) :: hp2).map (·.1)).Nodup := (hp12.map _).nodup_iff.1 hnd
      have hnm : ¬ Has hp2 mr := fun h => by
        rw [List.map_cons, List.nodup_cons] at hnd2; exact hnd2.1 (dz7.1 h)
      refine ⟨hp2, hp12, hnm, putM li m.2.1 (.slice A' ((getE (insE xs) m.2.1).getD [] ++ [m.2.2]).length cap') ci, clkM li m.2.1 ci, hp3, ?_, ?_, ?_, ?_⟩
      · rw [aq4, stepE, if_pos h1]; exact h6
      · have h7 : ((mr, mapO int li ci) :: hp2).Perm ((gs, .cells #[str m.2.2] T.z3 (0, 0)) :: (g, Obj.cells #[int m.1, int m.2.1, str m.2.2] T.C9 (0, 0)) :: dsk d mr qr dc li ci ll cl hp3 rest) := by
          refine List.Perm.trans ?_ (List.Perm.cons _ (List.Perm.cons _ (List.Perm.cons _ (List.Perm.cons _ (List.Perm.cons _ (List.Perm.append_right rest h5.symm)))))); exact C0 fun p => by simp only [hp2, List.countP_append, List.countP_cons]; omega
        have h8 := (h7.map (·.1)).nodup_iff.1 hnd2; simp only [List.map_cons, List.nodup_cons] at h8 ⊢; exact h8.2.2
      · refine inn.sub fun q hq => ?_
        have old : ∀ x ∈ dsk d mr qr dc li ci ll cl og rest, Has hp x.1 ∨ W.heap.size ≤ x.1 := fun x hx => .inl ⟨x, hdm x hx, rfl⟩; simp only [dsk, List.mem_cons, List.mem_append] at hq
        rcases hq with rfl | rfl | rfl | hq | hq
        · exact old _ (by simp)
        · exact old (mr, mapO int li ci) (by simp)
        · exact old _ (by simp)
        · rcases List.mem_append.1 (h5.mem_iff.1 hq) with hq | hq
          · rcases hfr q hq with ⟨q', hq', e⟩ | h9
            · rcases List.mem_cons.1 hq' with rfl | hq'
              · exact .inr (e ▸ hg)
              exact .inl ⟨q', hq', e⟩
            exact .inr h9
          exact old q (by simp [hpo.mem_iff.2 (List.mem_append.2 (.inr hq))])
        exact old q (by simp [hq])
      intro q hq; simp only [dsk, List.mem_cons, List.mem_append] at hq
      rcases hq with rfl | rfl | rfl | hq | hq
      · simp [hp2]
      · simp
      · simp [hp2]
      · rcases List.mem_append.1 (h5.mem_iff.1 hq) with hq | hq <;> simp [hp2, hq]
      simp [hp2, hq]
    · intro e he hl
      simp only [tab2, List.mem_cons, List.not_mem_nil, or_false] at he
      rcases he with rfl | rfl | rfl | he
      · rfl
      · rfl
      · rfl
      exfalso
      rcases he with rfl | rfl | rfl | rfl | rfl | rfl | rfl | rfl | rfl | rfl | rfl | rfl | rfl | rfl | rfl | rfl | rfl | rfl | rfl <;> cases hl
    · show H = H; rfl
    rintro ld fr hp1 hall ⟨_, hm⟩; rw [hall 21 (by omega)] at hm; obtain ⟨li', ci', og', h2, h3, h4, h5⟩ := (show Fin hp1 from hm); refine w9 ?_; refine tc_ret0 rfl F.Z6 rfl h5 (cont li' ci' ll cl og' h2 (hla.same h1) h3 h4)
  refine K8 false (by show some (Value.bool (m.1 == 1)) = _; rw [beq_eq_false_iff_ne.2 h1]) ?_; refine G7 (m := n + 2 + 1 + 10 + 1 + 1) (by omega) (qI ?_)
  let Fin : Hq → Prop := fun hp1 => ∃ ll' cl', LaM ll' (xs ++ [m]) ∧ ((dsk d mr qr dc li ci ll' cl' og rest).map (·.1)).Nodup ∧ Inn W o (dsk d mr qr dc li ci ll' cl' og rest) ∧ ∀ q ∈ dsk d mr qr dc li ci ll' cl' og rest, q ∈ hp1
  let H : Hq := (g, Obj.cells #[int m.1, int m.2.1, str m.2.2] T.C9 (0, 0)) :: hp
  have nd2 := (hpp.map (·.1)).nodup_iff.1 nd
  refine qJ (m := 10) mixed n5 (fun ld fr hp1 => Tab (tab3 d r g qr m) ld fr ∧ Mst3 H Fin (ld 9) hp1)
    (step3 (dc := dc) (ll := ll) (cl := cl) hk2 hr hdc2 (List.mem_cons_of_mem _ (hdm _ (by simp))) (List.mem_cons_self ..) ?_) edges3 ⟨?_, ?_⟩ ?_
  · refine ⟨(g, Obj.cells #[int m.1, int m.2.1, str m.2.2] T.C9 (0, 0)) :: (d, Obj.cells dc T.y7 (0, 0)) :: (mr, mapO int li ci) :: (og ++ rest), ?_, ?_, putM ll m.2.1 (mkV m) cl, clkM ll m.2.1 cl, hla.put h1 cl, ?_, ?_, ?_⟩
    · refine (List.Perm.cons _ hpp).trans ?_
      exact C0 fun p => by simp only [List.countP_append, List.countP_cons]; omega
    · rintro ⟨q, hq, e⟩
      simp only [List.mem_cons] at hq
      rcases hq with rfl | rfl | rfl | hq
      · exact hng ⟨_, hdm (qr, mapO int ll cl) (by simp), e.symm⟩
      · simp only [dsk, List.map_cons, List.nodup_cons, List.mem_cons, not_or] at nd2; exact nd2.1.2.1 e
      · simp only [dsk, List.map_cons, List.nodup_cons, List.mem_cons, not_or] at nd2; exact nd2.2.1.1 e
      simp only [dsk, List.map_cons, List.nodup_cons, List.mem_cons, not_or] at nd2; exact nd2.2.2.1 (List.mem_map.2 ⟨q, hq, e⟩)
    · simpa [dsk] using nd2
    · refine inn.sub fun q hq => ?_
      simp only [dsk, List.mem_cons] at hq
      rcases hq with rfl | rfl | rfl | hq
      · exact .inl ⟨_, hdm _ (by simp), rfl⟩
      · exact .inl ⟨_, hdm _ (by simp), rfl⟩
      · exact .inl ⟨_, hdm (qr, mapO int ll cl) (by simp), rfl⟩
      exact .inl ⟨q, hdm q (by simp only [dsk, List.mem_cons]; exact .inr (.inr (.inr hq))), rfl⟩
    intro q hq; simp only [dsk, List.mem_cons] at hq
    rcases hq with rfl | rfl | rfl | hq
    · simp
    · simp
    · simp
    simp only [List.mem_cons]; exact .inr (.inr (.inr (.inr hq)))
  · intro e he hl
    simp only [tab3, List.mem_cons, List.not_mem_nil, or_false] at he
    rcases he with rfl | rfl | rfl | he
    · rfl
    · rfl
    · rfl
    exfalso
    rcases he with rfl | rfl | rfl | rfl | rfl | rfl | rfl | rfl | rfl <;> cases hl
  · show H = H; rfl
  rintro ld fr hp1 hall ⟨_, hm⟩; rw [hall 9 (by omega)] at hm; obtain ⟨ll', cl', h2, h3, h4, h5⟩ := (show Fin hp1 from hm); refine w9 ?_; refine tc_end0 rfl F.Z6 rfl h5 (cont li ci ll' cl' og ?_ h2 h3 h4); rw [aq4, stepE, if_neg h1]; exact hin
end
set_option maxRecDepth 20000
section
variable {X : TX} {c : Cx} {b : Frame} {cs : List Frame} {n : Nat} {k : List Item} {fr : Fr} {hp : Hq} {ops : Array Oper} {i : Nat} {rest : List Nat} {o : Oper} {a : Act} {d : Tmp} {v : Value}
theorem ix9 (ho : ops[i]? = some o) (hdst : o.dst = some d) (hd : Nat.blt d c.n = true) (ha : Ok c a fr) (h : TC X c b cs n (.inRegion ops rest :: k) ((d, v) :: fr) hp) : X.T n ((b.at a (.inRegion ops (i :: rest) :: k)).finish v) cs hp := by
  rw [fin_at' ho, hdst]; exact h _ (ha.put (by simpa using hd) v)
end
section
variable {W : World} {o : List Nat} {v : Nat → Nat → Value} {nn : Nat → Nat} {z : Value} {BW : Nat} {Goal : Goroutine → World → Prop} {ro : Hq}
variable {hp : Hq} {A : Option Addr} {cap : Nat} {l : List Mk} {n : Nat} {cf : Frame} {cs : List Frame}
theorem send_T0 (hrow : (Row A (rows l)).P W) (hA : ∀ ad, A = some ad → l ≠ [] → ad.block ∉ o) (hn : nn 0 = l.length) (hv : ∀ i, i < l.length → v 0 i = mkV (l.getD i default)) (hl : l.length ≤ 1000000) (hBW : 40 * l.length + 60 ≤ BW)
    (cont : ∀ ch r1, (XM W o v nn z BW Goal (.s1 ch) (r1 ++ ro)).T n (cf.finish (.chan (some ch))) cs hp) :
    (XM W o v nn z BW Goal .s0 ro).T (n + 40) (Frame.enter Tryz.prog 51 [.slice A l.length cap].toArray .normal) (cf :: cs) hp := by
  refine ix8 (X := XM W o v nn z BW Goal .s0 ro) F.bF rfl ⟨W, [], fun _ => False⟩ q6 ?_; have hk2 : (base 51).kind ≠ .early := fun h => by cases h
  obtain ⟨zi, _, hzi, _⟩ := T.H4.i; refine G7 (m := n + 2 + 1 + 1 + 1 + 1 + 1 + 1 + 20) (by omega) ?_; refine v4 (p8 ?_); refine ix1 rfl rfl hk2 rfl fun gb hgb hnb => ?_; refine G4 rfl rfl hk2 rfl (w9 (v4 (p8 ?_))); refine bj8 rfl rfl hk2 Tryz.underlying143 hzi rfl fun ch hch hnc => ?_; refine jS rfl rfl hk2 T.iD (fun _ _ => n5) fun gc hgc hng => ?_; refine xK rfl hk2 rfl rfl l6 hng T.iB rfl rfl ?_; refine w9 (v4 (p8 (bj7 rfl rfl hk2 rfl rfl ?_))); have nc1 : gc ≠ ch := fun e => hng ⟨_, List.mem_cons_self .., e.symm⟩; have nc2 : gb ≠ ch := fun e => hnc ⟨_, List.mem_cons_self .., e⟩; have hF := sj2 (W := W) (o := o) (v := v) (nn := nn) (z := z) (BW := BW) (ro := [(gc, Obj.cells #[.chan (some ch)] T.A8 (0, 0)), (gb, Obj.cells #[.slice A l.length cap] T.D1 (0, 0))] ++ ro) (j := 0) (ch := ch) (gc := gc) (gb := gb) (cap := cap) (l := l) (A := A) (by simp) (by simp) hrow hA hn hv hl
  refine at_go0 (f := 76) (cap := [ptrB gc, ptrB gb]) (ch := ch) (tm := false) (r1 := [(gc, Obj.cells #[.chan (some ch)] T.A8 (0, 0)), (gb, Obj.cells #[.slice A l.length cap] T.D1 (0, 0))]) (h2 := hp) rfl hk2 rfl (by simp) (by intro q hq; simp at hq; rcases hq with rfl | rfl <;> simp [Value.cells]) (by intro q hq; simp [hq])
    ?_ ?_ ?_ (TX.more (B := 40 * l.length + 60) (TX.folS ⟨Tryz.prog, W, o, v, nn, z, BW⟩ 0 ch _ 0) hF hBW) ?_
  · rintro k ⟨q, hq, e⟩ ⟨q', hq', e'⟩
    simp at hq
    rcases hq with rfl | rfl
    · exact hng ⟨q', by simp [hq'], e'.trans e.symm⟩
    exact hnb ⟨q', by simp [hq'], e'.trans e.symm⟩
  · rintro ⟨q, hq, e⟩
    simp at hq
    rcases hq with rfl | rfl
    · exact nc1 e
    exact nc2 e
  · rintro ⟨q, hq, e⟩
    exact hnc ⟨q, by simp [hq], e⟩
  refine w9 (v4 (p8 ?_)); refine aB (v := .chan (some ch)) rfl rfl hk2 T.K7 rfl (gq9 (g := gc) (o := 0) (vs := #[.chan (some ch)]) (t := T.A8) (fz := (0, 0)) (by simp [TX.folM]) rfl) ?_; refine G4 rfl rfl hk2 rfl (w9 ?_); refine G7 (m := n + 2) (by omega) ?_; exact qx3 rfl F.bF rfl rfl (fun q hq => hq) (cont ch _)
theorem send_T1 {c0 : Nat} (hrow : (Row A (rows l)).P W) (hA : ∀ ad, A = some ad → l ≠ [] → ad.block ∉ o) (hn : nn 1 = l.length) (hv : ∀ i, i < l.length → v 1 i = mkV (l.getD i default)) (hl : l.length ≤ 1000000) (hBW : 40 * l.length + 60 ≤ BW)
    (cont : ∀ ch r1, (XM W o v nn z BW Goal (.ga c0 ch 0 0 false false) (r1 ++ ro)).T n (cf.finish (.chan (some ch))) cs hp) :
    (XM W o v nn z BW Goal (.s1 c0) ro).T (n + 40) (Frame.enter Tryz.prog 51 [.slice A l.length cap].toArray .normal) (cf :: cs) hp := by
  refine ix8 (X := XM W o v nn z BW Goal (.s1 c0) ro) F.bF rfl ⟨W, [], fun _ => False⟩ q6 ?_; have hk2 : (base 51).kind ≠ .early := fun h => by cases h
  obtain ⟨zi, _, hzi, _⟩ := T.H4.i; refine G7 (m := n + 2 + 1 + 1 + 1 + 1 + 1 + 1 + 20) (by omega) ?_; refine v4 (p8 ?_); refine ix1 rfl rfl hk2 rfl fun gb hgb hnb => ?_; refine G4 rfl rfl hk2 rfl (w9 (v4 (p8 ?_))); refine bj8 rfl rfl hk2 Tryz.underlying143 hzi rfl fun ch hch hnc => ?_; refine jS rfl rfl hk2 T.iD (fun _ _ => n5) fun gc hgc hng => ?_; refine xK rfl hk2 rfl rfl l6 hng T.iB rfl rfl ?_; refine w9 (v4 (p8 (bj7 rfl rfl hk2 rfl rfl ?_))); have nc1 : gc ≠ ch := fun e => hng ⟨_, List.mem_cons_self .., e.symm⟩; have nc2 : gb ≠ ch := fun e => hnc ⟨_, List.mem_cons_self .., e⟩; have hF := sj2 (W := W) (o := o) (v := v) (nn := nn) (z := z) (BW := BW) (ro := [(gc, Obj.cells #[.chan (some ch)] T.A8 (0, 0)), (gb, Obj.cells #[.slice A l.length cap] T.D1 (0, 0))] ++ ro) (j := 1) (ch := ch) (gc := gc) (gb := gb) (cap := cap) (l := l) (A := A) (by simp) (by simp) hrow hA hn hv hl
  refine at_go1 (f := 76) (cap := [ptrB gc, ptrB gb]) (ch := ch) (tm := false) (r1 := [(gc, Obj.cells #[.chan (some ch)] T.A8 (0, 0)), (gb, Obj.cells #[.slice A l.length cap] T.D1 (0, 0))]) (h2 := hp) rfl hk2 rfl (by simp) (by intro q hq; simp at hq; rcases hq with rfl | rfl <;> simp [Value.cells]) (by intro q hq; simp [hq])
    ?_ ?_ ?_ (TX.more (B := 40 * l.length + 60) (TX.folS ⟨Tryz.prog, W, o, v, nn, z, BW⟩ 1 ch _ 0) hF hBW) ?_
  · rintro k ⟨q, hq, e⟩ ⟨q', hq', e'⟩
    simp at hq
    rcases hq with rfl | rfl
    · exact hng ⟨q', by simp [hq'], e'.trans e.symm⟩
    exact hnb ⟨q', by simp [hq'], e'.trans e.symm⟩
  · rintro ⟨q, hq, e⟩
    simp at hq
    rcases hq with rfl | rfl
    · exact nc1 e
    exact nc2 e
  · rintro ⟨q, hq, e⟩
    exact hnc ⟨q, by simp [hq], e⟩
  refine w9 (v4 (p8 ?_)); refine aB (v := .chan (some ch)) rfl rfl hk2 T.K7 rfl (gq9 (g := gc) (o := 0) (vs := #[.chan (some ch)]) (t := T.A8) (fz := (0, 0)) (by simp [TX.folM]) rfl) ?_; refine G4 rfl rfl hk2 rfl (w9 ?_); refine G7 (m := n + 2) (by omega) ?_; exact qx3 rfl F.bF rfl rfl (fun q hq => hq) (cont ch _)
end
end Go.Proofs.YtpfbbggmcbhboaaGreatDoor
end
