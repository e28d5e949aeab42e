/- The rules of the walks for append and for cuts of slices and strings. -/
import Derived.Test.YtlpgheniajdkfaaGreatWc
import Derived.Lib.Strings
namespace Go.W
open Go Go.RowKit
set_option linter.unusedVariables false
set_option linter.unusedSimpArgs false

/-- A slice of the call's own, onto which may be appended: nil, or at the head of an owned block. -/
def Grow (e : TypeId) (sz : Nat) (A : Option Addr) (n cap : Nat) (xs : List Value) (og : Hp) : Prop :=
  xs.length = n * sz ∧ ((A = none ∧ n = 0 ∧ cap = 0 ∧ og = []) ∨
    ∃ g cur, A = some ⟨g, 0, none⟩ ∧ og = [(g, .cells cur e (0, 0))] ∧ n ≤ cap ∧ cap ≤ maxLen ∧ cur.size = cap * sz ∧ cur.toList.take (n * sz) = xs)

theorem Grow.nil (e : TypeId) (sz : Nat) : Grow e sz none 0 0 [] [] := ⟨by simp, .inl ⟨rfl, rfl, rfl, rfl⟩⟩
theorem Grow.new {e : TypeId} {sz g n : Nat} {cs : Array Value} (h : cs.size = n * sz) (hn : n ≤ maxLen) : Grow e sz (some ⟨g, 0, none⟩) n n cs.toList [(g, .cells cs e (0, 0))] :=
  ⟨by simpa using h, .inr ⟨g, cs, rfl, rfl, Nat.le_refl _, hn, h, by rw [List.take_of_length_le (by simp [h])]⟩⟩
theorem Grow.len {e : TypeId} {sz n cap : Nat} {A : Option Addr} {xs : List Value} {og : Hp} (h : Grow e sz A n cap xs og) : xs.length = n * sz := h.1
theorem Grow.le {e : TypeId} {sz n cap : Nat} {A : Option Addr} {xs : List Value} {og : Hp} (h : Grow e sz A n cap xs og) : n ≤ cap := by
  rcases h.2 with ⟨_, h1, h2, _⟩ | ⟨g, cur, _, _, h1, _⟩ <;> omega
theorem Grow.cap_le {e : TypeId} {sz n cap : Nat} {A : Option Addr} {xs : List Value} {og : Hp} (h : Grow e sz A n cap xs og) : cap ≤ maxLen := by
  rcases h.2 with ⟨_, h1, h2, _⟩ | ⟨g, cur, _, _, _, h1, _⟩
  · simp [h2, maxLen]
  · exact h1

section
variable {c : Cx} {Q : Exit → Act → World → Prop} {fr : Fr} {hp : Hp} {L : List Fact} {ops : Array Oper} {rest : List Oper}
variable {d : Tmp} {ty : TypeId} {pos : String} {af : Array Edge}

/-- It is let go: what it holds is a fact. -/
theorem wi_grown {b : Bx} {w : World} {e : TypeId} {sz n cap : Nat} {A : Option Addr} {xs : List Value} {og : Hp} (hG : Grow e sz A n cap xs og) (h : WI b w (og ++ hp) L) : WI b w hp (Row A xs :: L) := by
  rcases hG with ⟨hl, ⟨rfl, rfl, rfl, rfl⟩ | ⟨g, cur, rfl, rfl, h1, h2, h3, h4⟩⟩
  · have : xs = [] := List.eq_nil_of_length_eq_zero (by simpa using hl)
    subst this
    exact wi_more (by simpa using h) (Row.nil _ _) (fun k hk => by obtain ⟨_, e, _⟩ := hk; cases e)
  · exact wi_letgo (by simpa using h) (by rw [← h4]; exact List.take_prefix _ _)
theorem hl_grown {e : TypeId} {sz n cap : Nat} {A : Option Addr} {xs : List Value} {og : Hp} (hG : Grow e sz A n cap xs og) (k : HL c ops Q rest fr hp (Row A xs :: L)) : HL c ops Q rest fr (og ++ hp) L := fun a w ha hw => k a w ha (wi_grown hG hw)
theorem hc_grown {e : TypeId} {sz n cap : Nat} {A : Option Addr} {xs : List Value} {og : Hp} {x : Code} (hG : Grow e sz A n cap xs og) (k : HC c x Q fr hp (Row A xs :: L)) : HC c x Q fr (og ++ hp) L := fun a w ha hw => k a w ha (wi_grown hG hw)
theorem hq_grown {e : TypeId} {sz n cap : Nat} {A : Option Addr} {xs : List Value} {og : Hp} {x : Exit} (hG : Grow e sz A n cap xs og) (k : HQ c Q x fr hp (Row A xs :: L)) : HQ c Q x fr (og ++ hp) L := fun a w ha hw => k a w ha (wi_grown hG hw)

theorem grow_owns {b : Bx} {w : World} {e : TypeId} {sz n cap : Nat} {A : Option Addr} {xs : List Value} {og : Hp} (hG : Grow e sz A n cap xs og) (h : WI b w (og ++ hp) L) : w.ownsRow 0 e sz (.slice A n cap) n xs := by
  rcases hG with ⟨hl, ⟨rfl, rfl, rfl, rfl⟩ | ⟨g, cur, rfl, rfl, h1, h2, h3, h4⟩⟩
  · exact ⟨hl, .inl ⟨rfl, rfl⟩⟩
  · exact ⟨hl, .inr ⟨g, cap, cur, rfl, Nat.zero_le _, h.own (g, .cells cur e (0, 0)) (by simp), h1, h2, h3, h4⟩⟩

/-- The type facts that append wants. -/
structure ElT (P : Program) (t e : TypeId) (sz bytes : Nat) : Prop where
  u : P.underlying t = some (.slice e)
  i : ∃ i z, P.info? e = some i ∧ i.zero = some z ∧ i.size = sz ∧ i.bytes = bytes ∧ z.cells.size = sz
  pos : 0 < sz
theorem ElT.of {P : Program} {t e : TypeId} {sz bytes : Nat} {z : Value} (h : P.underlying t = some (.slice e)) (hi : (P.info? e).map (fun i => (i.zero, i.size, i.bytes)) = some (some z, sz, bytes)) (hz : z.cells.size = sz) (hp : 0 < sz) : ElT P t e sz bytes := by
  obtain ⟨i, h1, h2, h3, h4⟩ := info_parts hi
  exact ⟨h, ⟨i, z, h1, h2, h3, h4, hz⟩, hp⟩

theorem run_append_none {P : Program} (w : World) (base : Nat) (t ty e : TypeId) (i : TypeInfo) (size : Nat) (ht : P.underlying t = some (.slice e)) (hi : P.info? e = some i)
    (v : Value) (n : Nat) (xs : List Value) (hown : w.ownsRow base e size v n xs) (c : Nat) : (Builtin.append_ #[t, t] ty #[v, .slice none 0 c]).run P w = .ok v w := by
  rcases hown.2 with ⟨rfl, rfl⟩ | ⟨g, cap, cur, rfl, _, _, hnc, _⟩
  · simp [Builtin.append_, run_underlying ht, sizeOf, typeInfo, hi, Builtin.lenOf, Builtin.firstCells]
  · simp [Builtin.append_, run_underlying ht, sizeOf, typeInfo, hi, Builtin.lenOf, Builtin.firstCells, hnc, storeCells]

/-- What is appended: nil, or cells that can be read. -/
def Src (b : Bx) (hp : Hp) (L : List Fact) (B : Option Addr) (m sz : Nat) (news : List Value) : Prop :=
  news.length = m * sz ∧ (∀ u ∈ news, u.oneCell' = true) ∧ ((m = 0 ∧ B = none) ∨ ∀ w, WI b w hp L → ∃ ad, B = some ad ∧ ∀ j u, news[j]? = some u → w.cell? (ad.add j) = some u)
theorem Src.own {b : Bx} {g m sz : Nat} {cs : Array Value} {e : TypeId} {fz : Nat × Nat} (h : (g, Obj.cells cs e fz) ∈ hp) (h1 : cs.size = m * sz) (h2 : cs.toList.all (·.oneCell') = true) : Src b hp L (some ⟨g, 0, none⟩) m sz cs.toList :=
  ⟨by simpa using h1, fun u hu => (List.all_eq_true.1 h2) u hu, .inr fun w hw => ⟨_, rfl, fun j u hu => by
    have := hw.own _ h
    simp only at this
    rw [add_mk, Nat.zero_add]
    simp at hu
    simp [World.cell?, this, hu]⟩⟩
theorem Src.row {b : Bx} {B : Option Addr} {m sz : Nat} {news : List Value} (h : Row B news ∈ L) (h1 : news.length = m * sz) (h2 : ∀ u ∈ news, u.oneCell' = true) (h3 : 0 < sz) : Src b hp L B m sz news := by
  refine ⟨h1, h2, ?_⟩
  cases B with
  | none =>
    by_cases hm : m = 0
    · exact .inl ⟨hm, rfl⟩
    · refine .inr fun w hw => ?_
      have : 0 < news.length := by rw [h1]; exact Nat.mul_pos (by omega) h3
      obtain ⟨ad, e, _⟩ := hw.fs _ h 0 news[0] (List.getElem?_eq_getElem this)
      cases e
  | some ad =>
    refine .inr fun w hw => ⟨ad, rfl, fun j u hu => ?_⟩
    obtain ⟨ad', e, hc⟩ := hw.fs _ h j u hu
    cases e
    exact hc

theorem append_step {b : Bx} {P : Program} {w : World} {t e : TypeId} {sz bytes n cap m cp : Nat} {A B : Option Addr} {xs news : List Value} {og : Hp} (el : ElT P t e sz bytes) (hG : Grow e sz A n cap xs og) (hw : WI b w (og ++ hp) L)
    (hs : Src b (og ++ hp) L B m sz news) (hn : n + m ≤ maxLen) (hby : (n + m) * bytes ≤ 140737488355328) (ty : TypeId) :
    ∃ A' cap' og' w', (Builtin.append_ #[t, t] ty #[.slice A n cap, .slice B m cp]).run P w = .ok (.slice A' (n + m) cap') w' ∧ Grow e sz A' (n + m) cap' (xs ++ news) og' ∧ WI b w' (og' ++ hp) L := by
  obtain ⟨i, z, hi, hz, hsz, hb, hzs⟩ := el.i
  have hown := grow_owns hG hw
  rcases hs.2.2 with ⟨rfl, rfl⟩ | hc
  · have : news = [] := List.eq_nil_of_length_eq_zero (by simpa using hs.1)
    subst this
    exact ⟨A, cap, og, w, by simpa using run_append_none w 0 t ty e i sz el.u hi _ n xs hown cp, by simpa using hG, hw⟩
  · obtain ⟨ad, hBe, hcc⟩ := hc w hw
    subst hBe
    obtain ⟨v', w', hrun, h2, h3, h4, h5⟩ := run_append_own_at (P := P) w 0 t ty e i z sz bytes el.u hi hz hsz hb hzs el.pos _ n xs hown ad m cp news hs.1 hcc hs.2.1 hn hby (Nat.zero_le _)
    obtain ⟨hl', h2'⟩ := h2
    rcases h2' with ⟨rfl, h0⟩ | ⟨g', cap', cur', rfl, _, hg', hle, hcm, hcs, htk⟩
    · -- nothing was there and nothing came
      have hm : n = 0 ∧ m = 0 := by omega
      obtain ⟨rfl, rfl⟩ := hm
      have hv := (h4.1 rfl).1
      cases hv
      have e1 : xs ++ news = [] := List.eq_nil_of_length_eq_zero (by simpa using hl')
      refine ⟨none, 0, [], w', hrun, ⟨by simp [e1], .inl ⟨rfl, rfl, rfl, rfl⟩⟩, ?_⟩
      have hog : og = [] := by
        rcases hG.2 with ⟨_, _, _, h⟩ | ⟨g, cur, h, _⟩
        · exact h
        · cases h
      subst hog
      exact hw.quiet ⟨h3.os, h3.tape, h3.output, h3.size, fun k hk _ => h3.block k hk (by simp [Value.ownBlock])⟩
    · refine ⟨some ⟨g', 0, none⟩, cap', [(g', .cells cur' e (0, 0))], w', hrun, ⟨hl', .inr ⟨g', cur', rfl, rfl, hle, hcm, hcs, htk⟩⟩, ?_⟩
      have hnew : ∀ (hpw : WI b w hp L), Value.ownBlock (.slice (some ⟨g', 0, none⟩) (n + m) cap') = some w.heap.size → (∀ k, k < w.heap.size → (∃ p ∈ hp, p.1 = k) ∨ (∃ F ∈ L, F.fp k) ∨ (k < b.w0.heap.size ∧ k ∉ b.S0) → w'.heap[k]? = w.heap[k]?) → WI b w' ((g', .cells cur' e (0, 0)) :: hp) L := by
        intro hpw hb' hkeep
        have hgs : g' = w.heap.size := by simpa [Value.ownBlock] using hb'
        have hne : ∀ p ∈ hp, p.1 ≠ g' := fun p hp e => by have := lt_of_own (hpw.own p hp); omega
        refine { ext := ⟨h3.os.trans hpw.ext.os, h3.tape.trans hpw.ext.tape, h3.output.trans hpw.ext.output, Nat.le_trans hpw.ext.size h3.size, fun k hk hn => ?_⟩, own := ?_, nd := ?_, s0 := ?_, fs := ?_, ap := ?_, al := hpw.al }
        · exact (hkeep k (Nat.lt_of_lt_of_le hk hpw.ext.size) (.inr (.inr ⟨hk, hn⟩))).trans (hpw.ext.block k hk hn)
        · intro p hp
          rcases List.mem_cons.1 hp with rfl | hp
          · exact hg'
          · exact (hkeep p.1 (lt_of_own (hpw.own p hp)) (.inl ⟨p, hp, rfl⟩)).trans (hpw.own p hp)
        · simp only [List.map_cons, List.nodup_cons]
          exact ⟨fun hm => by obtain ⟨p, hp, e⟩ := List.mem_map.1 hm; exact hne p hp e, hpw.nd⟩
        · intro p hp
          rcases List.mem_cons.1 hp with rfl | hp
          · right
            show b.w0.heap.size ≤ g'
            rw [hgs]
            exact hpw.ext.size
          · exact hpw.s0 p hp
        · intro F hF
          exact F.st w w' (fun k hk => hkeep k (F.lt w (hpw.fs F hF) k hk) (.inr (.inl ⟨F, hF, hk⟩))) (hpw.fs F hF)
        · intro F hF p hp hk
          rcases List.mem_cons.1 hp with rfl | hp
          · have := F.lt w (hpw.fs F hF) _ hk
            simp only at this
            omega
          · exact hpw.ap F hF p hp hk
      rcases hG with ⟨hl, ⟨rfl, rfl, rfl, rfl⟩ | ⟨g, cur, rfl, rfl, q1, q2, q3, q4⟩⟩
      · rcases h5 with h5 | h5
        · simp [Value.ownBlock] at h5
        · exact hnew (by simpa using hw) h5 (fun k hk _ => h3.block k hk (by simp [Value.ownBlock]))
      · have hw' : WI b w ((g, .cells cur e (0, 0)) :: hp) L := by simpa using hw
        rcases h5 with h5 | h5
        · have hgg : g' = g := by simpa [Value.ownBlock] using h5
          subst hgg
          exact hw'.write (o' := .cells cur' e (0, 0)) ⟨h3.os, h3.tape, h3.output, h3.size, fun k hk hn => h3.block k hk (by simp [Value.ownBlock]; simpa using hn)⟩ hg'
        · refine hnew (hw'.weak (List.sublist_cons_self _ _) fun _ h => h) h5 (fun k hk hor => h3.block k hk ?_)
          simp only [Value.ownBlock, ne_eq, Option.some.injEq]
          rintro rfl
          rcases hor with ⟨p, hp, e⟩ | ⟨F, hF, hk⟩ | ⟨hk1, hk2⟩
          · have := hw'.nd
            simp only [List.map_cons, List.nodup_cons] at this
            exact this.1 (List.mem_map.2 ⟨p, hp, e⟩)
          · exact hw'.ap F hF (k, .cells cur e (0, 0)) (by simp) hk
          · rcases hw'.s0 (k, .cells cur e (0, 0)) (by simp) with h6 | h6
            · exact hk2 h6
            · simp only at h6; omega

theorem r_append {t e : TypeId} {x y : Operand} {sz bytes n cap m cp : Nat} {A B : Option Addr} {xs news : List Value} {og hp' : Hp} (n' : Nat) (xs' : List Value) (el : ElT c.P t e sz bytes) (hd : Nat.blt d c.n = true)
    (hx : ev fr x = some (.slice A n cap)) (hy : ev fr y = some (.slice B m cp)) (hG : Grow e sz A n cap xs og) (hpp : hp.Perm (og ++ hp')) (hs : Src c.b (og ++ hp') L B m sz news) (hn' : n + m = n') (hxs : xs ++ news = xs') (hn : n' ≤ maxLen) (hby : n' * bytes ≤ 140737488355328)
    (k : ∀ A' cap' og', Grow e sz A' n' cap' xs' og' → HL c ops Q rest ((d, .slice A' n' cap') :: fr) (og' ++ hp') L) :
    HL c ops Q (⟨some d, .call ⟨.builtin .append, #[x, y], #[t, t]⟩, ty, pos, af, none⟩ :: rest) fr hp L :=
  hl_gen rfl rfl hd fun a w ha hw => by
    subst hn'
    subst hxs
    obtain ⟨A', cap', og', w', hrun, hG', hw'⟩ := append_step (cp := cp) el hG (hw.perm hpp) hs hn hby ty
    refine ⟨_, w', _, L, ?_, hw', k A' cap' og' hG'⟩
    simp only [execOp, resolve, invoke, builtin, Sem.run_bind, Sem.run_pure, Result.andThen_ok, List.map_toArray, List.map_cons, List.map_nil, ha.ev hx, ha.ev hy, hrun]

/-! ### Cuts -/
theorem bound_ok {P : Program} {w : World} {kd : IntKind} {z : Int} {j y : Nat} {code : BoundsCode} (hz : z = (j : Int)) (hj : j ≤ y) : (Instr.sliceBound (.int kd z) y code).run P w = .ok j w := by
  subst hz
  simp [Instr.sliceBound, asIntOf, hj]
/-- The address of a cut. -/
def cutA (A : Option Addr) (cap l sz : Nat) : Option Addr := if cap = l then A else A.map (·.add (l * sz))
theorem cutA_zero (A : Option Addr) (cap sz : Nat) : cutA A cap 0 sz = A := by
  unfold cutA
  split
  · rfl
  · cases A <;> simp [Addr.add]
theorem isn_arr {P : Program} {t e : TypeId} (ht : P.underlying t = some (.slice e)) (w : World) (x : Value) (lo hi mx : Option Value) : (Instr.sliceAt t x lo hi mx).run P w = (Instr.slice t x lo hi mx).run P w := by
  simp [Instr.sliceAt, run_underlying ht]
/-- x[l:] -/
theorem r_slice_lo {t e : TypeId} {x lo : Operand} {A : Option Addr} {n cap sz : Nat} {kd : IntKind} {z : Int} (l : Nat) (hd : Nat.blt d c.n = true) (ht : c.P.underlying t = some (.slice e)) (hz : Sz c.P e sz)
    (hx : ev fr x = some (.slice A n cap)) (hl : ev fr lo = some (.int kd z)) (hlz : z = (l : Int)) (hle : l ≤ n)
    (k : HL c ops Q rest ((d, .slice (cutA A cap l sz) (n - l) (cap - l)) :: fr) hp L) : HL c ops Q (⟨some d, .slice t x (some lo) none none, ty, pos, af, none⟩ :: rest) fr hp L :=
  hl_val _ rfl rfl hd (fun a w ha _ => by
    simp only [execOp, ha.ev hx, Option.map_some, Option.map_none, ha.ev hl, Sem.run_bind, isn_arr ht]
    simp [Instr.slice, Instr.sliceBounds, run_underlying ht, bound_ok hlz hle, size_of hz, cutA]) k
/-- x[:h] -/
theorem r_slice_hi {t e : TypeId} {x hi : Operand} {A : Option Addr} {n cap sz : Nat} {kd : IntKind} {z : Int} (h : Nat) (hd : Nat.blt d c.n = true) (ht : c.P.underlying t = some (.slice e)) (hz : Sz c.P e sz)
    (hx : ev fr x = some (.slice A n cap)) (hh : ev fr hi = some (.int kd z)) (hhz : z = (h : Int)) (hle : h ≤ cap)
    (k : HL c ops Q rest ((d, .slice A h cap) :: fr) hp L) : HL c ops Q (⟨some d, .slice t x none (some hi) none, ty, pos, af, none⟩ :: rest) fr hp L :=
  hl_val _ rfl rfl hd (fun a w ha _ => by
    simp only [execOp, ha.ev hx, Option.map_some, Option.map_none, ha.ev hh, Sem.run_bind, isn_arr ht]
    have := cutA_zero A cap sz
    simp only [cutA] at this
    simp [Instr.slice, Instr.sliceBounds, run_underlying ht, bound_ok hhz hle, size_of hz]
    simpa using this) k
theorem str_extract (s : Str) (l h : Nat) : (ByteArray.mk s.toArray).extract l h = ⟨((s.drop l).take (h - l)).toArray⟩ := by
  rw [Lib.extract_eq]
theorem r_sslice_hi {t : TypeId} {x hi : Operand} {s : Str} {kd : IntKind} {z : Int} (h : Nat) (hd : Nat.blt d c.n = true) (ht : c.P.underlying t = some .string)
    (hx : ev fr x = some (str s)) (hh : ev fr hi = some (.int kd z)) (hhz : z = (h : Int)) (hle : h ≤ s.length)
    (k : HL c ops Q rest ((d, str (s.take h)) :: fr) hp L) : HL c ops Q (⟨some d, .slice t x none (some hi) none, ty, pos, af, none⟩ :: rest) fr hp L :=
  hl_val _ rfl rfl hd (fun a w ha _ => by
    have e1 : (ByteArray.mk s.toArray).size = s.length := rfl
    simp only [execOp, ha.ev hx, Option.map_some, Option.map_none, ha.ev hh, Sem.run_bind, Instr.sliceAt, run_underlying ht]
    simp only [Result.andThen_ok]
    simp [Instr.slice, Instr.sliceBounds, run_underlying ht, str, e1, bound_ok hhz hle, str_extract]) k
end
end Go.W
