/- Texts of this claim, one behind another. -/
import Derived.Lib.Bytealg
import Derived.Test.YtegfgegnhjkcfaaGreatDoorAAf
import Derived.Test.YtegfgegnhjkcfaaGreatDoorAAd
set_option linter.unusedVariables false
set_option linter.unusedSimpArgs false
section
namespace Go.Proofs.YtegfgegnhjkcfaaGreatDoor
open Go Go.W
set_option maxRecDepth 20000
attribute [local irreducible] HL HC HQ HB Row Rows2 Blk Facts
def cutB (b : UInt8) : Str → Str × Str × Bool
  | [] => ([], [], false)
  | x :: r => if x = b then ([], r, true) else (x :: (cutB b r).1, (cutB b r).2.1, (cutB b r).2.2)
theorem R9 (b : UInt8) : ∀ s : Str, (Lib.indexByte s b = -1 ∧ cutB b s = (s, [], false) ∧ b ∉ s) ∨ ∃ i : Nat, Lib.indexByte s b = i ∧ i < s.length ∧ cutB b s = (s.take i, s.drop (i + 1), true) ∧ s[i]? = some b ∧ b ∉ s.take i
  | [] => .inl ⟨rfl, rfl, by simp⟩
  | x :: r => by
    by_cases h : x = b
    · subst h
      exact .inr ⟨0, by simp [Lib.indexByte], by simp, by simp [cutB], by simp, by simp⟩
    have hb : (x == b) = false := by simp [h]
    rcases R9 b r with ⟨h1, h2, h3⟩ | ⟨i, h1, h2, h3, h4, h5⟩
    · exact .inl ⟨by simp [Lib.indexByte, hb, h1], by simp [cutB, h, h2], by simp [h3, Ne.symm h]⟩
    have hne : ¬ ((i : Int) = -1) := by omega
    exact .inr ⟨i + 1, by simp [Lib.indexByte, hb, h1, hne], by simp; omega, by simp [cutB, h, h3], by simpa using h4, by simp [h5, Ne.symm h]⟩
def trimL (p : UInt8 → Bool) (s : Str) : Str := s.dropWhile p
def trimR (p : UInt8 → Bool) (s : Str) : Str := (s.reverse.dropWhile p).reverse
def isDig (c : UInt8) : Bool := decide (48 ≤ c.toNat) && decide (c.toNat ≤ 57)
def D10 : Str := [48, 49, 50, 51, 52, 53, 54, 55, 56, 57]
theorem any_dig (c : UInt8) : (D10.any fun x => x == c) = isDig c := by
  unfold isDig D10
  by_cases h : 48 ≤ c.toNat ∧ c.toNat ≤ 57
  · obtain ⟨h1, h2⟩ := h
    have hc : c = UInt8.ofNat c.toNat := by simp
    have : c.toNat = 48 ∨ c.toNat = 49 ∨ c.toNat = 50 ∨ c.toNat = 51 ∨ c.toNat = 52 ∨ c.toNat = 53 ∨ c.toNat = 54 ∨ c.toNat = 55 ∨ c.toNat = 56 ∨ c.toNat = 57 := by omega
    rw [decide_eq_true h1, decide_eq_true h2]
    rcases this with e | e | e | e | e | e | e | e | e | e <;> (rw [e] at hc; rw [hc]; rfl)
  have h3 : (decide (48 ≤ c.toNat) && decide (c.toNat ≤ 57)) = false := by
    rw [Bool.and_eq_false_iff, decide_eq_false_iff_not, decide_eq_false_iff_not]; omega
  rw [h3]; simp only [List.any_cons, List.any_nil, Bool.or_false, Bool.or_eq_false_iff, beq_eq_false_iff_ne]; refine ⟨?_, ?_, ?_, ?_, ?_, ?_, ?_, ?_, ?_, ?_⟩ <;> (intro e; subst e; exact h (by decide))
theorem tA {p : UInt8 → Bool} : ∀ {l : Str}, l.dropWhile p = [] ↔ ∀ x ∈ l, p x = true
  | [] => by simp
  | a :: l => by
    by_cases h : p a = true
    · rw [List.dropWhile_cons_of_pos h, tA]
      simp [h]
    rw [List.dropWhile_cons_of_neg h]
    simp [h]
theorem S4 {p : UInt8 → Bool} {s : Str} : trimL p (trimR p s) = [] ↔ s.all p = true := by
  unfold trimL trimR; rw [tA, List.all_eq_true]
  constructor
  · intro h
    have h2 : s.reverse.dropWhile p = [] := by
      cases hd : s.reverse.dropWhile p with
      | nil => rfl
      | cons x r =>
        have h3 : p x = true := h x (by rw [hd]; simp); have h4 := List.head_dropWhile_not p (l := s.reverse) (by rw [hd]; simp); simp only [hd, List.head_cons] at h4; rw [h3] at h4; cases h4
    rw [tA] at h2; exact fun x hx => h2 x (by simpa using hx)
  intro h x hx
  have h2 : s.reverse.dropWhile p = [] := by
    rw [tA]; exact fun x hx => h x (by simpa using hx)
  rw [h2] at hx; simp at hx
def asV (l : Str) : List Value := (List.range 256).map fun i => Value.bool (l.any fun c => c.toNat == i)
theorem tF (l : Str) : (asV l).length = 256 := by simp [asV]
theorem asV_one (l : Str) : (asV l).all (·.oneCell') = true := List.all_eq_true.2 fun v hv => by
  obtain ⟨i, _, rfl⟩ := List.mem_map.1 hv
  rfl
theorem tG (l : Str) (c : UInt8) : (asV l)[c.toNat]? = some (.bool (l.any fun x => x == c)) := by
  have h : c.toNat < 256 := c.toNat_lt; unfold asV; rw [List.getElem?_map, List.getElem?_range h]; simp only [Option.map_some]
  congr 3
  funext x
  rw [Bool.eq_iff_iff]
  simp [UInt8.toNat_inj]
theorem asV_set (l : Str) (c : UInt8) : (asV l).set c.toNat (.bool true) = asV (l ++ [c]) := by
  apply List.ext_getElem?
  intro i; rw [List.getElem?_set]; have h : c.toNat < 256 := c.toNat_lt
  by_cases hi : c.toNat = i
  · subst hi
    rw [if_pos rfl, if_pos (by rw [tF]; exact h), tG]
    simp
  rw [if_neg hi]; unfold asV
  by_cases hl : i < 256
  · rw [List.getElem?_map, List.getElem?_map, List.getElem?_range hl]
    simp [hi]
  rw [List.getElem?_eq_none (by simp; omega), List.getElem?_eq_none (by simp; omega)]
theorem yZ {p : UInt8 → Bool} {q : Str} (h : 0 < q.length) (hp : p q[0] = false) : trimL p q = q := by
  cases q with
  | nil => simp at h
  | cons a q => exact List.dropWhile_cons_of_neg (by rw [← Bool.not_eq_true] at hp; exact hp)
theorem xD {p : UInt8 → Bool} {q : Str} (h : 0 < q.length) (hp : p q[0] = true) : trimL p (q.drop 1) = trimL p q := by
  cases q with
  | nil => simp at h
  | cons a q => exact (List.dropWhile_cons_of_pos hp).symm
theorem yX {p : UInt8 → Bool} {q : Str} (h : 0 < q.length) (hp : p (q[q.length - 1]'(by omega)) = false) : trimR p q = q := by
  unfold trimR; have hne : q ≠ [] := fun e => by rw [e] at h; simp at h
  have e : q = q.dropLast ++ [q[q.length - 1]'(by omega)] := by rw [← List.getLast_eq_getElem hne, List.dropLast_concat_getLast]
  rw [e, List.reverse_append, List.reverse_singleton, List.singleton_append, List.dropWhile_cons_of_neg (by rw [← Bool.not_eq_true] at hp; exact hp)]
  simp
theorem xC {p : UInt8 → Bool} {q : Str} (h : 0 < q.length) (hp : p (q[q.length - 1]'(by omega)) = true) : trimR p (q.take (q.length - 1)) = trimR p q := by
  have hne : q ≠ [] := fun e => by rw [e] at h; simp at h
  have e : q = q.take (q.length - 1) ++ [q[q.length - 1]'(by omega)] := by rw [← List.dropLast_eq_take, ← List.getLast_eq_getElem hne, List.dropLast_concat_getLast]
  conv => rhs; rw [e]
  unfold trimR; rw [List.reverse_append, List.reverse_singleton, List.singleton_append, List.dropWhile_cons_of_pos hp]
theorem yY (p : UInt8 → Bool) (s : Str) : (trimR p s).length ≤ s.length := by
  unfold trimR; rw [List.length_reverse]; have := (List.dropWhile_sublist (l := s.reverse) p).length_le
  rwa [List.length_reverse] at this
theorem jT {c : Cx} {Q : Exit → Act → World → Prop} {fr : Fr} {hp hp' : Hp} {L : List Fact} {ops : Array Oper} {rest : List Oper} (h : hp = hp') (k : HL c ops Q rest fr hp' L) : HL c ops Q rest fr hp L := h ▸ k
section
variable {c : Cx} {Q : Exit → Act → World → Prop} {fr : Fr} {hp : Hp} {L : List Fact} {ops : Array Oper} {rest : List Oper} {d : Tmp} {ty : TypeId} {pos : String} {af : Array Edge}
theorem cB {t : TypeId} {x lo hi : Operand} {s : Str} {kd kd' : IntKind} {z z' : Int} (l h : Nat) (hd : Nat.blt d c.n = true) (ht : c.P.underlying t = some .string)
    (hx : ev fr x = some (str s)) (hl : ev fr lo = some (.int kd z)) (hlz : z = (l : Int)) (hh : ev fr hi = some (.int kd' z')) (hhz : z' = (h : Int)) (hle : l ≤ h) (hle' : h ≤ s.length)
    (k : HL c ops Q rest ((d, str ((s.drop l).take (h - l))) :: fr) hp L) : HL c ops Q (⟨some d, .slice t x (some lo) (some hi) none, ty, pos, af, none⟩ :: rest) fr hp L :=
  l4 _ rfl rfl hd (fun a w ha _ => by
    have e1 : (ByteArray.mk s.toArray).size = s.length := rfl; simp only [execOp, ha.ev hx, Option.map_some, Option.map_none, ha.ev hl, ha.ev hh, Sem.run_bind, Instr.sliceAt, run_underlying ht]; simp only [Result.andThen_ok]
    simp [Instr.slice, Instr.sliceBounds, run_underlying ht, str, e1, P2 hlz hle, P2 hhz hle', bV]) k
end
abbrev asO (g : Nat) (l : Str) : Nat × Obj := (g, Obj.cells (asV l).toArray T.w8 (0, 0))
theorem idx_run (s : Str) (c : UInt8) (w : World) : (callFunc 103 [str s, Value.int .u8 (c.toNat : Int)].toArray).run Tryz.prog w = .ok (.value (int (Lib.indexByte s c))) w := by
  show (callFunc 103 #[str s, Value.int .u8 (c.toNat : Int)]).run Tryz.prog w = _; rw [run_callFunc_extern Tryz.func103 (by kernel_rfl) (by kernel_rfl) (by kernel_rfl) (e := Extern.BytealgIndexByte.indexByte) (by kernel_rfl)]; have h := Lib.run_indexByteString (P := Tryz.prog) ⟨s.toArray⟩ (c.toNat : Int) w; have e : ((c.toNat : Int).toNat).toUInt8 = c := by simp
  rw [e] at h; show Result.andThen (Sem.run Tryz.prog (Extern.BytealgIndexByte.indexByte #[.string ⟨s.toArray⟩, .int .u8 (c.toNat : Int)]) w) _ = _; rw [h]
  rfl
theorem v6 (s : Str) (c : UInt8) : Meets Tryz.prog F.u0 [str s, .int .u8 c.toNat] { val := fun _ : Unit => int (Lib.indexByte s c) } := by
 refine c1 F.L9 rfl j9 fun w0 => ?_; refine b7 (b4 rfl (j6 (a6 rfl (a6 rfl ?_)))); refine rB rfl rfl (idx_run s c) ?_; refine b4 rfl (a8 (g2 ?_)); exact ret1 () rfl rfl rfl trivial (.refl _) trivial
theorem Y4 (s : Str) (c : UInt8) : Meets Tryz.prog F.J8 [str s, .int .u8 c.toNat] { val := fun _ : Unit => int (Lib.indexByte s c) } := by
 refine c1 F.dM rfl j9 fun w0 => ?_; refine b7 (b4 rfl (j6 (a6 rfl (a6 rfl ?_)))); refine c8 F.z3 rfl rfl (v6 s c) k6 trivial fun _ _ => ?_; refine b4 rfl (a8 (g2 ?_)); exact ret1 () rfl rfl rfl trivial (.refl _) trivial
theorem L8 (s : Str) (b : UInt8) : Meets Tryz.prog F.y0 [str s, str [b]] { val := fun _ : Unit => int (Lib.indexByte s b) } := by
 refine c1 F.P8 rfl j9 fun w0 => ?_; refine b7 (b4 rfl (j6 (a6 rfl ?_))); refine p7 rfl T.j8 rfl ?_; refine b4 rfl (a8 (b8 (i8 (b7 (a6 rfl (t7 rfl rfl rfl (a6 rfl ?_))))))); refine k9 rfl rfl ?_ ?_
 ·intro hg1; have hg1' := hg1; try simp at hg1'
  refine d7 rfl rfl hg1 (a6 rfl (d7 rfl rfl hg1 (a6 rfl (d7 rfl rfl hg1 (W5 rfl rfl rfl ?_))))); refine p_f rfl rfl (bf1 hg1) rfl ?_; refine b4 rfl (a8 ?_)
  first | refine i4 rfl (fun hb1 => ?_) (fun hb1 => ?_) | refine c5 rfl (fun hb1 => ?_) (fun hb1 => ?_)
  ·have hb1' := hb1; try simp at hb1'
   have hb2 : [b] = s := by simpa using hb1
   refine b7 (b4 rfl (a8 (g2 (s8 ?_)))); exact ret1 () rfl (by subst hb2; simp [Lib.indexByte, lk]) rfl trivial (.refl _) trivial
  have hb1' := hb1; try simp at hb1'
  refine b7 (a6 rfl (t7 rfl rfl rfl (b4 rfl (a8 ?_)))); refine c_t rfl (by first | rfl | assumption | exact bt1 (by assumption) | exact bt2 (by assumption)) ?_; refine b7 (a6 rfl (a6 rfl ?_)); refine A4 0 rfl T.j8 rfl rfl rfl rfl ?_; refine c8 F.z3 rfl rfl (v6 s b) k6 trivial fun _ _ => ?_; refine b4 rfl (a8 (g2 (s8 ?_))); exact ret1 () rfl rfl rfl trivial (.refl _) trivial
 intro hg1; have hg1' := hg1; try simp at hg1'
theorem N6 (s : Str) (b : UInt8) (hs : s.length ≤ 1000000) : Meets Tryz.prog F.B2 [str s, str [b]] { val := fun _ : Unit => .tuple #[str (cutB b s).1, str (cutB b s).2.1, .bool (cutB b s).2.2] } := by
 have hI := L8 s b; have hC := R9 b s; generalize Lib.indexByte s b = z at hI hC; refine c1 F.U5 rfl j9 fun w0 => ?_; refine b7 (b4 rfl (b4 rfl (b4 rfl (a8 (b8 (b7 (a6 rfl (a6 rfl ?_)))))))); refine c8 F.O8 rfl rfl (hI) k6 trivial fun _ _ => ?_; refine b4 rfl (j6 (a6 rfl (iT rfl rfl rfl (a8 ?_))))
 first | refine i4 rfl (fun hb1 => ?_) (fun hb1 => ?_) | refine c5 rfl (fun hb1 => ?_) (fun hb1 => ?_)
 ·have hb1' := hb1; try simp at hb1'
  obtain ⟨i, rfl, hi, hcut, _⟩ : ∃ i : Nat, z = i ∧ i < s.length ∧ cutB b s = (s.take i, s.drop (i + 1), true) ∧ True := by
    rcases hC with ⟨h1, _⟩ | ⟨i, h1, h2, h3, _⟩
    · omega
    exact ⟨i, h1, h2, h3, trivial⟩
  refine b8 ?_; refine A8 10 mixed (by decide) (by decide) rfl rfl ?_; refine i7 (fun w1 => a6 rfl (q_z rfl)) ?_; refine i7 (fun w1 => a6 rfl (q_z rfl)) ?_; refine i7 (fun w1 => cC i rfl T.j8 rfl rfl rfl (by omega) (q_z rfl)) ?_; refine i7 (fun w1 => a6 rfl (q_z rfl)) ?_; refine i7 (fun w1 => a6 rfl (q_z rfl)) ?_; refine i7 (fun w1 => a6 rfl (q_z rfl)) ?_; refine i7 (fun w1 => p7 rfl T.j8 rfl (q_z rfl)) ?_; refine i7 (fun w1 => p9 ((i + 1 : Nat) : Int) rfl rfl rfl (by simp) n3 (q_z rfl)) ?_; refine i7 (fun w1 => V3 (i + 1) rfl T.j8 rfl rfl (by omega) (by omega) (q_z rfl)) ?_; refine i7 (fun w1 => b4 rfl (q_z rfl)) ?_; refine t6 ⟨rfl, ?_⟩; refine b4 rfl (b4 rfl (a8 (t5 ?_))); exact ret3 () rfl rfl rfl rfl (by rw [hcut] <;> rfl) rfl trivial (.refl _) trivial
 have hb1' := hb1; try simp at hb1'
 have hcut : cutB b s = (s, [], false) := by
   rcases hC with ⟨_, h2, _⟩ | ⟨i, h1, h2, h3, _⟩
   · exact h2
   omega
 refine c4 (c3 (b7 (a6 rfl (b4 rfl (b4 rfl (b4 rfl (a8 (g2 ?_)))))))); exact ret3 () rfl rfl rfl rfl (by rw [hcut] <;> rfl) rfl trivial (.refl _) trivial
theorem V1 (s : Str) (b : UInt8) (hs : s.length ≤ 1000000) : Meets Tryz.prog F.bU [str s, str [b]] { val := fun _ : Unit => .tuple #[str (cutB b s).1, str (cutB b s).2.1, .bool (cutB b s).2.2] } := by
 refine c1 F.pT rfl j9 fun w0 => ?_; refine b7 (b4 rfl (b4 rfl (b4 rfl (j6 (a6 rfl (a6 rfl ?_)))))); refine c8 F.R8 rfl rfl (N6 s b hs) k6 trivial fun _ _ => ?_; refine i9 rfl rfl rfl (i9 rfl rfl rfl (i9 rfl rfl rfl (b4 rfl (b4 rfl (b4 rfl (a8 (g2 ?_))))))); exact ret3 () rfl rfl rfl rfl rfl rfl trivial (.refl _) trivial
theorem B4 (g : Nat) (l : Str) (c : UInt8) : Meets Tryz.prog F.z5 [.pointer (i5 g), .int .u8 c.toNat] { LI := [Blk g (asO g l).2], val := fun _ : Unit => .bool (l.any fun x => x == c) } := by
 refine c1 F.R3 rfl j9 fun w0 => ?_; refine b7 (b4 rfl (j6 (a6 rfl (a6 rfl (d5 rfl rfl ?_))))); refine nG c.toNat c.toNat rfl T.S3 T.iP rfl rfl rfl c.toNat_lt (by simp) ?_; refine a4 (v := .bool (l.any fun x => x == c)) rfl T.aJ rfl (b9 m0 (by rw [List.getElem?_toArray]; exact tG l c)) ?_; refine b4 rfl (a8 (g2 ?_)); exact ret1 () rfl rfl rfl trivial (.refl _) trivial
theorem S6 (l : Str) (hl : ∀ c ∈ l, c.toNat < 128) (hn : l.length ≤ 1000000) : Meets Tryz.prog F.E4 [str l] { val := fun _ : Unit => .tuple #[.agg (asV l).toArray, .bool true] } := by
 refine c1 F.aN rfl j9 fun w0 => ?_; refine b7 ?_; refine p8 rfl (fun _ => T.Q8 _) fun g => ?_; refine jT (hp' := [asO g []]) (by kernel_rfl) ?_; refine b4 rfl (a8 (b8 (b7 (b4 rfl (a8 (i8 ?_)))))); refine s9 (β := Nat) ⟨fun k => k ≤ l.length, fun k => [(0, str l), (2, .pointer (i5 g)), (4, int k)], fun k => [asO g (l.take k)], fun _ => []⟩ (fun k => l.length - k) 0 (Nat.zero_le _) mC (.refl _) trivial fun k hk => ?_; refine b8 (b7 (a6 rfl (a6 rfl ?_))); refine p7 rfl T.j8 rfl ?_; refine r9 rfl rfl rfl (a8 ?_)
 first | refine i4 rfl (fun hb1 => ?_) (fun hb1 => ?_) | refine c5 rfl (fun hb1 => ?_) (fun hb1 => ?_)
 ·have hb1' := hb1; try simp at hb1'
  have hk1 : k < l.length := by omega
  have hc := hl l[k] (List.getElem_mem hk1); refine c4 (c3 (b8 (i8 (b7 (a6 rfl (a6 rfl ?_)))))); refine A4 k rfl T.j8 rfl rfl rfl (List.getElem?_eq_getElem hk1) ?_; refine b4 rfl (a8 (b8 (b7 (a6 rfl (iT rfl rfl rfl (a8 ?_))))))
  first | refine i4 rfl (fun hb2 => ?_) (fun hb2 => ?_) | refine c5 rfl (fun hb2 => ?_) (fun hb2 => ?_)
  ·exact absurd hb2 (by simp; omega)
  have hb2' := hb2; try simp at hb2'
  refine c4 (c3 (c7 (a6 rfl ?_))); refine nG (l[k]).toNat (l[k]).toNat rfl T.S3 T.iP rfl rfl rfl (l[k]).toNat_lt (by simp) ?_; refine n1 rfl rfl (.refl _) T.iP (by rw [List.getElem?_toArray]; exact tG _ _) (by rfl) ?_; refine jT (hp' := [asO g (l.take (k + 1))]) (by show [(g, Obj.cells (((asV (l.take k)).toArray).setIfInBounds (l[k]).toNat (Value.bool true)) T.w8 (0, 0))] = [(g, Obj.cells (asV (l.take (k + 1))).toArray T.w8 (0, 0))]; rw [List.take_succ_eq_append_getElem hk1, ← asV_set]; simp) ?_; refine b5 (q6 (c3 (c7 (a6 rfl ?_)))); refine p9 _ rfl rfl rfl rfl n3 ?_; refine b4 rfl (b5 ?_); exact again _ (k + 1) (by show k + 1 ≤ l.length; omega) (z4 (by omega)) mC (.refl _) trivial
 have hb1' := hb1; try simp at hb1'
 have hk1 : k = l.length := by omega
 subst hk1; refine n5 (A3 (n4 (c3 (b8 ?_)))); refine I5 (hp' := [asO g l]) (show List.Perm [asO g (l.take l.length)] [asO g l] by rw [List.take_length]) ?_; refine c7 ?_; refine t9 rfl T.O6 T.B5 rfl m0 (by simp [tF]) ?_; refine l5 (cs := (asV l).toArray) rfl rfl (.refl _) T.B5 (by rfl) (asV_one l) ?_; refine b4 rfl (a8 (g2 ?_)); exact w5 () rfl rfl rfl T.O6 T.B5 (by simp [tF]) m0 rfl rfl trivial i2 trivial
theorem R2 (g : Nat) (l s : Str) (hs : s.length ≤ 1000000) : Meets Tryz.prog F.D7 [str s, .pointer (i5 g)] { LI := [Blk g (asO g l).2], val := fun _ : Unit => str (trimL (fun c => l.any fun x => x == c) s) } := by
 refine c1 F.Y2 rfl j9 fun w0 => ?_; refine b7 (b4 rfl (a8 (b8 (i8 ?_)))); refine s9 (β := Str) ⟨fun q => q.length ≤ 1000000 ∧ trimL (fun c => l.any fun x => x == c) q = trimL (fun c => l.any fun x => x == c) s, fun q => [(0, str q), (1, .pointer (i5 g))], fun _ => [], fun _ => [Blk g (asO g l).2]⟩ (fun q => q.length) s ⟨hs, rfl⟩ mC (.refl _) mC fun q hq => ?_; obtain ⟨hq1, hq2⟩ := hq; refine b8 (b7 (a6 rfl ?_)); refine p7 rfl T.j8 rfl ?_; refine A5 rfl rfl rfl (a8 ?_)
 first | refine i4 rfl (fun hb1 => ?_) (fun hb1 => ?_) | refine c5 rfl (fun hb1 => ?_) (fun hb1 => ?_)
 ·have hb1' := hb1; try simp at hb1'
  have hq3 : 0 < q.length := by omega
  refine c4 (c3 (i8 (b8 (b7 (a6 rfl (a6 rfl ?_)))))); refine A4 0 rfl T.j8 rfl rfl rfl (List.getElem?_eq_getElem hq3) ?_; refine c8 F.D0 rfl rfl (B4 g l q[0]) k6 mC fun _ _ => ?_; refine iR rfl rfl (a8 ?_)
  first | refine i4 rfl (fun hb2 => ?_) (fun hb2 => ?_) | refine c5 rfl (fun hb2 => ?_) (fun hb2 => ?_)
  ·have hb2' := hb2; try simp at hb2'
   have hq4 : (fun c => l.any fun x => x == c) q[0] = false := by simpa using hb2
   have hq5 : trimL (fun c => l.any fun x => x == c) q = q := yZ (p := (fun c => l.any fun x => x == c)) hq3 hq4; refine n5 (w7 (P0 rfl (w7 (n4 (c3 (b7 (a6 rfl (b4 rfl (a8 ?_))))))))); refine g2 ?_; exact ret1 () rfl (by rw [← hq2, hq5]; rfl) rfl trivial (.refl _) trivial
  have hb2' := hb2; try simp at hb2'
  have hq4 : (fun c => l.any fun x => x == c) q[0] = true := by simpa using hb2
  refine c4 (c3 (c7 (a6 rfl ?_))); refine V3 1 rfl T.j8 rfl rfl (by rfl) (by omega) ?_; refine b4 rfl (b5 (q6 ?_)); exact again _ (q.drop 1) ⟨by rw [List.length_drop]; omega, by rw [← hq2]; exact xD (p := (fun c => l.any fun x => x == c)) hq3 hq4⟩ (by show (q.drop 1).length < q.length; rw [List.length_drop]; omega) mC (.refl _) mC
 have hb1' := hb1; try simp at hb1'
 have hq0 : q = [] := List.eq_nil_of_length_eq_zero (by omega); have hq5 : trimL (fun c => l.any fun x => x == c) q = q := by rw [hq0]; rfl
 refine n5 (A3 (n4 (c3 (b7 (a6 rfl (b4 rfl (a8 (g2 ?_)))))))); exact ret1 () rfl (by rw [← hq2, hq5]; rfl) rfl trivial (.refl _) trivial
theorem P3 (g : Nat) (l s : Str) (hs : s.length ≤ 1000000) : Meets Tryz.prog F.C2 [str s, .pointer (i5 g)] { LI := [Blk g (asO g l).2], val := fun _ : Unit => str (trimR (fun c => l.any fun x => x == c) s) } := by
 refine c1 F.W1 rfl j9 fun w0 => ?_; refine b7 (b4 rfl (a8 (b8 (i8 ?_)))); refine s9 (β := Str) ⟨fun q => q.length ≤ 1000000 ∧ trimR (fun c => l.any fun x => x == c) q = trimR (fun c => l.any fun x => x == c) s, fun q => [(0, str q), (1, .pointer (i5 g))], fun _ => [], fun _ => [Blk g (asO g l).2]⟩ (fun q => q.length) s ⟨hs, rfl⟩ mC (.refl _) mC fun q hq => ?_; obtain ⟨hq1, hq2⟩ := hq; refine b8 (b7 (a6 rfl ?_)); refine p7 rfl T.j8 rfl ?_; refine A5 rfl rfl rfl (a8 ?_)
 first | refine i4 rfl (fun hb1 => ?_) (fun hb1 => ?_) | refine c5 rfl (fun hb1 => ?_) (fun hb1 => ?_)
 ·have hb1' := hb1; try simp at hb1'
  have hq3 : 0 < q.length := by omega
  refine c4 (c3 (i8 (b8 (b7 (a6 rfl (a6 rfl (a6 rfl ?_))))))); refine p7 rfl T.j8 rfl (bE ((q.length - 1 : Nat) : Int) rfl rfl rfl (by omega) n3 ?_); refine A4 (q.length - 1) rfl T.j8 rfl rfl rfl (List.getElem?_eq_getElem (by omega)) ?_; refine c8 F.D0 rfl rfl (B4 g l (q[q.length - 1]'(by omega))) k6 mC fun _ _ => ?_; refine iR rfl rfl (a8 ?_)
  first | refine i4 rfl (fun hb2 => ?_) (fun hb2 => ?_) | refine c5 rfl (fun hb2 => ?_) (fun hb2 => ?_)
  ·have hb2' := hb2; try simp at hb2'
   have hq4 : (fun c => l.any fun x => x == c) (q[q.length - 1]'(by omega)) = false := by simpa using hb2
   have hq5 : trimR (fun c => l.any fun x => x == c) q = q := yX (p := (fun c => l.any fun x => x == c)) hq3 hq4; refine n5 (w7 (P0 rfl (w7 (n4 (c3 (b7 (a6 rfl (b4 rfl (a8 ?_))))))))); refine g2 ?_; exact ret1 () rfl (by rw [← hq2, hq5]; rfl) rfl trivial (.refl _) trivial
  have hb2' := hb2; try simp at hb2'
  have hq4 : (fun c => l.any fun x => x == c) (q[q.length - 1]'(by omega)) = true := by simpa using hb2
  refine c4 (c3 (c7 (a6 rfl (a6 rfl ?_)))); refine p7 rfl T.j8 rfl (bE ((q.length - 1 : Nat) : Int) rfl rfl rfl (by omega) n3 (cC (q.length - 1) rfl T.j8 rfl rfl rfl (by omega) ?_)); refine b4 rfl (b5 (q6 ?_)); exact again _ (q.take (q.length - 1)) ⟨by rw [List.length_take]; omega, by rw [← hq2]; exact xC (p := (fun c => l.any fun x => x == c)) hq3 hq4⟩ (by show (q.take (q.length - 1)).length < q.length; rw [List.length_take]; omega) mC (.refl _) mC
 have hb1' := hb1; try simp at hb1'
 have hq0 : q = [] := List.eq_nil_of_length_eq_zero (by omega); have hq5 : trimR (fun c => l.any fun x => x == c) q = q := by rw [hq0]; rfl
 refine n5 (A3 (n4 (c3 (b7 (a6 rfl (b4 rfl (a8 (g2 ?_)))))))); exact ret1 () rfl (by rw [← hq2, hq5]; rfl) rfl trivial (.refl _) trivial
theorem S7 (s : Str) (hs : s.length ≤ 1000000) : Meets Tryz.prog F.aO [str s, str D10] { val := fun _ : Unit => str (trimL isDig (trimR isDig s)) } := by
 have hf : (fun c : UInt8 => D10.any fun x => x == c) = isDig := funext any_dig; refine c1 F.mY rfl j9 fun w0 => ?_; refine b7 (b4 rfl (a8 (b8 (b7 (a6 rfl (W5 rfl rfl rfl (a6 rfl ?_))))))); refine k9 rfl rfl ?_ ?_
 ·intro hg1; have hg1' := hg1; try simp at hg1'
  refine d7 rfl rfl hg1 (a6 rfl (d7 rfl rfl hg1 (W5 rfl rfl rfl ?_))); refine p_f rfl rfl (bf1 hg1) rfl ?_; refine a8 ?_
  first | refine i4 rfl (fun hb1 => ?_) (fun hb1 => ?_) | refine c5 rfl (fun hb1 => ?_) (fun hb1 => ?_)
  ·exact absurd hb1 (by decide)
  have hb1' := hb1; try simp at hb1'
  refine c4 (c3 (b8 (b7 (a6 rfl ?_)))); refine p7 rfl T.j8 rfl ?_; refine t7 rfl rfl rfl (a6 rfl ?_); refine k9 rfl rfl ?_ ?_
  ·intro hg2; have hg2' := hg2; try simp at hg2'
   exact absurd hg2 (by decide)
  intro hg2; have hg2' := hg2; try simp at hg2'
  refine k4 rfl rfl rfl rfl rfl hg2 (k4 rfl rfl rfl rfl rfl hg2 (k4 rfl rfl rfl rfl rfl hg2 ?_)); refine p_f rfl rfl (bf2 hg2) rfl ?_; refine a8 (c_f rfl rfl (c4 (c3 (b8 (b7 (a6 rfl ?_)))))); refine c8 F.Y3 rfl rfl (S6 D10 (by decide) (by decide)) k6 trivial fun _ _ => ?_; refine a6 rfl (i9 rfl rfl rfl (i9 rfl rfl rfl ?_)); refine p8 rfl (fun _ => T.Q8 _) fun g => ?_; refine l5 (cs := (asV D10).toArray) rfl rfl (.refl _) T.B5 (by rfl) (by kernel_rfl) ?_; refine xW (b4 rfl (j6 (a6 rfl (a8 ?_)))); refine c_t rfl (by first | rfl | assumption | exact bt1 (by assumption) | exact bt2 (by assumption)) ?_; refine b7 (a6 rfl ?_); refine c8 F.U7 rfl rfl (P3 g D10 s hs) k6 mC fun _ _ => ?_; refine c8 F.W3 rfl rfl (R2 g D10 (trimR (fun c => D10.any fun x => x == c) s) (by have := yY (fun c => D10.any fun x => x == c) s; omega)) k6 mC fun _ _ => ?_; refine b4 rfl (a8 (t5 ?_)); exact ret1 () rfl (by rw [hf]; rfl) rfl trivial (.refl _) trivial
 intro hg1; have hg1' := hg1; try simp at hg1'
 refine k4 rfl rfl rfl rfl rfl hg1 (k4 rfl rfl rfl rfl rfl hg1 ?_); refine p_t rfl rfl (bt2 hg1) rfl ?_; refine a8 (c_t rfl rfl (b7 (a6 rfl (b4 rfl (a8 (t5 ?_)))))); have hb2 : s = [] := by simpa using hg1
 exact ret1 () rfl (by subst hb2; rfl) rfl trivial (.refl _) trivial
end Go.Proofs.YtegfgegnhjkcfaaGreatDoor
end
section
namespace Go.Proofs.YtegfgegnhjkcfaaGreatDoor
open Go Go.W
set_option maxRecDepth 20000
attribute [local irreducible] HL HC HQ HB Row Rows2 Blk Facts
def digS : Str := [48, 49, 50, 51, 52, 53, 54, 55, 56, 57, 97, 98, 99, 100, 101, 102, 103, 104, 105, 106, 107, 108, 109, 110, 111, 112, 113, 114, 115, 116, 117, 118, 119, 120, 121, 122]
def prsS : Str := [48, 48, 48, 49, 48, 50, 48, 51, 48, 52, 48, 53, 48, 54, 48, 55, 48, 56, 48, 57, 49, 48, 49, 49, 49, 50, 49, 51, 49, 52, 49, 53, 49, 54, 49, 55, 49, 56, 49, 57, 50, 48, 50, 49, 50, 50, 50, 51, 50, 52, 50, 53, 50, 54, 50, 55, 50, 56, 50, 57, 51, 48, 51, 49, 51, 50, 51, 51, 51, 52, 51, 53, 51, 54, 51, 55, 51, 56, 51, 57, 52, 48, 52, 49, 52, 50, 52, 51, 52, 52, 52, 53, 52, 54, 52, 55, 52, 56, 52, 57, 53, 48, 53, 49, 53, 50, 53, 51, 53, 52, 53, 53, 53, 54, 53, 55, 53, 56, 53, 57, 54, 48, 54, 49, 54, 50, 54, 51, 54, 52, 54, 53, 54, 54, 54, 55, 54, 56, 54, 57, 55, 48, 55, 49, 55, 50, 55, 51, 55, 52, 55, 53, 55, 54, 55, 55, 55, 56, 55, 57, 56, 48, 56, 49, 56, 50, 56, 51, 56, 52, 56, 53, 56, 54, 56, 55, 56, 56, 56, 57, 57, 48, 57, 49, 57, 50, 57, 51, 57, 52, 57, 53, 57, 54, 57, 55, 57, 56, 57, 57]
def itoaZ (z : Int) : Str := if z < 10 then (digS.drop z.toNat).take 1 else (prsS.drop (2 * z.toNat)).take 2
theorem uN (z : Int) : (itoaZ z).length ≤ 2 := by
  unfold itoaZ
  split <;> simp only [List.length_take] <;> omega
def numV (l : Str) : Int := l.foldl (fun n c => n * 10 + ((c.toNat : Int) - 48)) 0
def numOK (t : Str) : Bool := decide (t.length = 1 ∨ t.length = 2 ∧ ¬ t[0]? = some 48) && t.all isDig
def numS (t : Str) : Option Int := if numOK t then some (numV t) else none
theorem dB {c : UInt8} (h : isDig c = true) : 48 ≤ c.toNat ∧ c.toNat ≤ 57 := by
  unfold isDig at h
  simpa using h
theorem xN {l : Str} {k : Nat} (hk : k < l.length) : numV (l.take (k + 1)) = numV (l.take k) * 10 + ((l[k].toNat : Int) - 48) := by
  rw [List.take_succ_eq_append_getElem hk]; unfold numV; rw [List.foldl_append]
  rfl
theorem wS {l : Str} (h : l.all isDig = true) (h2 : l.length ≤ 2) : 0 ≤ numV l ∧ numV l ≤ 99 := by
  unfold numV
  match l, h2 with
  | [], _ => simp
  | [a], _ => simp at h; have := dB h; simp; omega
  | [a, b], _ => simp at h; have h1 := dB h.1; have h3 := dB h.2; simp; omega
  | a :: b :: c :: r, h2 => simp at h2
theorem jG {l : Str} (h : l.all isDig = true) (h2 : l.length ≤ 2) (k : Nat) : 0 ≤ numV (l.take k) ∧ numV (l.take k) ≤ 99 := by
  refine wS ?_ (by rw [List.length_take]; omega); rw [List.all_eq_true] at h ⊢; exact fun x hx => h x (List.mem_of_mem_take hx)
theorem sB : (List.range 100).all (fun n => numOK (itoaZ n) && decide (numV (itoaZ n) = n) && decide (itoaZ n ≠ []) && (itoaZ n).all isDig) = true := by kernel_rfl
theorem uC {z : Int} (h0 : 0 ≤ z) (h : z < 100) : numS (itoaZ z) = some z ∧ itoaZ z ≠ [] ∧ (itoaZ z).all isDig = true := by
  obtain ⟨n, rfl⟩ := Int.eq_ofNat_of_zero_le h0; have := List.all_eq_true.1 sB n (List.mem_range.2 (by omega)); simp only [Bool.and_eq_true, decide_eq_true_eq] at this; obtain ⟨⟨⟨h1, h2⟩, h3⟩, h4⟩ := this; exact ⟨by unfold numS; rw [if_pos h1, h2], h3, h4⟩
theorem aj0 {t : Str} {z : Int} (h : numS t = some z) : itoaZ z = t ∧ 0 ≤ z ∧ z ≤ 99 := by
  unfold numS at h
  split at h
  · rename_i h1
    simp only [Option.some.injEq] at h; subst h; unfold numOK at h1; rw [Bool.and_eq_true, decide_eq_true_eq] at h1; obtain ⟨h1, h2⟩ := h1; have hl : t.length ≤ 2 := by rcases h1 with h | h <;> omega
    refine ⟨?_, wS h2 hl⟩
    rcases h1 with h1 | ⟨h1, h3⟩
    · match t, h1 with
      | [a], _ =>
        simp at h2
        have hb := dB h2; have hc : a = UInt8.ofNat a.toNat := by simp
        have : a.toNat = 48 ∨ a.toNat = 49 ∨ a.toNat = 50 ∨ a.toNat = 51 ∨ a.toNat = 52 ∨ a.toNat = 53 ∨ a.toNat = 54 ∨ a.toNat = 55 ∨ a.toNat = 56 ∨ a.toNat = 57 := by omega
        rcases this with e | e | e | e | e | e | e | e | e | e <;> (rw [e] at hc; rw [hc]; rfl)
    match t, h1 with
    | [a, b], _ =>
      simp at h2 h3
      have hb := dB h2.1; have hb2 := dB h2.2; have ea : a = UInt8.ofNat a.toNat := by simp
      have eb : b = UInt8.ofNat b.toNat := by simp
      have hne : a.toNat ≠ 48 := fun e => h3 (by rw [ea, e]; rfl); have hall : (List.range 100).all (fun n => decide (n < 10) || decide (itoaZ n = [UInt8.ofNat (48 + n / 10), UInt8.ofNat (48 + n % 10)])) = true := by kernel_rfl
      have h5 := List.all_eq_true.1 hall (10 * (a.toNat - 48) + (b.toNat - 48)) (List.mem_range.2 (by omega)); simp only [Bool.or_eq_true, decide_eq_true_eq] at h5
      rcases h5 with h5 | h5
      · omega
      have e1 : numV [a, b] = ((10 * (a.toNat - 48) + (b.toNat - 48) : Nat) : Int) := by unfold numV; simp; omega
      rw [e1, h5]; have e2 : 48 + (10 * (a.toNat - 48) + (b.toNat - 48)) / 10 = a.toNat := by omega
      have e3 : 48 + (10 * (a.toNat - 48) + (b.toNat - 48)) % 10 = b.toNat := by omega
      rw [e2, e3, ← ea, ← eb]
  cases h
theorem tS (z : Int) (h0 : 0 ≤ z) (h : z < 100) : Meets Tryz.prog F.C7 [int z] { val := fun _ : Unit => str (itoaZ z) } := by
 refine c1 F.X3 rfl j9 fun w0 => ?_; refine b7 (b4 rfl (a8 (b8 (b7 (a6 rfl (r9 rfl rfl rfl (a8 ?_)))))))
 first | refine i4 rfl (fun hb1 => ?_) (fun hb1 => ?_) | refine c5 rfl (fun hb1 => ?_) (fun hb1 => ?_)
 ·have hb1' := hb1; try simp at hb1'
  refine b7 (a6 rfl (a6 rfl ?_)); refine p9 _ rfl rfl rfl rfl n3 ?_; refine cB (s := digS) z.toNat (z.toNat + 1) rfl T.j8 (by kernel_rfl) rfl (by omega) rfl (by omega) (Nat.le_succ _) (by show z.toNat + 1 ≤ 36; omega) ?_; refine b4 rfl (a8 (t5 ?_)); exact ret1 () rfl (by show some (str ((digS.drop z.toNat).take (z.toNat + 1 - z.toNat))) = some (str (itoaZ z)); rw [itoaZ, if_pos hb1, Nat.add_sub_cancel_left]) rfl trivial i2 trivial
 have hb1' := hb1; try simp at hb1'
 refine c4 (c3 (b7 (a6 rfl ?_))); refine zK _ rfl rfl rfl rfl n3 (a6 rfl (zK _ rfl rfl rfl rfl n3 (p9 _ rfl rfl rfl rfl n3 ?_))); refine cB (s := prsS) (2 * z.toNat) (2 * z.toNat + 2) rfl T.j8 (by kernel_rfl) rfl (by omega) rfl (by omega) (Nat.le_add_right _ _) (by show 2 * z.toNat + 2 ≤ 200; omega) ?_; refine b4 rfl (a8 (g2 ?_)); exact ret1 () rfl (by show some (str ((prsS.drop (2 * z.toNat)).take (2 * z.toNat + 2 - 2 * z.toNat))) = some (str (itoaZ z)); rw [itoaZ, if_neg (by omega), Nat.add_sub_cancel_left]) rfl trivial i2 trivial
theorem mG (z : Int) (h0 : 0 ≤ z) (h : z < 100) : Meets Tryz.prog F.y4 [int z, int 10] { val := fun _ : Unit => str (itoaZ z) } := by
 refine c1 F.P9 rfl j9 fun w0 => ?_; refine b7 (b4 rfl (a8 (b8 (b7 (a6 rfl (t7 rfl rfl rfl (a8 ?_))))))); refine c_t rfl (by first | rfl | assumption | exact bt1 (by assumption) | exact bt2 (by assumption)) ?_; refine b8 (b7 (a6 rfl (r_leq rfl rfl rfl (a6 rfl ?_)))); refine k9 rfl rfl ?_ ?_
 ·intro hg1; have hg1' := hg1; try simp at hg1'
  refine d7 rfl rfl hg1 (a6 rfl (d7 rfl rfl hg1 (r9 rfl rfl rfl ?_))); refine p_t rfl rfl (bt1 hg1) rfl ?_; refine a8 ?_
  first | refine i4 rfl (fun hb2 => ?_) (fun hb2 => ?_) | refine c5 rfl (fun hb2 => ?_) (fun hb2 => ?_)
  ·have hb2' := hb2; try simp at hb2'
   refine b7 (a6 rfl ?_); refine c8 F.U9 rfl rfl (tS z h0 h) k6 trivial fun _ _ => ?_; refine b4 rfl (a8 (t5 (k5 ?_))); exact ret1 () rfl rfl rfl trivial i2 trivial
  exact absurd h (by omega)
 intro hg1; have hg1' := hg1; try simp at hg1'
 exact absurd h0 (by omega)
theorem uO (z : Int) (h0 : 0 ≤ z) (h : z < 100) : Meets Tryz.prog F.D8 [int z] { val := fun _ : Unit => str (itoaZ z) } := by
 refine c1 F.aE rfl j9 fun w0 => ?_; refine b7 (b4 rfl (j6 (a6 rfl ?_))); refine c8 F.O9 rfl rfl (mG z h0 h) k6 trivial fun _ _ => ?_; refine b4 rfl (a8 (g2 ?_)); exact ret1 () rfl rfl rfl trivial i2 trivial
theorem vV (z : Int) (h : 0 ≤ z ∧ z < 100) : Meets Tryz.prog F.aP [int z] { val := fun _ : Unit => str (itoaZ z) } := by
 refine c1 F.mZ rfl j9 fun w0 => ?_; refine b7 (b4 rfl (j6 (a6 rfl ?_))); refine c8 F.X4 rfl rfl (uO z h.1 h.2) k6 trivial fun _ _ => ?_; refine b4 rfl (a8 (g2 ?_)); exact ret1 () rfl rfl rfl trivial i2 trivial
theorem uW (t : Str) (hl : 0 < t.length ∧ t.length ≤ 2) (hd : t.all isDig = true) : Meets Tryz.prog F.D9 [str t] { val := fun _ : Unit => .tuple #[int (numV t), .nilIface] } := by
 have h0 := dB (List.all_eq_true.1 hd _ (List.getElem_mem hl.1)); refine c1 F.aF rfl j9 fun w0 => ?_; refine b7 (b4 rfl (b4 rfl (j6 (a6 rfl ?_)))); refine p7 rfl T.j8 rfl ?_; refine b4 rfl (a8 (b8 (b7 (a6 rfl (k4 rfl rfl rfl rfl rfl rfl (k4 rfl rfl rfl rfl rfl rfl (k4 rfl rfl rfl rfl rfl rfl (gQ rfl rfl rfl rfl rfl rfl (gQ rfl rfl rfl rfl rfl rfl ?_))))))))); refine k4 rfl rfl rfl rfl rfl rfl (p_f rfl rfl rfl rfl (a6 rfl (d7 rfl rfl rfl (a6 rfl (d7 rfl rfl rfl (a6 rfl (d7 rfl rfl rfl (r9 rfl rfl rfl (d7 rfl rfl rfl (a6 rfl ?_)))))))))); refine k9 rfl rfl ?_ ?_
 ·intro hg1; have hg1' := hg1; try simp at hg1'
  refine d7 rfl rfl hg1 (a6 rfl (d7 rfl rfl hg1 (r9 rfl rfl rfl (d7 rfl rfl rfl ?_)))); refine p_t rfl rfl (bt1 hg1) rfl ?_; refine d7 rfl rfl rfl (p_t rfl rfl rfl rfl (p_f rfl rfl rfl rfl (a8 ?_)))
  first | refine i4 rfl (fun hb1 => ?_) (fun hb1 => ?_) | refine c5 rfl (fun hb1 => ?_) (fun hb1 => ?_)
  ·have hb1' := hb1; try simp at hb1'
   refine b7 (a6 rfl (b4 rfl (a8 (b8 (b7 (a6 rfl ?_)))))); refine A4 0 rfl T.j8 rfl rfl rfl (List.getElem?_eq_getElem hl.1) ?_; refine t7 rfl rfl rfl (a6 rfl ?_); refine k9 rfl rfl ?_ ?_
   ·intro hg2; have hg2' := hg2; try simp at hg2'
    refine d7 rfl rfl hg2 (a6 rfl (d7 rfl rfl hg2 ?_)); refine A4 0 rfl T.j8 rfl rfl rfl (List.getElem?_eq_getElem hl.1) ?_; refine d7 rfl rfl hg2 (t7 rfl rfl rfl ?_); refine p_f rfl rfl (bf1 hg2) rfl ?_; refine a8 ?_
    first | refine i4 rfl (fun hb2 => ?_) (fun hb2 => ?_) | refine c5 rfl (fun hb2 => ?_) (fun hb2 => ?_)
    ·omega
    have hb2' := hb2; try simp at hb2'
    refine c4 (c3 (b7 (b4 rfl (a8 (b8 (b7 (a6 rfl ?_))))))); refine wR rfl T.j8 T.J2 T.u_u8 rfl fun gb cap => ?_; refine j0 rfl T.J2 rfl ?_; refine a6 rfl (a8 (i8 ?_)); refine s9 (β := Nat) ⟨fun k => k ≤ t.length, fun k => [(0, str t), (5, str t), (6, int (numV (t.take k))), (47, .slice (i5 gb) t.length cap), (48, int t.length), (49, int k)], fun _ => [], fun _ => [Row (i5 gb) (rows t)]⟩ (fun k => t.length - k) 0 (Nat.zero_le _) mC i2 mC fun k hk => ?_; have hb := jG hd hl.2 k; refine b7 (r9 rfl rfl rfl (a8 (b8 ?_)))
    first | refine i4 rfl (fun hb4 => ?_) (fun hb4 => ?_) | refine c5 rfl (fun hb4 => ?_) (fun hb4 => ?_)
    ·have hb4' := hb4; try simp at hb4'
     have hk1 : k < t.length := by omega
     have hdk := dB (List.all_eq_true.1 hd _ (List.getElem_mem hk1)); refine c4 (c3 (b8 (i8 (b7 ?_)))); refine r6 (α := UInt8) _ _ rfl T.J2 T.sz_u8 rfl rfl rfl mB rfl (by omega) (by decide) ?_; refine a4 rfl T.wY rfl (b6 m0 (a7 hk1 (by rw [y8 hk1]; rfl))) ?_; refine b4 rfl (j6 (a6 rfl ?_)); refine B6 (.int .u8 ((t[k].toNat : Int) - 48)) rfl rfl rfl (fun _ => rfl) (fun w => by show Result.ok (Value.int .u8 (IntKind.u8.wrap ((t[k].toNat : Int) - 48))) w = _; rw [IntWalk.u8_in _ (by omega)]) ?_; refine b4 rfl (a8 (b8 (b7 (a6 rfl (A5 rfl rfl rfl (a8 ?_))))))
     first | refine i4 rfl (fun hb5 => ?_) (fun hb5 => ?_) | refine c5 rfl (fun hb5 => ?_) (fun hb5 => ?_)
     ·omega
     have hb5' := hb5; try simp at hb5'
     refine c4 (c3 (c7 (a6 rfl ?_))); refine zK (numV (t.take k) * 10) rfl rfl rfl rfl n3 (a6 rfl (rU ((t[k].toNat : Int) - 48) rfl T.u_u8 T.qS rfl (IntWalk.i64_in _ (by omega)) ?_)); refine p9 (numV (t.take (k + 1))) rfl rfl rfl (xN hk1).symm (by have := jG hd hl.2 (k + 1); unfold I64; omega) ?_; refine b4 rfl (b5 (q6 (c3 (c7 ?_)))); refine p9 _ rfl rfl rfl rfl n3 ?_; refine a6 rfl (b5 ?_); exact again _ (k + 1) (by show k + 1 ≤ t.length; omega) (z4 (by omega)) mC i2 mC
    have hb4' := hb4; try simp at hb4'
    have hk1 : k = t.length := by omega
    subst hk1; refine n5 (A3 (n4 (c3 (b8 (b7 (a6 rfl ?_)))))); refine A4 0 rfl T.j8 rfl rfl rfl (List.getElem?_eq_getElem hl.1) ?_; refine t7 rfl rfl rfl (a8 ?_)
    first | refine i4 rfl (fun hb6 => ?_) (fun hb6 => ?_) | refine c5 rfl (fun hb6 => ?_) (fun hb6 => ?_)
    ·omega
    have hb6' := hb6; try simp at hb6'
    refine c4 (c3 (b7 (a6 rfl (b4 rfl (b4 rfl (a8 (t5 ?_))))))); exact ret2 () rfl rfl rfl (by rw [List.take_length]) rfl trivial i2 trivial
   intro hg2; have hg2' := hg2; try simp at hg2'
   all_goals omega
  omega
 intro hg1; have hg1' := hg1; try simp at hg1'
 exact absurd hg1 (by rw [decide_eq_true (show (0 : Int) < (t.length : Int) by omega)]; decide)
theorem pN (t : Str) (hl : 0 < t.length ∧ t.length ≤ 2) (hd : t.all isDig = true) : Meets Tryz.prog F.aQ [str t] { val := fun _ : Unit => .tuple #[int (numV t), .nilIface] } := by
 refine c1 F.nA rfl j9 fun w0 => ?_; refine b7 (b4 rfl (b4 rfl (j6 (a6 rfl ?_)))); refine c8 F.X5 rfl rfl (uW t hl hd) k6 trivial fun _ _ => ?_; refine a6 rfl (i9 rfl rfl rfl (i9 rfl rfl rfl (b4 rfl (b4 rfl (a8 (b8 (b7 (a6 rfl ?_)))))))); refine B6 (.bool false) rfl rfl rfl (fun _ => rfl) (fun _ => rfl) ?_; refine a8 ?_; refine c_f rfl (by first | rfl | assumption | exact bf1 (by assumption) | exact bf2 (by assumption)) ?_; refine c4 (c3 (b7 (a6 rfl (b4 rfl (b4 rfl (a8 (g2 ?_))))))); exact ret2 () rfl rfl rfl rfl rfl trivial i2 trivial
end Go.Proofs.YtegfgegnhjkcfaaGreatDoor
end
section
namespace Go.Proofs.YtegfgegnhjkcfaaGreatDoor
open Go Go.W
set_option maxRecDepth 20000
attribute [local irreducible] HL HC HQ HB Row Rows2 Blk Facts
def pressO (g : Nat) (o : OutC) (lines : List Str) (nx : Int) : Nat × Obj := (g, .cells #[.slice o.1 lines.length o.2, int nx] T.V4 (0, 0))
def deedL (m : Mk) (lines : List Str) : List Str := if m.1 = 3 then lines else lines ++ [m.2.2]
def deedN (m : Mk) (nx : Int) : Int := if m.1 = 1 then nx else m.2.1 + 1
abbrev GrowS (o : OutC) (l : List Str) (og : Hp) : Prop := Grow T.string 1 o.1 l.length o.2 (rows l) og
def deedCon (g : Nat) (o : OutC) (og : Hp) (lines : List Str) (nx : Int) (m : Mk) : Con (OutC × Hp) :=
  { hpI := pressO g o lines nx :: og, inv := fun x => GrowS x.1 (deedL m lines) x.2, val := fun _ => .tuple #[], hpO := fun x => pressO g x.1 (deedL m lines) (deedN m nx) :: x.2 }
theorem hU {α : Type} (l : List α) (a b : α) : (l ++ [a, b]).Perm (b :: (l ++ [a])) := by
  have : l ++ [a, b] = (l ++ [a]) ++ [b] := by simp
  rw [this]; exact List.perm_append_comm
theorem vQ {α : Type} (l : List α) (a : α) : (l ++ [a]).Perm (a :: l) := List.perm_append_comm
theorem l6 {α : Type} (l : List α) (a : α) : (l ++ [a]).length = l.length + 1 := by simp
theorem dZ {g : Nat} {o : OutC} {og : Hp} {lines : List Str} {nx : Int} (m : Mk) (hG : GrowS o lines og) (hl : lines.length ≤ 1000) (hk : m.1 = 1) : Meets Tryz.prog F.H8 [.pointer (i5 g), .agg #[int m.1, int m.2.1, str m.2.2]] (deedCon g o og lines nx m) := by
 have eL : deedL m lines = lines ++ [m.2.2] := by simp [deedL, hk]
 have eN : deedN m nx = nx := by simp [deedN, hk]
 unfold deedCon; rw [eL, eN]; unfold pressO GrowS; rw [l6]; refine c1 F.lV rfl j9 fun w0 => ?_; refine b7 ?_; refine H5 rfl rfl fun gB => ?_; refine a8 ?_; refine G1 (og) ([_, _]) (List.perm_append_comm (l₁ := [_, _])) 9 [8] mixed (by decide) (by decide) (by decide) rfl rfl rfl (i7 (fun w1 => a6 rfl (q_z rfl)) (i7 (fun w1 => a6 rfl (q_z rfl)) (i7 (fun w1 => d5 rfl rfl (q_z rfl)) ?_)))
 apply j4 _ rfl rfl rfl
 ·intro w1
  first | refine a3 ⟨_, 0, none⟩ rfl rfl T.l8 rfl ?_ | refine a3 _ rfl rfl T.l8 rfl ?_
  refine b5 ?_; exact d8 rfl
 apply j4 _ rfl rfl rfl
 ·intro w1
  first | refine a4 rfl T.d9 rfl (b9 mB rfl) ?_ | refine a4 rfl T.d9 rfl (a9 mB rfl) ?_ | refine a4 rfl T.d9 rfl (b6 mB (a7 (by omega) rfl)) ?_ | refine a4 rfl T.d9 rfl (b3 mB (rows_get (by omega) rfl)) ?_
  refine b5 ?_; exact d8 rfl
 apply j4 _ rfl rfl rfl
 ·intro w1
  first | refine a3 ⟨_, 2, none⟩ rfl rfl T.k7 rfl ?_ | refine a3 _ rfl rfl T.k7 rfl ?_
  refine b5 ?_; exact d8 rfl
 apply j4 _ rfl rfl rfl
 ·intro w1
  first | refine a4 rfl T.i3 rfl (b9 mB rfl) ?_ | refine a4 rfl T.i3 rfl (a9 mB rfl) ?_ | refine a4 rfl T.i3 rfl (b6 mB (a7 (by omega) rfl)) ?_ | refine a4 rfl T.i3 rfl (b3 mB (rows_get (by omega) rfl)) ?_
  refine b5 ?_; exact d8 rfl
 refine bI ⟨Nat, fun _ => True, fun g1 => .slice (i5 g1) 1 1, fun g1 => [Row (i5 g1) (rows [m.2.2])]⟩ rfl rfl rfl ?_ ?_
 ·intro w1; refine j3 _ rfl rfl (fun _ => T.rG ..) fun gS => ?_; refine b5 ?_; refine D1 (rows [m.2.2]) (List.prefix_refl _) ?_; exact I2 gS trivial rfl ⟨m0, trivial⟩
 refine cX ⟨OutC × Hp, fun x => Grow T.string 1 x.1.1 (lines.length + 1) x.1.2 (rows (lines ++ [m.2.2])) x.2, fun x => .slice x.1.1 (lines.length + 1) x.1.2, fun _ => [], fun x => x.2⟩ rfl rfl rfl ?_ ?_
 ·intro g1 _; intro w1; refine v5 (lines.length + 1) (rows (lines ++ [m.2.2])) T.mT rfl rfl rfl hG (hp' := []) (by rw [List.append_nil]) (Src.row (news := rows [m.2.2]) (m := 1) m0 rfl (H4 _) (by decide)) rfl (s4 lines [m.2.2]).symm (by unfold maxLen; omega) (by omega) fun A' c' og' hG' => ?_; refine b5 ?_; exact I1 ((A', c'), og') hG' (fun _ => rfl) (List.sublist_append_left _ _) trivial
 refine t6 ⟨rfl, ?_⟩; intro g1 _ x hx; refine d5 rfl rfl ?_
 first | refine a3 ⟨_, 0, none⟩ rfl rfl T.l8 rfl ?_ | refine a3 _ rfl rfl T.l8 rfl ?_
 refine n1 rfl rfl (hU _ _ _) T.aM (by rfl) (by rfl) ?_; refine b5 ?_; exact ret0n x rfl rfl rfl hx ((List.sublist_append_left _ _).cons_cons _) trivial
theorem dY {g : Nat} {o : OutC} {og : Hp} {lines : List Str} {nx : Int} (m : Mk) (hG : GrowS o lines og) (hl : lines.length ≤ 1000) (hk : m.1 = 2) (hat : 0 ≤ m.2.1 ∧ m.2.1 ≤ 1000000) : Meets Tryz.prog F.H7 [.pointer (i5 g), .agg #[int m.1, int m.2.1, str m.2.2]] (deedCon g o og lines nx m) := by
 have eL : deedL m lines = lines ++ [m.2.2] := by simp [deedL, hk]
 have eN : deedN m nx = m.2.1 + 1 := by simp [deedN, hk]
 unfold deedCon; rw [eL, eN]; unfold pressO GrowS; rw [l6]; refine c1 F.lU rfl j9 fun w0 => ?_; refine b7 ?_; refine H5 rfl rfl fun gB => ?_; refine a8 ?_; refine G1 (_ :: og) ([_]) (List.perm_append_comm (l₁ := [_])) 16 [15, 9, 5] mixed (by decide) (by decide) (by decide) rfl rfl rfl (i7 (fun w1 => a6 rfl (q_z rfl)) (i7 (fun w1 => a6 rfl (q_z rfl)) (i7 (fun w1 => a6 rfl (q_z rfl)) (i7 (fun w1 => d5 rfl rfl (q_z rfl)) ?_))))
 apply j4 _ rfl rfl rfl
 ·intro w1
  first | refine a3 ⟨_, 0, none⟩ rfl rfl T.l8 rfl ?_ | refine a3 _ rfl rfl T.l8 rfl ?_
  refine b5 ?_; exact d8 rfl
 refine cX ⟨Unit, fun _ => True, fun _ => .slice o.1 lines.length o.2, fun _ => [], fun _ => (g, Obj.cells #[.slice o.1 lines.length o.2, int nx] T.V4 (0, 0)) :: og⟩ rfl rfl rfl ?_ ?_
 ·intro w1
  first | refine a4 rfl T.d9 rfl (a9 mB rfl) ?_ | refine a4 rfl T.d9 rfl (b9 mB rfl) ?_ | refine a4 rfl T.d9 rfl (b6 mB (a7 (by omega) rfl)) ?_ | refine a4 rfl T.d9 rfl (b3 mB (rows_get (by omega) rfl)) ?_
  refine b5 ?_; exact I1 () trivial (fun _ => rfl) (.refl _) trivial
 apply j4 _ rfl rfl rfl
 ·intro w1
  first | refine a3 ⟨_, 2, none⟩ rfl rfl T.k7 rfl ?_ | refine a3 _ rfl rfl T.k7 rfl ?_
  refine b5 ?_; exact d8 rfl
 apply j4 _ rfl rfl rfl
 ·intro w1
  first | refine a4 rfl T.i3 rfl (b9 mB rfl) ?_ | refine a4 rfl T.i3 rfl (a9 mB rfl) ?_ | refine a4 rfl T.i3 rfl (b6 mB (a7 (by omega) rfl)) ?_ | refine a4 rfl T.i3 rfl (b3 mB (rows_get (by omega) rfl)) ?_
  refine b5 ?_; exact d8 rfl
 refine bI ⟨Nat, fun _ => True, fun g1 => .slice (i5 g1) 1 1, fun g1 => [Row (i5 g1) (rows [m.2.2])]⟩ rfl rfl rfl ?_ ?_
 ·intro w1; refine j3 _ rfl rfl (fun _ => T.rG ..) fun gS => ?_; refine b5 ?_; refine D1 (rows [m.2.2]) (List.prefix_refl _) ?_; exact I2 gS trivial rfl ⟨m0, trivial⟩
 refine cX ⟨OutC × Hp, fun x => Grow T.string 1 x.1.1 (lines.length + 1) x.1.2 (rows (lines ++ [m.2.2])) x.2, fun x => .slice x.1.1 (lines.length + 1) x.1.2, fun _ => [], fun x => x.2 ++ [(g, Obj.cells #[.slice o.1 lines.length o.2, int nx] T.V4 (0, 0))]⟩ rfl rfl rfl ?_ ?_
 ·intro g1 _ _ _; intro w1; refine v5 (lines.length + 1) (rows (lines ++ [m.2.2])) T.mT rfl rfl rfl hG (List.perm_append_comm (l₁ := [_])) (Src.row (news := rows [m.2.2]) (m := 1) m0 rfl (H4 _) (by decide)) rfl (s4 lines [m.2.2]).symm (by unfold maxLen; omega) (by omega) fun A' c' og' hG' => ?_; refine b5 ?_; exact I1 ((A', c'), og') hG' (fun _ => rfl) (.refl _) trivial
 apply j4 _ rfl rfl rfl
 ·intro w1
  first | refine a3 ⟨_, 1, none⟩ rfl rfl T.c9 rfl ?_ | refine a3 _ rfl rfl T.c9 rfl ?_
  refine b5 ?_; exact d8 rfl
 apply j4 _ rfl rfl rfl
 ·intro w1
  first | refine a4 rfl T.a5 rfl (b9 mB rfl) ?_ | refine a4 rfl T.a5 rfl (a9 mB rfl) ?_ | refine a4 rfl T.a5 rfl (b6 mB (a7 (by omega) rfl)) ?_ | refine a4 rfl T.a5 rfl (b3 mB (rows_get (by omega) rfl)) ?_
  refine b5 ?_; exact d8 rfl
 refine i7 (fun w1 => p9 _ rfl rfl rfl rfl n3 (q_z rfl)) (i7 (fun w1 => d5 rfl rfl (q_z rfl)) ?_)
 apply j4 _ rfl rfl rfl
 ·intro w1
  first | refine a3 ⟨_, 0, none⟩ rfl rfl T.l8 rfl ?_ | refine a3 _ rfl rfl T.l8 rfl ?_
  refine b5 ?_; exact d8 rfl
 refine hb_st ⟨OutC × Hp, fun x => Grow T.string 1 x.1.1 (lines.length + 1) x.1.2 (rows (lines ++ [m.2.2])) x.2, fun x => .tuple #[], fun _ => [], fun x => (g, Obj.cells #[.slice x.1.1 (lines.length + 1) x.1.2, int nx] T.V4 (0, 0)) :: x.2⟩ rfl rfl ?_ ?_
 ·intro x hx; intro w1; refine n1 rfl rfl (vQ _ _) T.aM (by rfl) (by rfl) ?_; refine b5 ?_; exact I1 x hx (fun h => by cases h) (.refl _) trivial
 refine t6 ⟨rfl, ?_⟩; intro _ _ g1 _ x0 hx0 x hx; refine d5 rfl rfl ?_
 first | refine a3 ⟨_, 1, none⟩ rfl rfl T.l7 rfl ?_ | refine a3 _ rfl rfl T.l7 rfl ?_
 refine n1 rfl rfl (.refl _) T.G8 (by rfl) (by rfl) ?_; refine b5 ?_; exact ret0n x rfl rfl rfl hx ((List.sublist_append_left _ _).cons_cons _) trivial
theorem dX {g : Nat} {o : OutC} {og : Hp} {lines : List Str} {nx : Int} (m : Mk) (hG : GrowS o lines og) (hl : lines.length ≤ 1000) (hk : m.1 = 3) (hat : 0 ≤ m.2.1 ∧ m.2.1 ≤ 1000000) : Meets Tryz.prog F.H6 [.pointer (i5 g), .agg #[int m.1, int m.2.1, str m.2.2]] (deedCon g o og lines nx m) := by
 have eL : deedL m lines = lines := by simp [deedL, hk]
 have eN : deedN m nx = m.2.1 + 1 := by simp [deedN, hk]
 unfold deedCon; rw [eL, eN]; unfold pressO; refine c1 F.lT rfl j9 fun w0 => ?_; refine b7 ?_; refine H5 rfl rfl fun gB => ?_; refine a8 (c7 (a6 rfl ?_))
 first | refine a3 ⟨_, 1, none⟩ rfl rfl T.c9 rfl ?_ | refine a3 _ rfl rfl T.c9 rfl ?_
 first | refine a4 rfl T.a5 rfl (a9 mB rfl) ?_ | refine a4 rfl T.a5 rfl (b9 mB rfl) ?_ | refine a4 rfl T.a5 rfl (b6 mB (a7 (by omega) rfl)) ?_ | refine a4 rfl T.a5 rfl (b3 mB (rows_get (by omega) rfl)) ?_
 refine p9 _ rfl rfl rfl rfl n3 (d5 rfl rfl ?_)
 first | refine a3 ⟨_, 1, none⟩ rfl rfl T.l7 rfl ?_ | refine a3 _ rfl rfl T.l7 rfl ?_
 refine n1 rfl rfl (.swap _ _ _) T.G8 (by rfl) (by rfl) ?_; refine b5 ?_; exact ret0n (o, og) rfl rfl rfl hG ((List.sublist_cons_self _ _).cons_cons _) trivial
def fnV (f : Nat) : Value := .func (.func f) #[] #[]
def deedsL : List (Ment Int) := [(1, fnV F.H8, 0), (2, fnV F.H7, 1), (3, fnV F.H6, 2)]
abbrev K3 : KeyC Tryz.prog T.int int := KeyC.int T.qS
theorem jA : Meets Tryz.prog F.cH [] { val := fun g : Nat => .map (some g), hpO := fun g => [(g, mapO int deedsL 3)] } := by
 refine c1 F.pX rfl j9 fun w0 => ?_; refine b7 (b4 rfl (j6 ?_)); refine nF int rfl fun gM => ?_; refine iS (k := 1) K3 (.inr rfl) T.n9 rfl rfl rfl (.refl _) (iS (k := 2) K3 (.inr rfl) T.n9 rfl rfl rfl (.refl _) (iS (k := 3) K3 (.inr rfl) T.n9 rfl rfl rfl (.refl _) ?_)); refine a6 rfl (b4 rfl (a8 (g2 ?_))); exact ret1 gM rfl rfl rfl trivial (.refl _) trivial
def deedV (k : Int) : Value := if k = 1 then fnV F.H8 else if k = 2 then fnV F.H7 else fnV F.H6
theorem aq6 {k : Int} (h : 1 ≤ k ∧ k ≤ 3) : getM deedsL k = some (deedV k) := by
  have : k = 1 ∨ k = 2 ∨ k = 3 := by omega
  rcases this with rfl | rfl | rfl <;> rfl
theorem hl_deed {n : Nat} {b : Bx} {Q : Exit → Act → World → Prop} {fr : Fr} {hp hpR : Hp} {L : List Fact} {ops : Array Oper} {rest : List Oper} {d : Tmp} {ty : TypeId} {pos : String} {af : Array Edge} {x : Operand} {args : Array Operand} {ats : Array TypeId}
    {g : Nat} {o : OutC} {og : Hp} {lines : List Str} {nx : Int} {m : Mk} (hd : Nat.blt d n = true) (hf : ev fr x = some (deedV m.1)) (hx : args.toList.mapM (ev fr) = some [.pointer (i5 g), .agg #[int m.1, int m.2.1, str m.2.2]])
    (hk : 1 ≤ m.1 ∧ m.1 ≤ 3) (hat : 0 ≤ m.2.1 ∧ m.2.1 ≤ 1000000) (hG : GrowS o lines og) (hl : lines.length ≤ 1000) (h1 : hp.Perm ((pressO g o lines nx :: og) ++ hpR))
    (kk : ∀ y : OutC × Hp, GrowS y.1 (deedL m lines) y.2 → HL ⟨Tryz.prog, n, b, [], none⟩ ops Q rest ((d, .tuple #[]) :: fr) ((pressO g y.1 (deedL m lines) (deedN m nx) :: y.2) ++ hpR) L) :
    HL ⟨Tryz.prog, n, b, [], none⟩ ops Q (⟨some d, .call ⟨.value x, args, ats⟩, ty, pos, af, none⟩ :: rest) fr hp L := by
  have : m.1 = 1 ∨ m.1 = 2 ∨ m.1 = 3 := by omega
  rcases this with h | h | h
  · exact G0 (cap := []) F.kM hd (by rw [hf, h]; rfl) hx (dZ m hG hl h) h1 trivial (fun y hy => kk y hy)
  · exact G0 (cap := []) F.kL hd (by rw [hf, h]; rfl) hx (dY m hG hl h hat) h1 trivial (fun y hy => kk y hy)
  exact G0 (cap := []) F.kK hd (by rw [hf, h]; rfl) hx (dX m hG hl h hat) h1 trivial (fun y hy => kk y hy)
def stepP (p : List Str) (st : List Str × Nat) (m : Mk) : List Str × Nat :=
  (deedL m (st.1 ++ (p.take (max st.2 m.2.1.toNat)).drop st.2), (deedN m (max st.2 m.2.1.toNat : Nat)).toNat)
def madeP (p : List Str) (l : List Mk) : List Str := (l.foldl (stepP p) ([], 0)).1 ++ p.drop (l.foldl (stepP p) ([], 0)).2
def MV (n : Nat) (l : List Mk) : Prop := ∀ m ∈ l, 1 ≤ m.1 ∧ m.1 ≤ 3 ∧ 0 ≤ m.2.1 ∧ m.2.1 ≤ n ∧ (m.1 = 1 ∨ m.2.1 < n)
theorem O4 {α : Type} {f : α → Int} : ∀ {l : List α}, firstErr f l = 0 → ∀ a ∈ l, f a = 0
  | [], _, a, h => by simp at h
  | b :: l, h, a, ha => by
    rw [firstErr] at h
    split at h
    · rename_i h0
      rcases List.mem_cons.1 ha with rfl | ha
      · exact h0
      exact O4 h a ha
    rename_i h0; exact absurd h h0
theorem uF {n : Nat} {l : List Mk} (h : marksErr n l = 0) : l.length ≤ 12 ∧ MV n l := by
  unfold marksErr at h
  split at h
  · omega
  rename_i h12
  refine ⟨by omega, fun m hm => ?_⟩; obtain ⟨i, hi, rfl⟩ := List.getElem_of_mem hm; have := O4 h i (by simpa using hi); unfold markErr mErr at this; rw [y8 hi] at this; generalize l[i] = m at *
  split at this
  · omega
  split at this
  · omega
  rename_i h1 h2
  by_cases hk : m.1 = 1
  · simp only [hk, if_true] at h2; omega
  simp only [hk, if_false] at h2; omega
theorem zD {p : List Str} {st : List Str × Nat} {m : Mk} {k : Nat} (hp6 : p.length ≤ 6) (h1 : st.2 ≤ p.length) (h2 : st.1.length ≤ 7 * k) (hm : 1 ≤ m.1 ∧ m.1 ≤ 3 ∧ 0 ≤ m.2.1 ∧ m.2.1 ≤ p.length ∧ (m.1 = 1 ∨ m.2.1 < p.length)) : (stepP p st m).2 ≤ p.length ∧ (stepP p st m).1.length ≤ 7 * (k + 1) := by
  obtain ⟨ls, nx⟩ := st; simp only at h1 h2; unfold stepP deedL deedN; have h3 : ((p.take (max nx m.2.1.toNat)).drop nx).length ≤ 6 := by rw [List.length_drop, List.length_take]; omega
  by_cases k1 : m.1 = 1
  · simp only [k1, if_true]
    rw [if_neg (by decide)]; rw [List.length_append, List.length_append]; simp only [List.length_cons, List.length_nil, Int.toNat_natCast]; omega
  by_cases k3 : m.1 = 3
  · simp only [k3, if_true]
    rw [if_neg (by decide), List.length_append]
    omega
  simp only [k1, k3, if_false]; rw [List.length_append, List.length_append]; simp only [List.length_cons, List.length_nil]; omega
theorem P1 {α : Type} [Inhabited α] {l : List α} {k : Nat} (h : k < l.length) : l.getD k default ∈ l := by rw [y8 h]; exact List.getElem_mem h
theorem kJ {A B : Option Addr} {ca cb : Nat} (p : List Str) (l : List Mk) (hp6 : p.length ≤ 6) (hl : l.length ≤ 12) (hV : MV p.length l) (hc : p.length ≤ ca) :
    Meets Tryz.prog F.hH [.slice A p.length ca, .slice B l.length cb] { outSl (madeP p l) with LI := [Row A (rows p), Row B (rows l)] } := by
 refine c1 F.rW rfl j9 fun w0 => ?_; refine b7 (b4 rfl (j6 ?_)); refine r7 _ rfl rfl (fun _ => T.mN ..) ?_; refine H5 rfl rfl fun gB => ?_; refine b4 rfl (j6 ?_); refine c8 F.nL rfl rfl (jA) k6 trivial fun gM _ => ?_; refine b4 rfl (a8 (mF ?_)); refine I5 (.swap _ _ _) ?_; refine c7 (a6 rfl ?_); refine j0 rfl T.j2 rfl ?_; refine a6 rfl (a8 (i8 ?_))
 refine s9 (β := Nat × OutC × Hp × List Str × Nat) ⟨fun ⟨k, o, og, ls, nx⟩ => k ≤ l.length ∧ (l.take k).foldl (stepP p) ([], 0) = (ls, nx) ∧ GrowS o ls og ∧ nx ≤ p.length ∧ ls.length ≤ 7 * k,
   fun ⟨k, o, og, ls, nx⟩ => [(0, .slice A p.length ca), (5, .pointer (i5 gB)), (6, .map (some gM)), (12, .slice B l.length cb), (13, int l.length), (14, int k)], fun ⟨k, o, og, ls, nx⟩ => pressO gB o ls nx :: (og ++ [(gM, mapO int deedsL 3)]), fun _ => [Row A (rows p), Row B (rows l)]⟩
   (fun x => l.length - x.1) (0, (none, 0), [], [], 0) ⟨Nat.zero_le _, rfl, Grow.nil _ _, Nat.zero_le _, Nat.le_refl _⟩ mC (.refl _) ⟨m0, m1, trivial⟩ fun x hx => ?_
 obtain ⟨k, o, og, ls, nx⟩ := x; obtain ⟨hk, hst, hG, hn, hlen⟩ := hx; refine b7 (r9 rfl rfl rfl (a8 (b8 ?_)))
 first | refine i4 rfl (fun hb1 => ?_) (fun hb1 => ?_) | refine c5 rfl (fun hb1 => ?_) (fun hb1 => ?_)
 ·have hb1' := hb1; try simp at hb1'
  have hk2 : k < l.length := by omega
  refine c4 (c3 (b8 (i8 (b7 ?_)))); refine r6 (α := Mk) _ _ rfl T.j2 T.d3 rfl rfl rfl mB rfl (by omega) (by decide) (p6 rfl T.i6 T.d3 rfl rfl (k8 mB (n2 (by omega))) ?_); refine p8 rfl (fun _ => T.t8 _) fun gA => ?_; refine l5 rfl rfl (by first | exact .refl _ | exact perm2 _ _ _ | exact perm3 _ _ _ _ | exact perm4 _ _ _ _ _) T.d3 (by rfl) (by rfl) ?_; refine a8 (b8 ?_); have hVm := hV _ (P1 hk2); have hst2 : (l.take (k + 1)).foldl (stepP p) ([], 0) = stepP p (ls, nx) (l.getD k default) := by rw [s6 l k hk2, List.foldl_append, hst]; rfl
  have hnext := zD (st := (ls, nx)) (k := k) hp6 hn hlen hVm; generalize hm : l.getD k default = m at *; obtain ⟨kd, at0, t⟩ := m; simp only at hVm; obtain ⟨at1, rfl⟩ := Int.eq_ofNat_of_zero_le hVm.2.2.1; refine I5 (pm1 _ _ _ _) (G1 (og) ([_, _, _]) (.refl _) 19 [18] mixed (by decide) (by decide) (by decide) rfl rfl rfl (i7 (fun w1 => a6 rfl (q_z rfl)) (i7 (fun w1 => a6 rfl (q_z rfl)) (i7 (fun w1 => d5 rfl rfl (q_z rfl)) ?_))))
  apply j4 _ rfl rfl rfl
  ·intro w1
   first | refine a3 ⟨_, 0, none⟩ rfl rfl T.l8 rfl ?_ | refine a3 _ rfl rfl T.l8 rfl ?_
   refine b5 ?_; exact d8 rfl
  apply j4 _ rfl rfl rfl
  ·intro w1
   first | refine a4 rfl T.d9 rfl (b9 mB rfl) ?_ | refine a4 rfl T.d9 rfl (a9 mB rfl) ?_ | refine a4 rfl T.d9 rfl (b6 mB (a7 (by omega) rfl)) ?_ | refine a4 rfl T.d9 rfl (b3 mB (rows_get (by omega) rfl)) ?_
   refine b5 ?_; exact d8 rfl
  refine i7 (fun w1 => a6 rfl (q_z rfl)) (i7 (fun w1 => a6 rfl (q_z rfl)) (i7 (fun w1 => d5 rfl rfl (q_z rfl)) ?_))
  apply j4 _ rfl rfl rfl
  ·intro w1
   first | refine a3 ⟨_, 1, none⟩ rfl rfl T.l7 rfl ?_ | refine a3 _ rfl rfl T.l7 rfl ?_
   refine b5 ?_; exact d8 rfl
  apply j4 _ rfl rfl rfl
  ·intro w1
   first | refine a4 rfl T.a5 rfl (b9 mB rfl) ?_ | refine a4 rfl T.a5 rfl (a9 mB rfl) ?_ | refine a4 rfl T.a5 rfl (b6 mB (a7 (by omega) rfl)) ?_ | refine a4 rfl T.a5 rfl (b3 mB (rows_get (by omega) rfl)) ?_
   refine b5 ?_; exact d8 rfl
  refine i7 (fun w1 => a6 rfl (q_z rfl)) (i7 (fun w1 => d5 rfl rfl (q_z rfl)) ?_)
  apply j4 _ rfl rfl rfl
  ·intro w1
   first | refine a3 ⟨_, 1, none⟩ rfl rfl T.l7 rfl ?_ | refine a3 _ rfl rfl T.l7 rfl ?_
   refine b5 ?_; exact d8 rfl
  apply j4 _ rfl rfl rfl
  ·intro w1
   first | refine a4 rfl T.a5 rfl (b9 mB rfl) ?_ | refine a4 rfl T.a5 rfl (a9 mB rfl) ?_ | refine a4 rfl T.a5 rfl (b6 mB (a7 (by omega) rfl)) ?_ | refine a4 rfl T.a5 rfl (b3 mB (rows_get (by omega) rfl)) ?_
   refine b5 ?_; exact d8 rfl
  apply j4 _ rfl rfl rfl
  ·intro w1
   first | refine a3 ⟨_, 1, none⟩ rfl rfl T.c9 rfl ?_ | refine a3 _ rfl rfl T.c9 rfl ?_
   refine b5 ?_; exact d8 rfl
  apply j4 _ rfl rfl rfl
  ·intro w1
   first | refine a4 rfl T.a5 rfl (b9 mB rfl) ?_ | refine a4 rfl T.a5 rfl (a9 mB rfl) ?_ | refine a4 rfl T.a5 rfl (b6 mB (a7 (by omega) rfl)) ?_ | refine a4 rfl T.a5 rfl (b3 mB (rows_get (by omega) rfl)) ?_
   refine b5 ?_; exact d8 rfl
  refine i7 (fun w1 => r_max ((max nx at1 : Nat) : Int) rfl rfl rfl (by simp only; split <;> omega) (q_z rfl)) ?_; refine i7 (fun w1 => vO nx (max nx at1) rfl T.t4 T.u6 rfl rfl rfl rfl rfl (Nat.le_max_left _ _) (by omega) (q_z rfl)) ?_; refine cX ⟨OutC × Hp, fun x => GrowS x.1 (ls ++ (p.take (max nx at1)).drop nx) x.2, fun x => .slice x.1.1 (ls ++ (p.take (max nx at1)).drop nx).length x.1.2, fun _ => [], fun x => x.2⟩ rfl rfl rfl ?_ ?_
  ·intro w1; refine vW (p := p) (ca := ca) nx (max nx at1) m0 hc ?_; refine v5 (ls ++ (p.take (max nx at1)).drop nx).length (rows (ls ++ (p.take (max nx at1)).drop nx)) T.mT rfl rfl rfl hG (hp' := []) (by rw [List.append_nil]) (Src.row (news := rows ((p.take (max nx at1)).drop nx)) m0 (by rw [K6, List.length_drop, List.length_take, Nat.min_eq_left (by omega)]; rfl) (H4 _) (by decide)) (by rw [List.length_append, List.length_drop, List.length_take]; omega) (s4 _ _).symm (by unfold maxLen; rw [List.length_append, List.length_drop, List.length_take]; omega) (by rw [List.length_append, List.length_drop, List.length_take]; omega) fun A' c' og' hG' => ?_; refine b5 ?_; exact I1 ((A', c'), og') hG' (fun _ => rfl) (List.sublist_append_left _ _) trivial
  refine t6 ⟨rfl, ?_⟩; intro x hx; obtain ⟨o1, og1⟩ := x; have hG1 : GrowS o1 (ls ++ (p.take (max nx at1)).drop nx) og1 := hx; generalize hl1 : ls ++ (p.take (max nx at1)).drop nx = l1 at *; refine d5 rfl rfl ?_
  first | refine a3 ⟨_, 0, none⟩ rfl rfl T.l8 rfl ?_ | refine a3 _ rfl rfl T.l8 rfl ?_
  refine n1 rfl rfl (pm2 _ _ _ _) T.aM (by rfl) (by rfl) ?_; refine a8 (b8 ?_); refine I5 (pm3 _ _ _ _) (G1 (og1) ([_, _, _]) (.refl _) 8 [] mixed (by decide) (by decide) (by decide) rfl rfl rfl (i7 (fun w1 => a6 rfl (q_z rfl)) (i7 (fun w1 => a6 rfl (q_z rfl)) (i7 (fun w1 => d5 rfl rfl (q_z rfl)) ?_))))
  apply j4 _ rfl rfl rfl
  ·intro w1
   first | refine a3 ⟨_, 1, none⟩ rfl rfl T.l7 rfl ?_ | refine a3 _ rfl rfl T.l7 rfl ?_
   refine b5 ?_; exact d8 rfl
  apply j4 _ rfl rfl rfl
  ·intro w1
   first | refine a4 rfl T.a5 rfl (b9 mB rfl) ?_ | refine a4 rfl T.a5 rfl (a9 mB rfl) ?_ | refine a4 rfl T.a5 rfl (b6 mB (a7 (by omega) rfl)) ?_ | refine a4 rfl T.a5 rfl (b3 mB (rows_get (by omega) rfl)) ?_
   refine b5 ?_; exact d8 rfl
  apply j4 _ rfl rfl rfl
  ·intro w1
   first | refine a3 ⟨_, 1, none⟩ rfl rfl T.c9 rfl ?_ | refine a3 _ rfl rfl T.c9 rfl ?_
   refine b5 ?_; exact d8 rfl
  apply j4 _ rfl rfl rfl
  ·intro w1
   first | refine a4 rfl T.a5 rfl (b9 mB rfl) ?_ | refine a4 rfl T.a5 rfl (a9 mB rfl) ?_ | refine a4 rfl T.a5 rfl (b6 mB (a7 (by omega) rfl)) ?_ | refine a4 rfl T.a5 rfl (b3 mB (rows_get (by omega) rfl)) ?_
   refine b5 ?_; exact d8 rfl
  refine i7 (fun w1 => r_max ((max nx at1 : Nat) : Int) rfl rfl rfl (by simp only; split <;> omega) (q_z rfl)) ?_; refine t6 ⟨rfl, ?_⟩; refine d5 rfl rfl ?_
  first | refine a3 ⟨_, 1, none⟩ rfl rfl T.l7 rfl ?_ | refine a3 _ rfl rfl T.l7 rfl ?_
  refine n1 rfl rfl (pm4 _ _ _ _) T.G8 (by rfl) (by rfl) ?_; refine a8 ?_; refine I5 (pm5 _ _ _ _) ?_; refine c7 (a6 rfl ?_)
  first | refine a3 ⟨_, 0, none⟩ rfl rfl T.g0 rfl ?_ | refine a3 _ rfl rfl T.g0 rfl ?_
  first | refine a4 rfl T.a5 rfl (a9 mB rfl) ?_ | refine a4 rfl T.a5 rfl (b9 mB rfl) ?_ | refine a4 rfl T.a5 rfl (b6 mB (a7 (by omega) rfl)) ?_ | refine a4 rfl T.a5 rfl (b3 mB (rows_get (by omega) rfl)) ?_
  refine zM (k := kd) K3 rfl T.n9 rfl rfl (sH m1) (aq6 ⟨hVm.1, hVm.2.1⟩) (a6 rfl ?_)
  first | refine t9 rfl T.i6 T.d3 rfl mB (by rfl) ?_ | refine u4 rfl T.i6 T.d3 rfl mB (by rfl) ?_ | refine p6 rfl T.i6 T.d3 rfl rfl (k8 mB (n2 (by omega))) ?_
  have hl1n : l1.length ≤ 1000 := by rw [← hl1, List.length_append, List.length_drop, List.length_take]; omega
  refine hl_deed (m := (kd, (at1 : Int), t)) (o := o1) (og := og1) (lines := l1) (nx := (max nx at1 : Nat)) rfl rfl rfl ⟨hVm.1, hVm.2.1⟩ ⟨by simp only; omega, by simp only; omega⟩ hG1 hl1n (pm6 _ _ _ _) fun y hy => ?_; refine b5 (q6 (c3 (c7 ?_))); refine p9 _ rfl rfl rfl rfl n3 ?_; refine a6 rfl (b5 ?_); have hs : stepP p (ls, nx) (kd, (at1 : Int), t) = (deedL (kd, (at1 : Int), t) l1, (deedN (kd, (at1 : Int), t) (max nx at1 : Nat)).toNat) := by rw [← hl1]; rfl
  rw [hs] at hst2 hnext; have hN : (((deedN (kd, (at1 : Int), t) (max nx at1 : Nat)).toNat : Nat) : Int) = deedN (kd, (at1 : Int), t) (max nx at1 : Nat) := Int.toNat_of_nonneg (by unfold deedN; simp only; split <;> omega); refine again _ (k + 1, y.1, y.2, deedL (kd, (at1 : Int), t) l1, (deedN (kd, (at1 : Int), t) (max nx at1 : Nat)).toNat) ?_ ?_ ?_ ?_ ?_
  · exact ⟨by omega, hst2, hy, hnext.1, hnext.2⟩
  · show l.length - (k + 1) < l.length - k
    omega
  · exact mC
  · show (pressO gB y.1 _ (((deedN (kd, (at1 : Int), t) (max nx at1 : Nat)).toNat : Nat) : Int) :: (y.2 ++ [_])).Sublist _
    rw [hN]; exact ((List.Sublist.refl _).append (.cons _ (.refl _))).cons_cons _
  exact ⟨m0, m1, trivial⟩
 have hb1' := hb1; try simp at hb1'
 have hk2 : k = l.length := by omega
 refine n5 (A3 (n4 (c3 (b8 ?_)))); refine A8 10 mixed (by decide) (by decide) rfl rfl (i7 (fun w1 => a6 rfl (q_z rfl)) (i7 (fun w1 => d5 rfl rfl (q_z rfl)) ?_))
 apply j4 _ rfl rfl rfl
 ·intro w1
  first | refine a3 ⟨_, 0, none⟩ rfl rfl T.l8 rfl ?_ | refine a3 _ rfl rfl T.l8 rfl ?_
  refine b5 ?_; exact d8 rfl
 apply j4 _ rfl rfl rfl
 ·intro w1
  first | refine a4 rfl T.d9 rfl (b9 mB rfl) ?_ | refine a4 rfl T.d9 rfl (a9 mB rfl) ?_ | refine a4 rfl T.d9 rfl (b6 mB (a7 (by omega) rfl)) ?_ | refine a4 rfl T.d9 rfl (b3 mB (rows_get (by omega) rfl)) ?_
  refine b5 ?_; exact d8 rfl
 refine i7 (fun w1 => a6 rfl (q_z rfl)) (i7 (fun w1 => a6 rfl (q_z rfl)) (i7 (fun w1 => d5 rfl rfl (q_z rfl)) ?_))
 apply j4 _ rfl rfl rfl
 ·intro w1
  first | refine a3 ⟨_, 1, none⟩ rfl rfl T.l7 rfl ?_ | refine a3 _ rfl rfl T.l7 rfl ?_
  refine b5 ?_; exact d8 rfl
 apply j4 _ rfl rfl rfl
 ·intro w1
  first | refine a4 rfl T.a5 rfl (b9 mB rfl) ?_ | refine a4 rfl T.a5 rfl (a9 mB rfl) ?_ | refine a4 rfl T.a5 rfl (b6 mB (a7 (by omega) rfl)) ?_ | refine a4 rfl T.a5 rfl (b3 mB (rows_get (by omega) rfl)) ?_
  refine b5 ?_; exact d8 rfl
 refine i7 (fun w1 => nE nx rfl T.t4 T.u6 rfl rfl rfl hn (q_z rfl)) ?_; refine t6 ⟨rfl, ?_⟩; refine vW (p := p) (ca := ca) nx p.length m0 hc ?_; rw [List.take_length]; refine v5 (ls ++ p.drop nx).length (rows (ls ++ p.drop nx)) T.mT rfl rfl rfl hG (pm7 _ _ _) (Src.row (news := rows (p.drop nx)) m0 (by rw [K6, List.length_drop]; rfl) (H4 _) (by decide)) (by rw [List.length_append, List.length_drop]) (s4 _ _).symm (by unfold maxLen; rw [List.length_append, List.length_drop]; omega) (by rw [List.length_append, List.length_drop]; omega) fun A' c' og' hG' => ?_; refine b4 rfl (a8 (g2 ?_)); subst hk2; rw [List.take_length] at hst; have e : madeP p l = ls ++ p.drop nx := by unfold madeP; rw [hst]
 rw [e]; refine pB hG' ?_; exact ret1 (A', c') rfl rfl rfl hG'.le i2 ⟨m0, trivial⟩
end Go.Proofs.YtegfgegnhjkcfaaGreatDoor
end
section
namespace Go.Proofs.YtegfgegnhjkcfaaGreatDoor
open Go Go.W
set_option maxRecDepth 20000
attribute [local irreducible] HL HC HQ HB Row Rows2 Blk Facts
def inR (i : Nat) (st : List Str × Str × Bool) (m : Mk) : List Str × Str × Bool :=
  if ¬ m.2.1 = (i : Int) then st else if m.1 = 1 then (st.1 ++ [m.2.2], st.2) else if m.1 = 2 then (st.1, m.2.2, st.2.2) else (st.1, st.2.1, false)
def lineR (p : List Str) (i : Nat) : Str := if i < p.length then p.getD i default else []
def outR (p : List Str) (l : List Mk) (out : List Str) (i : Nat) : List Str :=
  if (l.foldl (inR i) (out, lineR p i, decide (i < p.length))).2.2 = true then (l.foldl (inR i) (out, lineR p i, decide (i < p.length))).1 ++ [(l.foldl (inR i) (out, lineR p i, decide (i < p.length))).2.1]
  else (l.foldl (inR i) (out, lineR p i, decide (i < p.length))).1
def madeR (p : List Str) (l : List Mk) : List Str := (List.range (p.length + 1)).foldl (outR p l) []
def applyP (p : List Str) (l : List Mk) : List Str × Int := if ¬ checkErr p l = 0 then ([], checkErr p l) else if 6 < (madeP p l).length then ([], 6) else (madeP p l, 0)
def applyR (p : List Str) (l : List Mk) : List Str × Int := if ¬ checkErr p l = 0 then ([], checkErr p l) else if 6 < (madeR p l).length then ([], 6) else (madeR p l, 0)
def outErr {α : Type} [El α] (r : List α × Int) : Con OutC := { inv := fun x => r.1.length ≤ x.2, val := fun x => .tuple #[.slice x.1 r.1.length x.2, int r.2], LO := fun x => [Row x.1 (rows r.1)] }
theorem gT {p : List Str} {l : List Mk} (h : checkErr p l = 0) : p.length ≤ 6 ∧ l.length ≤ 12 ∧ MV p.length l := by
  unfold checkErr at h
  split at h
  · rename_i h1
    refine ⟨?_, uF h⟩; unfold pageErr at h1
    split at h1 <;> omega
  rename_i h1; exact absurd h h1
def costM (l : List Mk) : Nat := (l.filter fun m => decide (¬ m.1 = 3)).length
def costR (p : List Str) (l : List Mk) : Int × Int := if ¬ checkErr p l = 0 then (0, checkErr p l) else (costM l, 0)
theorem V7 {A B : Option Addr} {ca cb : Nat} (p : List Str) (l : List Mk) (hc : p.length ≤ ca) :
    Meets Tryz.prog F.V8 [.slice A p.length ca, .slice B l.length cb] { outErr (applyP p l) with LI := [Row A (rows p), Row B (rows l)] } := by
 refine c1 F.qE rfl j9 fun w0 => ?_; refine b7 (b4 rfl (b4 rfl (a8 (b8 (b7 (a6 rfl (a6 rfl ?_))))))); refine c8 F.Z4 rfl rfl (Q5 p l) (.refl _) ⟨m0, m1, trivial⟩ fun _ _ => ?_; refine b4 rfl (j6 (a6 rfl (u5 rfl rfl rfl (a8 ?_))))
 first | refine i4 rfl (fun hb1 => ?_) (fun hb1 => ?_) | refine c5 rfl (fun hb1 => ?_) (fun hb1 => ?_)
 ·have hb1' := hb1; try simp at hb1'
  have e : applyP p l = ([], checkErr p l) := by rw [applyP, if_pos hb1]
  rw [e]; refine b7 (a6 rfl (b4 rfl (b4 rfl (a8 (t5 (jS ?_)))))); exact ret2 (none, 0) rfl rfl rfl rfl rfl (Nat.le_refl _) (.refl _) ⟨m0, trivial⟩
 have hb1' := hb1; try simp at hb1'
 have h0 : checkErr p l = 0 := by omega
 obtain ⟨hp6, hl, hV⟩ := gT h0; refine c4 (c3 (b7 (a6 rfl (a6 rfl ?_)))); refine c8 F.pV rfl rfl (kJ p l hp6 hl hV hc) (.refl _) ⟨m0, m1, trivial⟩ fun x hx => ?_; refine b4 rfl (a8 (b8 (b7 (a6 rfl ?_)))); refine j0 rfl T.t4 rfl ?_; refine A5 rfl rfl rfl (a8 ?_)
 first | refine i4 rfl (fun hb2 => ?_) (fun hb2 => ?_) | refine c5 rfl (fun hb2 => ?_) (fun hb2 => ?_)
 ·have hb2' := hb2; try simp at hb2'
  have e : applyP p l = ([], 6) := by rw [applyP, if_neg hb1, if_pos (by omega)]
  rw [e]; refine b7 (b4 rfl (b4 rfl (a8 (t5 (jS ?_))))); exact ret2 (none, 0) rfl rfl rfl rfl rfl (Nat.le_refl _) (.refl _) ⟨m0, trivial⟩
 have hb2' := hb2; try simp at hb2'
 have e : applyP p l = (madeP p l, 0) := by rw [applyP, if_neg hb1, if_neg (by omega)]
 rw [e]; refine c4 (c3 (b7 (a6 rfl (b4 rfl (b4 rfl (a8 (g2 ?_))))))); exact ret2 x rfl rfl rfl rfl rfl hx (.refl _) ⟨m0, trivial⟩
end Go.Proofs.YtegfgegnhjkcfaaGreatDoor
end
