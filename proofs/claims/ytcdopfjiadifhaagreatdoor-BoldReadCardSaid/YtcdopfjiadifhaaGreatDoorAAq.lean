/- Texts of this claim, one behind another. -/

import Derived.Test.YtcdopfjiadifhaaGreatDoorAAp
import Derived.Test.YtcdopfjiadifhaaGreatDoorAAm
set_option linter.unusedVariables false
set_option linter.unusedSimpArgs false
section
namespace Go.Proofs.YtcdopfjiadifhaaGreatDoor
open Go Go.W
set_option maxRecDepth 20000
attribute [local irreducible] HL HC HQ HB Row Rows2 Blk Facts
def digS : Str := [48, 49, 50, 51, 52, 53, 54, 55, 56, 57, 97, 98, 99, 100, 101, 102, 103, 104, 105, 106, 107, 108, 109, 110, 111, 112, 113, 114, 115, 116, 117, 118, 119, 120, 121, 122]
def prsS : Str := [48, 48, 48, 49, 48, 50, 48, 51, 48, 52, 48, 53, 48, 54, 48, 55, 48, 56, 48, 57, 49, 48, 49, 49, 49, 50, 49, 51, 49, 52, 49, 53, 49, 54, 49, 55, 49, 56, 49, 57, 50, 48, 50, 49, 50, 50, 50, 51, 50, 52, 50, 53, 50, 54, 50, 55, 50, 56, 50, 57, 51, 48, 51, 49, 51, 50, 51, 51, 51, 52, 51, 53, 51, 54, 51, 55, 51, 56, 51, 57, 52, 48, 52, 49, 52, 50, 52, 51, 52, 52, 52, 53, 52, 54, 52, 55, 52, 56, 52, 57, 53, 48, 53, 49, 53, 50, 53, 51, 53, 52, 53, 53, 53, 54, 53, 55, 53, 56, 53, 57, 54, 48, 54, 49, 54, 50, 54, 51, 54, 52, 54, 53, 54, 54, 54, 55, 54, 56, 54, 57, 55, 48, 55, 49, 55, 50, 55, 51, 55, 52, 55, 53, 55, 54, 55, 55, 55, 56, 55, 57, 56, 48, 56, 49, 56, 50, 56, 51, 56, 52, 56, 53, 56, 54, 56, 55, 56, 56, 56, 57, 57, 48, 57, 49, 57, 50, 57, 51, 57, 52, 57, 53, 57, 54, 57, 55, 57, 56, 57, 57]
def itoaZ (z : Int) : Str := if z < 10 then (digS.drop z.toNat).take 1 else if z < 100 then (prsS.drop (2 * z.toNat)).take 2 else (digS.drop (z.toNat / 100)).take 1 ++ (prsS.drop (2 * (z.toNat % 100))).take 2
theorem G7 (z : Int) : (itoaZ z).length ≤ 3 := by
  unfold itoaZ
  split
  · simp only [List.length_take]; omega
  split
  · simp only [List.length_take]; omega
  rw [List.length_append]; simp only [List.length_take]; omega
def numV (l : Str) : Int := l.foldl (fun n c => n * 10 + ((c.toNat : Int) - 48)) 0
def numOK (t : Str) : Bool := decide (t.length = 1 ∨ (t.length = 2 ∨ t.length = 3) ∧ ¬ t[0]? = some 48) && t.all isDig
def numS (t : Str) : Option Int := if numOK t then some (numV t) else none
theorem aW {c : UInt8} (h : isDig c = true) : 48 ≤ c.toNat ∧ c.toNat ≤ 57 := by
  unfold isDig at h
  simpa using h
theorem rj1 {l : Str} {k : Nat} (hk : k < l.length) : numV (l.take (k + 1)) = numV (l.take k) * 10 + ((l[k].toNat : Int) - 48) := by
  rw [List.take_succ_eq_append_getElem hk]; unfold numV; rw [List.foldl_append]
  rfl
theorem px9 {l : Str} (h : l.all isDig = true) (h2 : l.length ≤ 3) : 0 ≤ numV l ∧ numV l ≤ 999 := by
  unfold numV
  match l, h2 with
  | [], _ => simp
  | [a], _ => simp at h; have := aW h; simp; omega
  | [a, b], _ => simp at h; have h1 := aW h.1; have h3 := aW h.2; simp; omega
  | [a, b, c], _ => simp at h; have h1 := aW h.1; have h3 := aW h.2.1; have h4 := aW h.2.2; simp; omega
  | a :: b :: c :: d :: r, h2 => simp at h2
theorem xE {l : Str} (h : l.all isDig = true) (h2 : l.length ≤ 3) (k : Nat) : 0 ≤ numV (l.take k) ∧ numV (l.take k) ≤ 999 := by
  refine px9 ?_ (by rw [List.length_take]; omega); rw [List.all_eq_true] at h ⊢; exact fun x hx => h x (List.mem_of_mem_take hx)
theorem jx9 : (List.range 1000).all (fun n => numOK (itoaZ n) && decide (numV (itoaZ n) = n) && decide (itoaZ n ≠ []) && (itoaZ n).all isDig) = true := by kernel_rfl
theorem cz4 {z : Int} (h0 : 0 ≤ z) (h : z < 1000) : numS (itoaZ z) = some z ∧ itoaZ z ≠ [] ∧ (itoaZ z).all isDig = true := by
  have h1 := List.all_eq_true.1 jx9 z.toNat (List.mem_range.2 (by omega)); simp only [Bool.and_eq_true, decide_eq_true_eq] at h1; have e : ((z.toNat : Nat) : Int) = z := by omega
  rw [e] at h1; obtain ⟨⟨⟨h1, h2⟩, h3⟩, h4⟩ := h1; exact ⟨by rw [numS, if_pos h1, h2], h3, h4⟩
theorem dj8 : (List.range 1000).all (fun n => decide (n < 100) || decide (itoaZ n = [UInt8.ofNat (48 + n / 100), UInt8.ofNat (48 + n / 10 % 10), UInt8.ofNat (48 + n % 10)])) = true := by kernel_rfl
theorem tx1 {t : Str} {z : Int} (h : numS t = some z) : itoaZ z = t ∧ 0 ≤ z ∧ z ≤ 999 := by
  unfold numS at h
  split at h
  · rename_i h1
    simp only [Option.some.injEq] at h; subst h; unfold numOK at h1; rw [Bool.and_eq_true, decide_eq_true_eq] at h1; obtain ⟨h1, h2⟩ := h1; have hl : t.length ≤ 3 := by rcases h1 with h | ⟨h | h, _⟩ <;> omega
    refine ⟨?_, px9 h2 hl⟩
    rcases h1 with h1 | ⟨h1 | h1, h3⟩
    · match t, h1 with
      | [a], _ =>
        simp at h2
        have hb := aW h2; have hc : a = UInt8.ofNat a.toNat := by simp
        have : a.toNat = 48 ∨ a.toNat = 49 ∨ a.toNat = 50 ∨ a.toNat = 51 ∨ a.toNat = 52 ∨ a.toNat = 53 ∨ a.toNat = 54 ∨ a.toNat = 55 ∨ a.toNat = 56 ∨ a.toNat = 57 := by omega
        rcases this with e | e | e | e | e | e | e | e | e | e <;> (rw [e] at hc; rw [hc]; rfl)
    · match t, h1 with
      | [a, b], _ =>
        simp at h2 h3
        have hb := aW h2.1; have hb2 := aW h2.2; have ea : a = UInt8.ofNat a.toNat := by simp
        have eb : b = UInt8.ofNat b.toNat := by simp
        have hne : a.toNat ≠ 48 := fun e => h3 (by rw [ea, e]; rfl); have hall : (List.range 100).all (fun n => decide (n < 10) || decide (itoaZ n = [UInt8.ofNat (48 + n / 10), UInt8.ofNat (48 + n % 10)])) = true := by kernel_rfl
        have h5 := List.all_eq_true.1 hall (10 * (a.toNat - 48) + (b.toNat - 48)) (List.mem_range.2 (by omega)); simp only [Bool.or_eq_true, decide_eq_true_eq] at h5
        rcases h5 with h5 | h5
        · omega
        have e1 : numV [a, b] = ((10 * (a.toNat - 48) + (b.toNat - 48) : Nat) : Int) := by unfold numV; simp; omega
        rw [e1, h5]; have e2 : 48 + (10 * (a.toNat - 48) + (b.toNat - 48)) / 10 = a.toNat := by omega
        have e3 : 48 + (10 * (a.toNat - 48) + (b.toNat - 48)) % 10 = b.toNat := by omega
        rw [e2, e3, ← ea, ← eb]
    match t, h1 with
    | [a, b, c], _ =>
      simp at h2 h3
      have hb := aW h2.1; have hb2 := aW h2.2.1; have hb3 := aW h2.2.2; have ea : a = UInt8.ofNat a.toNat := by simp
      have eb : b = UInt8.ofNat b.toNat := by simp
      have ec : c = UInt8.ofNat c.toNat := by simp
      have hne : a.toNat ≠ 48 := fun e => h3 (by rw [ea, e]; rfl); have h5 := List.all_eq_true.1 dj8 (100 * (a.toNat - 48) + 10 * (b.toNat - 48) + (c.toNat - 48)) (List.mem_range.2 (by omega)); simp only [Bool.or_eq_true, decide_eq_true_eq] at h5
      rcases h5 with h5 | h5
      · omega
      have e1 : numV [a, b, c] = ((100 * (a.toNat - 48) + 10 * (b.toNat - 48) + (c.toNat - 48) : Nat) : Int) := by unfold numV; simp; omega
      rw [e1, h5]; have e2 : 48 + (100 * (a.toNat - 48) + 10 * (b.toNat - 48) + (c.toNat - 48)) / 100 = a.toNat := by omega
      have e3 : 48 + (100 * (a.toNat - 48) + 10 * (b.toNat - 48) + (c.toNat - 48)) / 10 % 10 = b.toNat := by omega
      have e4 : 48 + (100 * (a.toNat - 48) + 10 * (b.toNat - 48) + (c.toNat - 48)) % 10 = c.toNat := by omega
      rw [e2, e3, e4, ← ea, ← eb, ← ec]
  cases h
theorem U4 {t : Str} (h : t.length = 0 ∨ 3 < t.length) : numS t = none := by
  unfold numS numOK; rw [if_neg]; rw [Bool.and_eq_true, decide_eq_true_eq]; rintro ⟨h1, _⟩
  omega
theorem kY {t : Str} (h : 1 < t.length) (h2 : ((t[0]'(by omega)).toNat : Int) = 48) : numS t = none := by
  unfold numS numOK; rw [if_neg]; rw [Bool.and_eq_true, decide_eq_true_eq]; rintro ⟨h3 | ⟨_, h3⟩, _⟩
  · omega
  apply h3
  rw [List.getElem?_eq_getElem (by omega)]
  have : t[0]'(by omega) = UInt8.ofNat 48 := by
    have h4 : (t[0]'(by omega)).toNat = 48 := by omega
    rw [← h4]; simp
  rw [this]; rfl
theorem kX {t : Str} (h : ¬ t.all isDig = true) : numS t = none := by
  unfold numS numOK; rw [if_neg]; rw [Bool.and_eq_true]; exact fun h2 => h h2.2
theorem lz1 {t : Str} (h0 : 0 < t.length) (h : t.length ≤ 3) (h1 : 1 < t.length → ¬ ((t[0]).toNat : Int) = 48) (hd : t.all isDig = true) : numS t = some (numV t) := by
  unfold numS numOK; rw [if_pos]; rw [Bool.and_eq_true, decide_eq_true_eq]; refine ⟨?_, hd⟩
  by_cases h2 : t.length = 1
  · exact .inl h2
  refine .inr ⟨by omega, fun h3 => h1 (by omega) ?_⟩; rw [List.getElem?_eq_getElem h0] at h3; have : t[0] = 48 := Option.some.inj h3; rw [this]; rfl
theorem mx5 (t : Str) (hl : 0 < t.length ∧ t.length ≤ 3) (hd : t.all isDig = true) : Meets Tryz.prog F.U9 [str t] { val := fun _ : Unit => .tuple #[int (numV t), .nilIface] } := by
 have h0 := aW (List.all_eq_true.1 hd _ (List.getElem_mem hl.1)); refine i9 F.lC rfl r6 fun w0 => ?_; refine i8 (d5 rfl (d5 rfl (k8 (c7 rfl ?_)))); refine E6 rfl T.v8 rfl ?_; refine d5 rfl (d8 (j4 (i8 (c7 rfl (t4 rfl rfl rfl rfl rfl rfl (t4 rfl rfl rfl rfl rfl rfl (t4 rfl rfl rfl rfl rfl rfl (P0 rfl rfl rfl rfl rfl rfl (P0 rfl rfl rfl rfl rfl rfl ?_))))))))); refine t4 rfl rfl rfl rfl rfl rfl (p_f rfl rfl rfl rfl (c7 rfl (l3 rfl rfl rfl (c7 rfl (l3 rfl rfl rfl (c7 rfl (l3 rfl rfl rfl (B6 rfl rfl rfl (l3 rfl rfl rfl (c7 rfl ?_)))))))))); refine u6 rfl rfl ?_ ?_
 ·intro hg1; have hg1' := hg1; try simp at hg1'
  refine l3 rfl rfl hg1 (c7 rfl (l3 rfl rfl hg1 (B6 rfl rfl rfl (l3 rfl rfl rfl ?_)))); refine p_t rfl rfl (bt1 hg1) rfl ?_; refine l3 rfl rfl rfl (p_t rfl rfl rfl rfl (p_f rfl rfl rfl rfl (d8 ?_)))
  first | refine m3 rfl (fun hb1 => ?_) (fun hb1 => ?_) | refine j7 rfl (fun hb1 => ?_) (fun hb1 => ?_)
  ·have hb1' := hb1; try simp at hb1'
   refine i8 (c7 rfl (d5 rfl (d8 (j4 (i8 (c7 rfl ?_)))))); refine H7 0 rfl T.v8 rfl rfl rfl (List.getElem?_eq_getElem hl.1) ?_; refine H0 rfl rfl rfl (c7 rfl ?_); refine u6 rfl rfl ?_ ?_
   ·intro hg2; have hg2' := hg2; try simp at hg2'
    refine l3 rfl rfl hg2 (c7 rfl (l3 rfl rfl hg2 ?_)); refine H7 0 rfl T.v8 rfl rfl rfl (List.getElem?_eq_getElem hl.1) ?_; refine l3 rfl rfl hg2 (H0 rfl rfl rfl ?_); refine p_f rfl rfl (bf1 hg2) rfl ?_; refine d8 ?_
    first | refine m3 rfl (fun hb2 => ?_) (fun hb2 => ?_) | refine j7 rfl (fun hb2 => ?_) (fun hb2 => ?_)
    ·omega
    have hb2' := hb2; try simp at hb2'
    refine k6 (j6 (i8 (d5 rfl (d8 (j4 (i8 (c7 rfl ?_))))))); refine r_bytes rfl T.v8 T.Z4 T.lj0 rfl fun gb cap => ?_; refine l7 rfl T.Z4 rfl ?_; refine c7 rfl (d8 (k9 ?_)); refine w3 (β := Nat) ⟨fun k => k ≤ t.length, fun k => [(0, str t), (5, str t), (6, int (numV (t.take k))), (47, .slice (c8 gb) t.length cap), (48, int t.length), (49, int k)], fun _ => [], fun _ => [Row (c8 gb) (rows t)]⟩ (fun k => t.length - k) 0 (Nat.zero_le _) mC nil_sb mC fun k hk => ?_; have hb := xE hd hl.2 k; refine i8 (B6 rfl rfl rfl (d8 (j4 ?_)))
    first | refine m3 rfl (fun hb4 => ?_) (fun hb4 => ?_) | refine j7 rfl (fun hb4 => ?_) (fun hb4 => ?_)
    ·have hb4' := hb4; try simp at hb4'
     have hk1 : k < t.length := by omega
     have hdk := aW (List.all_eq_true.1 hd _ (List.getElem_mem hk1)); refine k6 (j6 (j4 (k9 (i8 ?_)))); refine v6 (α := UInt8) _ _ rfl T.Z4 T.wR rfl rfl rfl mB rfl (by omega) (by decide) ?_; refine b8 rfl T.cell_u8 rfl (d6 m0 (c9 hk1 (by rw [A7 hk1]; rfl))) ?_; refine d5 rfl (k8 (c7 rfl ?_)); refine m7 (.int .u8 ((t[k].toNat : Int) - 48)) rfl rfl rfl (fun _ => rfl) (fun w => by show Result.ok (Value.int .u8 (IntKind.u8.wrap ((t[k].toNat : Int) - 48))) w = _; rw [IntWalk.u8_in _ (by omega)]) ?_; refine d5 rfl (d8 (j4 (i8 (c7 rfl (R0 rfl rfl rfl (d8 ?_))))))
     first | refine m3 rfl (fun hb5 => ?_) (fun hb5 => ?_) | refine j7 rfl (fun hb5 => ?_) (fun hb5 => ?_)
     ·omega
     have hb5' := hb5; try simp at hb5'
     refine k6 (j6 (j8 (c7 rfl ?_))); refine cx9 (numV (t.take k) * 10) rfl rfl rfl rfl r5 (c7 rfl (X5 ((t[k].toNat : Int) - 48) rfl T.lj0 T.pP rfl (IntWalk.i64_in _ (by omega)) ?_)); refine v4 (numV (t.take (k + 1))) rfl rfl rfl (rj1 hk1).symm (by have := xE hd hl.2 (k + 1); unfold I64; omega) ?_; refine d5 rfl (d4 (y6 (j6 (j8 ?_)))); refine v4 _ rfl rfl rfl rfl r5 ?_; refine c7 rfl (d4 ?_); exact again _ (k + 1) (by show k + 1 ≤ t.length; omega) (D5 (by omega)) mC nil_sb mC
    have hb4' := hb4; try simp at hb4'
    have hk1 : k = t.length := by omega
    subst hk1; refine u9 (D6 (u5 (j6 (j4 (i8 (c7 rfl ?_)))))); refine H7 0 rfl T.v8 rfl rfl rfl (List.getElem?_eq_getElem hl.1) ?_; refine H0 rfl rfl rfl (d8 ?_)
    first | refine m3 rfl (fun hb6 => ?_) (fun hb6 => ?_) | refine j7 rfl (fun hb6 => ?_) (fun hb6 => ?_)
    ·omega
    have hb6' := hb6; try simp at hb6'
    refine k6 (j6 (i8 (c7 rfl (d5 rfl (d5 rfl (d8 (N4 ?_))))))); exact ret2 () rfl rfl rfl (by rw [List.take_length]) rfl trivial nil_sb trivial
   intro hg2; have hg2' := hg2; try simp at hg2'
   all_goals omega
  omega
 intro hg1; have hg1' := hg1; try simp at hg1'
 exact absurd hg1 (by rw [decide_eq_true (show (0 : Int) < (t.length : Int) by omega)]; decide)
theorem gj7 (t : Str) (hl : 0 < t.length ∧ t.length ≤ 3) (hd : t.all isDig = true) : Meets Tryz.prog F.lV [str t] { val := fun _ : Unit => .tuple #[int (numV t), .nilIface] } := by
 refine i9 F.cq9 rfl r6 fun w0 => ?_; refine i8 (d5 rfl (d5 rfl (k8 (c7 rfl ?_)))); refine k5 F.jX rfl rfl (mx5 t hl hd) p6 trivial fun _ _ => ?_; refine c7 rfl (p8 rfl rfl rfl (p8 rfl rfl rfl (d5 rfl (d5 rfl (d8 (j4 (i8 (c7 rfl ?_)))))))); refine m7 (.bool false) rfl rfl rfl (fun _ => rfl) (fun _ => rfl) ?_; refine d8 ?_; refine c_f rfl (by first | rfl | assumption | exact bf1 (by assumption) | exact bf2 (by assumption)) ?_; refine k6 (j6 (i8 (c7 rfl (d5 rfl (d5 rfl (d8 (l5 ?_))))))); exact ret2 () rfl rfl rfl rfl rfl trivial nil_sb trivial
abbrev oddV : Value := .iface T.mx1 (.agg #[])
theorem z8 (t : Str) (ht : t.length ≤ 1000000) : MeetsE Tryz.prog F.rP [str t] { inv := fun z : Int => numS t = some z, val := fun z => int z } { inv := fun _ : Unit => numS t = none, val := fun _ => oddV } := by
 refine mJ F.hj9 rfl r6 fun w0 => ?_; refine i8 (d5 rfl (d8 (j4 (i8 (c7 rfl ?_))))); refine E6 rfl T.v8 rfl ?_; refine H0 rfl rfl rfl (c7 rfl ?_); refine u6 rfl rfl ?_ ?_
 ·intro hg1; have hg1' := hg1; try simp at hg1'
  refine l3 rfl rfl hg1 (c7 rfl (l3 rfl rfl hg1 ?_)); refine E6 rfl T.v8 rfl ?_; refine l3 rfl rfl hg1 (R0 rfl rfl rfl ?_); refine p_f rfl rfl (bf1 hg1) rfl (c7 rfl ?_); refine u6 rfl rfl ?_ ?_
  ·intro hg2; have hg2' := hg2; try simp at hg2'
   refine l3 rfl rfl hg2 (c7 rfl (l3 rfl rfl hg2 ?_)); refine E6 rfl T.v8 rfl ?_; refine l3 rfl rfl hg2 (R0 rfl rfl rfl (l3 rfl rfl hg2 (c7 rfl ?_))); refine u6 rfl rfl ?_ ?_
   ·intro hg3; have hg3' := hg3; try simp at hg3'
    refine l3 rfl rfl hg3 (c7 rfl (l3 rfl rfl hg3 ?_)); refine H7 0 rfl T.v8 rfl rfl rfl (List.getElem?_eq_getElem (by first | omega | exact List.length_pos_iff.2 (by assumption))) ?_; refine l3 rfl rfl hg3 (H0 rfl rfl rfl (l3 rfl rfl hg2 ?_)); refine p_t rfl rfl (bt1 hg3) rfl (p_f rfl rfl (bf1 hg2) rfl (c7 rfl ?_)); refine u6 rfl rfl ?_ ?_
    ·intro hg4; have hg4' := hg4; try simp at hg4'
     refine l3 rfl rfl hg4 (c7 rfl (l3 rfl rfl hg4 ?_)); refine k5 F.nK rfl rfl (gU t ht) (.refl _) trivial fun _ _ => ?_; refine l3 rfl rfl hg4 (cx6 rfl rfl rfl ?_); refine p_f rfl rfl (bf1 hg4) rfl ?_; refine d8 ?_
     first | refine m3 rfl (fun hb1 => ?_) (fun hb1 => ?_) | refine j7 rfl (fun hb1 => ?_) (fun hb1 => ?_)
     ·have hb1' := hb1; try simp at hb1'
      refine j8 ?_; refine u4 _ rfl rfl (fun _ => T.I6 ..) (cH rfl ⟨_, Tryz.underlying130, rfl⟩ rfl (aL rfl (fun _ => rfl) ?_))
      repeat (first | refine E7 ?_ | refine I4 ?_)
      exact K9 () rfl rfl (by first | exact U4 (by omega) | exact U4 (.inl (by rw [show t = [] by assumption]; rfl)) | exact kY (by omega) (by assumption) | exact kX (fun h => by have h9 := gO.2 h; simp_all)) (.refl _) trivial
     have hb1' := hb1; try simp at hb1'
     have hd : t.all isDig = true := gO.1 (by simpa using hb1); refine k6 (j6 (i8 (c7 rfl ?_))); refine k5 F.nL rfl rfl (gj7 t ⟨(by first | omega | exact List.length_pos_iff.2 (by assumption)), by omega⟩ hd) (.refl _) trivial fun _ _ => ?_; refine c7 rfl (p8 rfl rfl rfl (p8 rfl rfl rfl (d5 rfl (d5 rfl (k8 (c7 rfl (d5 rfl (d4 ?_)))))))); refine j6 (l5 (hq_E ?_)); exact ret1 (numV t) rfl rfl rfl (lz1 (by first | omega | exact List.length_pos_iff.2 (by assumption)) (by omega) (by first | (intro _; assumption) | (intro h; exact absurd h (by omega))) hd) (.refl _) trivial
    intro hg4; have hg4' := hg4; try simp at hg4'
    refine t4 rfl rfl rfl rfl rfl hg4 (t4 rfl rfl rfl rfl rfl hg4 (t4 rfl rfl rfl rfl rfl hg4 ?_)); refine p_t rfl rfl (bt2 hg4) rfl ?_; refine d8 (c_t rfl rfl (j8 ?_)); refine u4 _ rfl rfl (fun _ => T.I6 ..) (cH rfl ⟨_, Tryz.underlying130, rfl⟩ rfl (aL rfl (fun _ => rfl) ?_))
    repeat (first | refine E7 ?_ | refine I4 ?_)
    exact K9 () rfl rfl (by first | exact U4 (by omega) | exact U4 (.inl (by rw [show t = [] by assumption]; rfl)) | exact kY (by omega) (by assumption) | exact kX (fun h => by have h9 := gO.2 h; simp_all)) (.refl _) trivial
   intro hg3; have hg3' := hg3; try simp at hg3'
   refine t4 rfl rfl rfl rfl rfl hg3 (t4 rfl rfl rfl rfl rfl hg3 (t4 rfl rfl rfl rfl rfl hg3 (l3 rfl rfl hg2 ?_))); refine p_f rfl rfl (bf2 hg3) rfl (p_f rfl rfl (bf1 hg2) rfl ?_); refine c7 rfl (l3 rfl rfl rfl (c7 rfl (l3 rfl rfl rfl ?_))); refine k5 F.nK rfl rfl (gU t ht) (.refl _) trivial fun _ _ => ?_; refine l3 rfl rfl rfl (cx6 rfl rfl rfl (p_f rfl rfl rfl rfl (d8 ?_)))
   first | refine m3 rfl (fun hb1 => ?_) (fun hb1 => ?_) | refine j7 rfl (fun hb1 => ?_) (fun hb1 => ?_)
   ·have hb1' := hb1; try simp at hb1'
    refine j8 ?_; refine u4 _ rfl rfl (fun _ => T.I6 ..) (cH rfl ⟨_, Tryz.underlying130, rfl⟩ rfl (aL rfl (fun _ => rfl) ?_))
    repeat (first | refine E7 ?_ | refine I4 ?_)
    exact K9 () rfl rfl (by first | exact U4 (by omega) | exact U4 (.inl (by rw [show t = [] by assumption]; rfl)) | exact kY (by omega) (by assumption) | exact kX (fun h => by have h9 := gO.2 h; simp_all)) (.refl _) trivial
   have hb1' := hb1; try simp at hb1'
   have hd : t.all isDig = true := gO.1 (by simpa using hb1); refine k6 (j6 (i8 (c7 rfl ?_))); refine k5 F.nL rfl rfl (gj7 t ⟨(by first | omega | exact List.length_pos_iff.2 (by assumption)), by omega⟩ hd) (.refl _) trivial fun _ _ => ?_; refine c7 rfl (p8 rfl rfl rfl (p8 rfl rfl rfl (d5 rfl (d5 rfl (k8 (c7 rfl (d5 rfl (d4 ?_)))))))); refine j6 (l5 (hq_E ?_)); exact ret1 (numV t) rfl rfl rfl (lz1 (by first | omega | exact List.length_pos_iff.2 (by assumption)) (by omega) (by first | (intro _; assumption) | (intro h; exact absurd h (by omega))) hd) (.refl _) trivial
  intro hg2; have hg2' := hg2; try simp at hg2'
  refine t4 rfl rfl rfl rfl rfl hg2 (t4 rfl rfl rfl rfl rfl hg2 (t4 rfl rfl rfl rfl rfl hg2 (t4 rfl rfl rfl rfl rfl hg2 (P0 rfl rfl rfl rfl rfl rfl (P0 rfl rfl rfl rfl rfl rfl (P0 rfl rfl rfl rfl rfl rfl (t4 rfl rfl rfl rfl rfl hg2 ?_))))))); refine p_t rfl rfl (bt2 hg2) rfl ?_; refine c7 rfl (t4 rfl rfl rfl rfl rfl rfl (t4 rfl rfl rfl rfl rfl rfl (t4 rfl rfl rfl rfl rfl rfl (p_t rfl rfl rfl rfl (d8 (c_t rfl rfl (j8 ?_))))))); refine u4 _ rfl rfl (fun _ => T.I6 ..) (cH rfl ⟨_, Tryz.underlying130, rfl⟩ rfl (aL rfl (fun _ => rfl) ?_))
  repeat (first | refine E7 ?_ | refine I4 ?_)
  exact K9 () rfl rfl (by first | exact U4 (by omega) | exact U4 (.inl (by rw [show t = [] by assumption]; rfl)) | exact kY (by omega) (by assumption) | exact kX (fun h => by have h9 := gO.2 h; simp_all)) (.refl _) trivial
 intro hg1; have hg1' := hg1; try simp at hg1'
 refine t4 rfl rfl rfl rfl rfl hg1 (t4 rfl rfl rfl rfl rfl hg1 (t4 rfl rfl rfl rfl rfl hg1 ?_)); refine p_t rfl rfl (bt2 hg1) rfl ?_; refine c7 rfl (t4 rfl rfl rfl rfl rfl rfl (t4 rfl rfl rfl rfl rfl rfl (t4 rfl rfl rfl rfl rfl rfl (t4 rfl rfl rfl rfl rfl rfl (P0 rfl rfl rfl rfl rfl rfl (P0 rfl rfl rfl rfl rfl rfl (P0 rfl rfl rfl rfl rfl rfl (t4 rfl rfl rfl rfl rfl rfl (p_t rfl rfl rfl rfl (c7 rfl (t4 rfl rfl rfl rfl rfl rfl ?_))))))))))); refine t4 rfl rfl rfl rfl rfl rfl (t4 rfl rfl rfl rfl rfl rfl (p_t rfl rfl rfl rfl (d8 (c_t rfl rfl (j8 ?_))))); refine u4 _ rfl rfl (fun _ => T.I6 ..) (cH rfl ⟨_, Tryz.underlying130, rfl⟩ rfl (aL rfl (fun _ => rfl) ?_))
 repeat (first | refine E7 ?_ | refine I4 ?_)
 exact K9 () rfl rfl (by first | exact U4 (by omega) | exact U4 (.inl (by rw [show t = [] by assumption]; rfl)) | exact kY (by omega) (by assumption) | exact kX (fun h => by have h9 := gO.2 h; simp_all)) (.refl _) trivial
end Go.Proofs.YtcdopfjiadifhaaGreatDoor
end
section
namespace Go.Proofs.YtcdopfjiadifhaaGreatDoor
open Go Go.W
set_option maxRecDepth 20000
attribute [local irreducible] HL HC HQ HB Row Rows2 Blk Facts
section
variable {c : Cx} {Q : Exit → Act → World → Prop} {fr : Fr} {hp : Hp} {L : List Fact} {ops : Array Oper} {rest : List Oper} {d : Tmp} {ty : TypeId} {pos : String} {af : Array Edge}
theorem cx8 {t e : TypeId} {x lo hi : Operand} {g n : Nat} {kd kd' : IntKind} {z z' : Int} (l h : Nat) (hd : Nat.blt d c.n = true) (ht : c.P.underlying t = some (.array n e)) (hz : Sz c.P e 1)
    (hx : ev fr x = some (.pointer (c8 g))) (hl : ev fr lo = some (.int kd z)) (hlz : z = (l : Int)) (hh : ev fr hi = some (.int kd' z')) (hhz : z' = (h : Int)) (hle : l ≤ h) (hle' : h ≤ n) (hln : l < n)
    (k : HL c ops Q rest ((d, .slice (some ⟨g, l, none⟩) (h - l) (n - l)) :: fr) hp L) : HL c ops Q (⟨some d, .slice t x (some lo) (some hi) none, ty, pos, af, none⟩ :: rest) fr hp L :=
  C0 _ rfl rfl hd (fun a w ha _ => by
    simp only [execOp, ha.ev hx, Option.map_some, Option.map_none, ha.ev hl, ha.ev hh, Sem.run_bind]
    simp [Instr.sliceAt, Instr.sliceBounds, run_underlying ht, Y1 hlz hle, Y1 hhz hle', O6 hz, Instr.sureAddr, Addr.add, show ¬ n = l by omega]
    by_cases h0 : l = 0 <;> simp [h0]) k
theorem sz3 {t yt : TypeId} {x y : Operand} {ky : IntKind} {z : Int} {a : Nat} (n : Nat) (hd : Nat.blt d c.n = true) (hx : ev fr x = some (.int .u64 (a : Int))) (hy : ev fr y = some (.int ky z)) (hz : z = (n : Int)) (hn : n < 64) (k : HL c ops Q rest ((d, .int .u64 ((a / 2 ^ n : Nat) : Int)) :: fr) hp L) :
    HL c ops Q (⟨some d, .binOp .shr t x y yt, ty, pos, af, none⟩ :: rest) fr hp L :=
  m7 _ hd hx hy (fun _ => rfl) (fun w => by
    subst hz; show (Op.shift .shr .u64 (a : Int) ky (n : Int)).run c.P w = _; have hm : min ((n : Int).toNat) (IntKind.u64.bits) = n := by show min ((n : Int).toNat) 64 = n; omega
    simp only [Op.shift]; rw [if_neg (by omega), hm, Int.fdiv_eq_ediv_of_nonneg _ (by exact_mod_cast Nat.zero_le (2 ^ n))]
    rfl) k
end
def powL : List Value := [.int .u64 1, .int .u64 10, .int .u64 100, .int .u64 1000]
abbrev TAB : Fact := Row (c8 0) powL
def lenAt (n : Nat) : UInt8 := if n = 0 then 0 else if n < 2 then 1 else if n < 4 then 2 else if n < 8 then 3 else if n < 16 then 4 else if n < 32 then 5 else if n < 64 then 6 else if n < 128 then 7 else 8
def lenS : Str := (List.range 256).map lenAt
theorem pz4 {n : Nat} (h : n < 256) : lenS[n]? = some (lenAt n) := by
  unfold lenS; rw [List.getElem?_map, List.getElem?_range h]
  rfl
def bitsZ (n : Nat) : Int := if n < 128 then 7 else if n < 256 then 8 else if n < 512 then 9 else 10
theorem bits_lo {n : Nat} (h : 100 ≤ n ∧ n < 256) : IntKind.i64.wrap ((lenAt n).toNat : Int) = bitsZ n := by
  have hall : (List.range 256).all (fun n => decide (n < 100) || decide (IntKind.i64.wrap ((lenAt n).toNat : Int) = bitsZ n)) = true := by kernel_rfl
  have := List.all_eq_true.1 hall n (List.mem_range.2 h.2); simp only [Bool.or_eq_true, decide_eq_true_eq] at this; exact this.resolve_left (by omega)
theorem bits_hi {n : Nat} (h : 256 ≤ n ∧ n < 1000) : IntKind.i64.wrap ((lenAt (n / 2 ^ 8)).toNat : Int) = bitsZ n - 8 := by
  have hall : (List.range 1000).all (fun n => decide (n < 256) || decide (IntKind.i64.wrap ((lenAt (n / 2 ^ 8)).toNat : Int) = bitsZ n - 8)) = true := by kernel_rfl
  have := List.all_eq_true.1 hall n (List.mem_range.2 h.2); simp only [Bool.or_eq_true, decide_eq_true_eq] at this; exact this.resolve_left (by omega)
theorem qj9 (n : Nat) : 7 ≤ bitsZ n ∧ bitsZ n ≤ 10 := by unfold bitsZ; repeat' split <;> omega
theorem wr8 {n : Nat} (h : n < 256) : IntKind.u8.wrap (n : Int) = n := IntWalk.u8_in _ (by omega)
def smS : Str := prsS
theorem tj3 {m : Nat} (h : m < 100) : prsS[2 * m]? = some (UInt8.ofNat (48 + m / 10)) := by
  have hall : (List.range 100).all (fun m => decide (prsS[2 * m]? = some (UInt8.ofNat (48 + m / 10)))) = true := by kernel_rfl
  simpa using List.all_eq_true.1 hall m (List.mem_range.2 h)
theorem prs_odd {m : Nat} (h : m < 100) : prsS[2 * m + 1]? = some (UInt8.ofNat (48 + m % 10)) := by
  have hall : (List.range 100).all (fun m => decide (prsS[2 * m + 1]? = some (UInt8.ofNat (48 + m % 10)))) = true := by kernel_rfl
  simpa using List.all_eq_true.1 hall m (List.mem_range.2 h)
theorem dig_c (n : Nat) : ((UInt8.ofNat (48 + n % 100 % 10)).toNat : Int) = ((48 + n % 10 : Nat) : Int) := by rw [UInt8.toNat_ofNat']; omega
theorem dig_b (n : Nat) : ((UInt8.ofNat (48 + n % 100 / 10)).toNat : Int) = ((48 + n / 10 % 10 : Nat) : Int) := by rw [UInt8.toNat_ofNat']; omega
theorem tq4 (n : Nat) (hn : 100 ≤ n ∧ n < 256) : Meets Tryz.prog F.S2 [.int .u64 (n : Int)] { val := fun _ : Unit => int (bitsZ n) } := by
 refine i9 F.iY rfl r6 fun w0 => ?_; refine i8 (d5 rfl (d8 (j4 (i8 (c7 rfl (X2 rfl rfl rfl (d8 ?_)))))))
 first | refine m3 rfl (fun hb1 => ?_) (fun hb1 => ?_) | refine j7 rfl (fun hb1 => ?_) (fun hb1 => ?_)
 ·exact absurd hb1 (by omega)
 have hb1' := hb1; try simp at hb1'
 refine k6 (j6 (j4 (i8 (c7 rfl (X2 rfl rfl rfl (d8 ?_))))))
 first | refine m3 rfl (fun hb2 => ?_) (fun hb2 => ?_) | refine j7 rfl (fun hb2 => ?_) (fun hb2 => ?_)
 ·exact absurd hb2 (by omega)
 have hb2' := hb2; try simp at hb2'
 refine k6 (j6 (j4 (i8 (c7 rfl (X2 rfl rfl rfl (d8 ?_))))))
 first | refine m3 rfl (fun hb3 => ?_) (fun hb3 => ?_) | refine j7 rfl (fun hb3 => ?_) (fun hb3 => ?_)
 ·exact absurd hb3 (by omega)
 have hb3' := hb3; try simp at hb3'
 refine k6 (j6 (i8 (c7 rfl (c7 rfl ?_)))); refine X5 (n : Int) rfl T.cj9 T.lj0 rfl (wr8 (by omega)) (H7 (s := lenS) n rfl T.v8 (by kernel_rfl) rfl rfl (pz4 (by omega)) (X5 (bitsZ n) rfl T.lj0 T.pP rfl (bits_lo hn) ?_)); refine v4 (bitsZ n) rfl rfl rfl (by omega) (by have := qj9 n; unfold I64; omega) ?_; refine d5 rfl (d8 (l5 ?_)); exact ret1 () rfl rfl rfl trivial nil_sb trivial
theorem tq5 (n : Nat) (hn : 256 ≤ n ∧ n < 1000) : Meets Tryz.prog F.S2 [.int .u64 (n : Int)] { val := fun _ : Unit => int (bitsZ n) } := by
 refine i9 F.iY rfl r6 fun w0 => ?_; refine i8 (d5 rfl (d8 (j4 (i8 (c7 rfl (X2 rfl rfl rfl (d8 ?_)))))))
 first | refine m3 rfl (fun hb1 => ?_) (fun hb1 => ?_) | refine j7 rfl (fun hb1 => ?_) (fun hb1 => ?_)
 ·exact absurd hb1 (by omega)
 have hb1' := hb1; try simp at hb1'
 refine k6 (j6 (j4 (i8 (c7 rfl (X2 rfl rfl rfl (d8 ?_))))))
 first | refine m3 rfl (fun hb2 => ?_) (fun hb2 => ?_) | refine j7 rfl (fun hb2 => ?_) (fun hb2 => ?_)
 ·exact absurd hb2 (by omega)
 have hb2' := hb2; try simp at hb2'
 refine k6 (j6 (j4 (i8 (c7 rfl (X2 rfl rfl rfl (d8 ?_))))))
 first | refine m3 rfl (fun hb3 => ?_) (fun hb3 => ?_) | refine j7 rfl (fun hb3 => ?_) (fun hb3 => ?_)
 ·have hb3' := hb3; try simp at hb3'
  refine i8 (c7 rfl ?_); refine sz3 8 rfl rfl rfl rfl (by decide) ?_; refine d5 rfl (d8 (j8 (c7 rfl ?_))); refine v4 8 rfl rfl rfl (by omega) r5 ?_; refine d5 rfl (k8 (c7 rfl (c7 rfl ?_))); refine X5 ((n / 2 ^ 8 : Nat) : Int) rfl T.cj9 T.lj0 rfl (wr8 (by omega)) (H7 (s := lenS) (n / 2 ^ 8) rfl T.v8 (by kernel_rfl) rfl rfl (pz4 (by omega)) (X5 (bitsZ n - 8) rfl T.lj0 T.pP rfl (bits_hi hn) ?_)); refine v4 (bitsZ n) rfl rfl rfl (by omega) (by have := qj9 n; unfold I64; omega) ?_; refine d5 rfl (d8 (l5 ?_)); exact ret1 () rfl rfl rfl trivial nil_sb trivial
 exact absurd (show (256 : Int) ≤ (n : Int) by omega) hb3
theorem log10_7 : Meets Tryz.prog F.B8 [int 7] { val := fun _ : Unit => int 2 } := by
 refine i9 F.H4 rfl r6 fun w0 => ?_; refine i8 (d5 rfl (k8 (c7 rfl ?_))); refine m7 (int 552391) rfl rfl rfl (fun _ => rfl) (fun _ => rfl) (m7 (int 2) rfl rfl rfl (fun _ => rfl) (fun _ => rfl) ?_); refine d5 rfl (d8 (l5 ?_)); exact ret1 () rfl rfl rfl trivial nil_sb trivial
theorem log10_8 : Meets Tryz.prog F.B8 [int 8] { val := fun _ : Unit => int 2 } := by
 refine i9 F.H4 rfl r6 fun w0 => ?_; refine i8 (d5 rfl (k8 (c7 rfl ?_))); refine m7 (int 631304) rfl rfl rfl (fun _ => rfl) (fun _ => rfl) (m7 (int 2) rfl rfl rfl (fun _ => rfl) (fun _ => rfl) ?_); refine d5 rfl (d8 (l5 ?_)); exact ret1 () rfl rfl rfl trivial nil_sb trivial
theorem log10_9 : Meets Tryz.prog F.B8 [int 9] { val := fun _ : Unit => int 2 } := by
 refine i9 F.H4 rfl r6 fun w0 => ?_; refine i8 (d5 rfl (k8 (c7 rfl ?_))); refine m7 (int 710217) rfl rfl rfl (fun _ => rfl) (fun _ => rfl) (m7 (int 2) rfl rfl rfl (fun _ => rfl) (fun _ => rfl) ?_); refine d5 rfl (d8 (l5 ?_)); exact ret1 () rfl rfl rfl trivial nil_sb trivial
theorem tq3 : Meets Tryz.prog F.B8 [int 10] { val := fun _ : Unit => int 3 } := by
 refine i9 F.H4 rfl r6 fun w0 => ?_; refine i8 (d5 rfl (k8 (c7 rfl ?_))); refine m7 (int 789130) rfl rfl rfl (fun _ => rfl) (fun _ => rfl) (m7 (int 3) rfl rfl rfl (fun _ => rfl) (fun _ => rfl) ?_); refine d5 rfl (d8 (l5 ?_)); exact ret1 () rfl rfl rfl trivial nil_sb trivial
theorem ax4 (n : Nat) (hn : 100 ≤ n ∧ n < 1000) : Meets Tryz.prog F.B8 [int (bitsZ n)] { val := fun _ : Unit => int (if n < 512 then 2 else 3) } := by
  unfold bitsZ
  by_cases h1 : n < 128
  · rw [if_pos h1, if_pos (by omega)]; exact log10_7
  by_cases h2 : n < 256
  · rw [if_neg h1, if_pos h2, if_pos (by omega)]; exact log10_8
  by_cases h3 : n < 512
  · rw [if_neg h1, if_neg h2, if_pos h3, if_pos h3]; exact log10_9
  rw [if_neg h1, if_neg h2, if_neg h3, if_neg h3]; exact tq3
theorem ax5 (n : Nat) (hn : 100 ≤ n ∧ n < 1000) : Meets Tryz.prog F.S2 [.int .u64 (n : Int)] { val := fun _ : Unit => int (bitsZ n) } := by
  by_cases h : n < 256
  · exact tq4 n ⟨hn.1, h⟩
  exact tq5 n ⟨by omega, hn.2⟩
theorem pj5 : Meets Tryz.prog F.I3 [.bool true] { val := fun _ : Unit => int 1 } := by
 refine i9 F.S4 rfl r6 fun w0 => ?_; refine i8 (d5 rfl (d8 (j4 (i8 (c7 rfl (d8 ?_)))))); refine c_t rfl (by first | rfl | assumption | exact bt1 (by assumption) | exact bt2 (by assumption)) ?_; refine i8 (d5 rfl (d8 (N4 ?_))); exact ret1 () rfl rfl rfl trivial nil_sb trivial
theorem mq8 : Meets Tryz.prog F.I3 [.bool false] { val := fun _ : Unit => int 0 } := by
 refine i9 F.S4 rfl r6 fun w0 => ?_; refine i8 (d5 rfl (d8 (j4 (i8 (c7 rfl (d8 ?_)))))); refine c_f rfl (by first | rfl | assumption | exact bf1 (by assumption) | exact bf2 (by assumption)) ?_; refine k6 (j6 (i8 (d5 rfl (d8 (l5 ?_))))); exact ret1 () rfl rfl rfl trivial nil_sb trivial
theorem jz1 (n : Nat) (hn : 100 ≤ n ∧ n < 1000) (h : n < 512) : Meets Tryz.prog F.E9 [.int .u64 (n : Int)] { LI := [TAB], val := fun _ : Unit => int 3 } := by
 have hl := ax4 n hn; rw [if_pos h] at hl; refine i9 F.S3 rfl r6 fun w0 => ?_; refine i8 (d5 rfl (k8 (c7 rfl ?_))); refine k5 F.iB rfl rfl (ax5 n hn) (.refl _) trivial fun _ _ => ?_; refine k5 F.R1 rfl rfl (hl) (.refl _) trivial fun _ _ => ?_; refine d5 rfl (k8 (c7 rfl (c7 rfl (c7 rfl ?_)))); refine V9 2 2 rfl Tryz.underlying187 T.zA rfl rfl rfl (by decide) rfl (b8 (v := .int .u64 100) rfl T.y7 rfl (d6 (j := 2) mB rfl) (X2 rfl rfl rfl ?_)); rw [show decide ((100 : Int) ≤ (n : Int)) = true from decide_eq_true (by omega)]; refine k5 F.R2 rfl rfl (pj5) (.refl _) trivial fun _ _ => ?_; refine v4 3 rfl rfl rfl rfl r5 ?_; refine d5 rfl (d8 (l5 ?_)); exact ret1 () rfl rfl rfl trivial nil_sb trivial
theorem jz2 (n : Nat) (hn : 100 ≤ n ∧ n < 1000) (h : ¬ n < 512) : Meets Tryz.prog F.E9 [.int .u64 (n : Int)] { LI := [TAB], val := fun _ : Unit => int 3 } := by
 have hl := ax4 n hn; rw [if_neg h] at hl; refine i9 F.S3 rfl r6 fun w0 => ?_; refine i8 (d5 rfl (k8 (c7 rfl ?_))); refine k5 F.iB rfl rfl (ax5 n hn) (.refl _) trivial fun _ _ => ?_; refine k5 F.R1 rfl rfl (hl) (.refl _) trivial fun _ _ => ?_; refine d5 rfl (k8 (c7 rfl (c7 rfl (c7 rfl ?_)))); refine V9 3 3 rfl Tryz.underlying187 T.zA rfl rfl rfl (by decide) rfl (b8 (v := .int .u64 1000) rfl T.y7 rfl (d6 (j := 3) mB rfl) (X2 rfl rfl rfl ?_)); rw [show decide ((1000 : Int) ≤ (n : Int)) = false from decide_eq_false (by omega)]; refine k5 F.R2 rfl rfl (mq8) (.refl _) trivial fun _ _ => ?_; refine v4 3 rfl rfl rfl rfl r5 ?_; refine d5 rfl (d8 (l5 ?_)); exact ret1 () rfl rfl rfl trivial nil_sb trivial
theorem bj8 (n : Nat) (hn : 100 ≤ n ∧ n < 1000) : Meets Tryz.prog F.E9 [.int .u64 (n : Int)] { LI := [TAB], val := fun _ : Unit => int 3 } := by
  by_cases h : n < 512
  · exact jz1 n hn h
  exact jz2 n hn h
def arr (a b c : Nat) : Array Value := #[.int .u8 0, .int .u8 a, .int .u8 b, .int .u8 c, (.int .u8 0), (.int .u8 0), (.int .u8 0), (.int .u8 0), (.int .u8 0), (.int .u8 0), (.int .u8 0), (.int .u8 0), (.int .u8 0), (.int .u8 0), (.int .u8 0), (.int .u8 0), (.int .u8 0), (.int .u8 0), (.int .u8 0), (.int .u8 0), (.int .u8 0), (.int .u8 0), (.int .u8 0), (.int .u8 0)]
abbrev arO (g a b c : Nat) : Nat × Obj := (g, Obj.cells (arr a b c) T.jj0 (0, 0))
set_option maxHeartbeats 1000000 in
theorem vA (g n : Nat) (hn : 100 ≤ n ∧ n < 1000) : Meets Tryz.prog F.J7 [.slice (some ⟨g, 1, none⟩) 3 23, .int .u64 (n : Int)] { hpI := [arO g 0 0 0], hpO := fun _ => [arO g (48 + n / 100) (48 + n / 10 % 10) (48 + n % 10)], val := fun _ : Unit => .tuple #[] } := by
 refine i9 F.aZ rfl r6 fun w0 => ?_; refine i8 (c7 rfl ?_); refine l7 rfl T.Z4 rfl ?_; refine d5 rfl (d8 (j4 (k9 ?_))); refine w3 (β := Unit) ⟨fun _ => True, fun _ => [(0, .slice (some ⟨g, 1, none⟩) 3 23), (1, .int .u64 (n : Int)), (4, int 3)], fun _ => [arO g 0 0 0], fun _ => []⟩ (fun _ => 0) () trivial mC (.refl _) trivial fun _ _ => ?_; refine j4 (i8 (c7 rfl (X2 rfl rfl rfl (d8 ?_)))); refine c_f rfl (by first | rfl | assumption | exact bf1 (by assumption) | exact bf2 (by assumption)) ?_; refine u9 (D6 (u5 (j6 (i8 (c7 rfl ?_))))); refine X5 (n : Int) rfl T.cj9 T.kz9 rfl (IntWalk.u32_in _ (by omega)) ?_; refine d5 rfl (d8 (j4 (i8 (c7 rfl (X2 rfl rfl rfl (d8 ?_))))))
 first | refine m3 rfl (fun hb2 => ?_) (fun hb2 => ?_) | refine j7 rfl (fun hb2 => ?_) (fun hb2 => ?_)
 ·exact absurd hb2 (by omega)
 have hb2' := hb2; try simp at hb2'
 refine k6 (j6 (j4 (i8 (c7 rfl (X2 rfl rfl rfl (d8 ?_))))))
 first | refine m3 rfl (fun hb3 => ?_) (fun hb3 => ?_) | refine j7 rfl (fun hb3 => ?_) (fun hb3 => ?_)
 ·have hb3' := hb3; try simp at hb3'
  refine i8 (c7 rfl ?_); refine r_rem rfl rfl rfl (by omega) ?_; rw [show Int.tmod (n : Int) 100 = ((n % 100 : Nat) : Int) from rfl]; refine m7 (.int .u32 ((2 * (n % 100) : Nat) : Int)) rfl rfl rfl (fun _ => rfl) (fun w => by show Result.ok (Value.int .u32 (IntKind.u32.wrap (((n % 100 : Nat) : Int) * 2))) w = _; rw [IntWalk.u32_in _ (by omega), show ((n % 100 : Nat) : Int) * 2 = ((2 * (n % 100) : Nat) : Int) by omega]) ?_; refine d5 rfl (k8 (c7 rfl ?_)); refine r_quo ((n / 100 : Nat) : Int) rfl rfl rfl (by omega) (by rw [show Int.tdiv (n : Int) 100 = ((n / 100 : Nat) : Int) from rfl]; exact IntWalk.u32_in _ (by omega)) ?_; refine d5 rfl (d8 (j4 ?_)); refine S6 ([arO g 0 0 0]) ([]) (.refl _) 13 [12] mixed (by decide) (by decide) (by decide) rfl rfl rfl (l9 (fun w1 => c7 rfl (q_z rfl)) (l9 (fun w1 => c7 rfl (q_z rfl)) (l9 (fun w1 => S1 2 rfl rfl rfl rfl r5 (q_z rfl)) (l9 (fun w1 => c7 rfl (q_z rfl)) (l9 (fun w1 => c7 rfl (q_z rfl)) (l9 (fun w1 => S1 1 rfl rfl rfl rfl r5 (q_z rfl)) (l9 (fun w1 => c7 rfl (q_z rfl)) ?_))))))); refine l9 (fun w1 => m7 (.int .u32 ((2 * (n % 100) + 1 : Nat) : Int)) rfl rfl rfl (fun _ => rfl) (fun w => by show Result.ok (Value.int .u32 (IntKind.u32.wrap (((2 * (n % 100) : Nat) : Int) + 1))) w = _; rw [IntWalk.u32_in _ (by omega), show ((2 * (n % 100) : Nat) : Int) + 1 = ((2 * (n % 100) + 1 : Nat) : Int) by omega]) (q_z rfl)) ?_
  apply m8 _ rfl rfl rfl
  ·intro w1; refine H7 (s := prsS) (2 * (n % 100) + 1) rfl T.v8 (by kernel_rfl) rfl rfl (prs_odd (by omega)) ?_; rw [dig_c]; refine d4 ?_; exact k4 rfl
  refine l9 (fun w1 => c7 rfl (q_z rfl)) ?_
  apply m8 _ rfl rfl rfl
  ·intro w1; refine H7 (s := prsS) (2 * (n % 100)) rfl T.v8 (by kernel_rfl) rfl rfl (tj3 (by omega)) ?_; rw [dig_b]; refine d4 ?_; exact k4 rfl
  refine l9 (fun w1 => y0 2 3 rfl T.Z4 T.wR rfl rfl rfl (by decide) rfl (q_z rfl)) ?_; refine hb_st ⟨Unit, fun _ => True, fun _ => undef, fun _ => [], fun _ => [arO g 0 0 (48 + n % 10)]⟩ rfl rfl ?_ ?_
  ·intro w1; refine z9 rfl rfl (.refl _) T.wR (by rfl) (by rfl) ?_; refine d4 ?_; exact O8 () trivial (fun h => by cases h) (.refl _) trivial
  refine D1 ⟨rfl, ?_⟩; intro _ _; refine y0 1 2 rfl T.Z4 T.wR rfl rfl rfl (by decide) rfl (z9 rfl rfl (.refl _) T.wR (by rfl) (by rfl) ?_); refine d8 (j8 (c7 rfl ?_)); refine S1 1 rfl rfl rfl rfl r5 ?_; refine d5 rfl (k8 (c7 rfl (R0 rfl rfl rfl (d8 ?_))))
  first | refine m3 rfl (fun hb4 => ?_) (fun hb4 => ?_) | refine j7 rfl (fun hb4 => ?_) (fun hb4 => ?_)
  ·have hb4' := hb4; try simp at hb4'
   refine j8 (c7 rfl (c7 rfl ?_)); refine m7 (.int .u32 ((48 + n / 100 : Nat) : Int)) rfl rfl rfl (fun _ => rfl) (fun w => by show Result.ok (Value.int .u32 (IntKind.u32.wrap (48 + ((n / 100 : Nat) : Int)))) w = _; rw [IntWalk.u32_in _ (by omega), show 48 + ((n / 100 : Nat) : Int) = ((48 + n / 100 : Nat) : Int) by omega]) ?_; refine X5 ((48 + n / 100 : Nat) : Int) rfl T.kz9 T.lj0 rfl (IntWalk.u8_in _ (by omega)) (y0 0 1 rfl T.Z4 T.wR rfl rfl rfl (by decide) rfl (z9 rfl rfl (.refl _) T.wR (by rfl) (by rfl) ?_)); refine d4 ?_; exact ret0n () rfl rfl rfl trivial (.refl _) trivial
  exact absurd (show (0 : Int) < 1 by omega) hb4
 exact absurd (show (2 : Int) ≤ 3 by omega) hb3
theorem nq5 {c : Cx} {Q : Exit → Act → World → Prop} {fr : Fr} {hp : Hp} {L : List Fact} {ops : Array Oper} {rest : List Oper} {d : Tmp} {ty : TypeId} {pos : String} {af : Array Edge} {s t e : TypeId} {x : Operand} {l : Str} {p : Addr} {cap : Nat} (hd : Nat.blt d c.n = true) (hs : c.P.underlying s = some (.slice e)) (he : c.P.underlying e = some (.int .u8)) (ht : c.P.underlying t = some .string) (hx : ev fr x = some (.slice (some p) l.length cap)) (hc : Cells c.b hp L p (rows l))
    (k : HL c ops Q rest ((d, str l) :: fr) hp L) : HL c ops Q (⟨some d, .convert s t x, ty, pos, af, none⟩ :: rest) fr hp L :=
  C0 _ rfl rfl hd (fun a w ha hw => by
    have h1 := run_convert_bytes_back (P := c.P) w s t e p cap l hs he ht (fun j hj => hc w hw j _ (by rw [uJ, List.getElem?_map, List.getElem?_eq_getElem hj]; rfl)); simp only [execOp, ha.ev hx, Sem.run_bind, h1, Result.andThen_ok, Sem.run_pure]
    rfl) k
def dig3 (n : Nat) : Str := [UInt8.ofNat (48 + n / 100), UInt8.ofNat (48 + n / 10 % 10), UInt8.ofNat (48 + n % 10)]
theorem rj8 {n : Nat} (h : 100 ≤ n ∧ n < 1000) : itoaZ n = dig3 n := by
  have h5 := List.all_eq_true.1 dj8 n (List.mem_range.2 h.2); simp only [Bool.or_eq_true, decide_eq_true_eq] at h5; exact h5.resolve_left (by omega)
theorem qz1 {n : Nat} (h : n < 1000) : rows (dig3 n) = [.int .u8 ((48 + n / 100 : Nat) : Int), .int .u8 ((48 + n / 10 % 10 : Nat) : Int), .int .u8 ((48 + n % 10 : Nat) : Int)] := by
  rw [uJ]; have e1 : (UInt8.ofNat (48 + n / 100)).toNat = 48 + n / 100 := by rw [UInt8.toNat_ofNat']; omega
  have e2 : (UInt8.ofNat (48 + n / 10 % 10)).toNat = 48 + n / 10 % 10 := by rw [UInt8.toNat_ofNat']; omega
  have e3 : (UInt8.ofNat (48 + n % 10)).toNat = 48 + n % 10 := by rw [UInt8.toNat_ofNat']; omega
  simp only [dig3, List.map_cons, List.map_nil, e1, e2, e3]
theorem ux3 {n i : Nat} {u : Value} (h : n < 1000) (hu : (rows (dig3 n))[i]? = some u) : (arr (48 + n / 100) (48 + n / 10 % 10) (48 + n % 10))[1 + i]? = some u := by
  rw [qz1 h] at hu
  match i, hu with
  | 0, hu => exact hu
  | 1, hu => exact hu
  | 2, hu => exact hu
  | i + 3, hu => simp at hu
theorem lq2 (z : Int) (h0 : 0 ≤ z) (h : z < 100) : Meets Tryz.prog F.R7 [int z] { val := fun _ : Unit => str (itoaZ z) } := by
 refine i9 F.jV rfl r6 fun w0 => ?_; refine i8 (d5 rfl (d8 (j4 (i8 (c7 rfl (B6 rfl rfl rfl (d8 ?_)))))))
 first | refine m3 rfl (fun hb1 => ?_) (fun hb1 => ?_) | refine j7 rfl (fun hb1 => ?_) (fun hb1 => ?_)
 ·have hb1' := hb1; try simp at hb1'
  refine i8 (c7 rfl (c7 rfl ?_)); refine v4 _ rfl rfl rfl rfl r5 ?_; refine qP (s := digS) z.toNat (z.toNat + 1) rfl T.v8 (by kernel_rfl) rfl (by omega) rfl (by omega) (Nat.le_succ _) (by show z.toNat + 1 ≤ 36; omega) ?_; refine d5 rfl (d8 (N4 ?_)); exact ret1 () rfl (by show some (str ((digS.drop z.toNat).take (z.toNat + 1 - z.toNat))) = some (str (itoaZ z)); rw [itoaZ, if_pos hb1, Nat.add_sub_cancel_left]) rfl trivial nil_sb trivial
 have hb1' := hb1; try simp at hb1'
 refine k6 (j6 (i8 (c7 rfl ?_))); refine cx9 _ rfl rfl rfl rfl r5 (c7 rfl (cx9 _ rfl rfl rfl rfl r5 (v4 _ rfl rfl rfl rfl r5 ?_))); refine qP (s := prsS) (2 * z.toNat) (2 * z.toNat + 2) rfl T.v8 (by kernel_rfl) rfl (by omega) rfl (by omega) (Nat.le_add_right _ _) (by show 2 * z.toNat + 2 ≤ 200; omega) ?_; refine d5 rfl (d8 (l5 ?_)); exact ret1 () rfl (by show some (str ((prsS.drop (2 * z.toNat)).take (2 * z.toNat + 2 - 2 * z.toNat))) = some (str (itoaZ z)); rw [itoaZ, if_neg (by omega), if_pos h, Nat.add_sub_cancel_left]) rfl trivial nil_sb trivial
theorem kj4 (z : Int) (h0 : 0 ≤ z) (h : z < 100) : Meets Tryz.prog F.G0 [int z, int 10] { LI := [TAB], val := fun _ : Unit => str (itoaZ z) } := by
 refine i9 F.S5 rfl r6 fun w0 => ?_; refine i8 (d5 rfl (d8 (j4 (i8 (c7 rfl (H0 rfl rfl rfl (d8 ?_))))))); refine c_t rfl (by first | rfl | assumption | exact bt1 (by assumption) | exact bt2 (by assumption)) ?_; refine j4 (i8 (c7 rfl (ax0 rfl rfl rfl (c7 rfl ?_)))); refine u6 rfl rfl ?_ ?_
 ·intro hg1; have hg1' := hg1; try simp at hg1'
  refine l3 rfl rfl hg1 (c7 rfl (l3 rfl rfl hg1 (B6 rfl rfl rfl ?_))); refine p_t rfl rfl (bt1 hg1) rfl ?_; refine d8 ?_
  first | refine m3 rfl (fun hb2 => ?_) (fun hb2 => ?_) | refine j7 rfl (fun hb2 => ?_) (fun hb2 => ?_)
  ·have hb2' := hb2; try simp at hb2'
   refine i8 (c7 rfl ?_); refine k5 F.iR rfl rfl (lq2 z h0 h) p6 trivial fun _ _ => ?_; refine d5 rfl (d8 (N4 (C4 ?_))); exact ret1 () rfl rfl rfl trivial nil_sb trivial
  exact absurd h (by omega)
 intro hg1; have hg1' := hg1; try simp at hg1'
 exact absurd h0 (by omega)
set_option maxHeartbeats 1000000 in
theorem kj5 (n : Nat) (hn : 100 ≤ n ∧ n < 1000) : Meets Tryz.prog F.G0 [int n, int 10] { LI := [TAB], val := fun _ : Unit => str (itoaZ n) } := by
 refine i9 F.S5 rfl r6 fun w0 => ?_; refine i8 (d5 rfl (d8 (j4 (i8 (c7 rfl (H0 rfl rfl rfl (d8 ?_))))))); refine c_t rfl (by first | rfl | assumption | exact bt1 (by assumption) | exact bt2 (by assumption)) ?_; refine j4 (i8 (c7 rfl (ax0 rfl rfl rfl (c7 rfl ?_)))); refine u6 rfl rfl ?_ ?_
 ·intro hg1; have hg1' := hg1; try simp at hg1'
  refine l3 rfl rfl hg1 (c7 rfl (l3 rfl rfl hg1 (B6 rfl rfl rfl ?_))); refine p_t rfl rfl (bt1 hg1) rfl ?_; refine d8 ?_
  first | refine m3 rfl (fun hb2 => ?_) (fun hb2 => ?_) | refine j7 rfl (fun hb2 => ?_) (fun hb2 => ?_)
  ·omega
  have hb2' := hb2; try simp at hb2'
  refine k6 (j6 (i8 ?_)); refine y9 rfl (fun _ => T.kz0 _) fun g => ?_; refine k8 (c7 rfl ?_); refine X5 (n : Int) rfl T.u_int64 T.cj9 rfl (IntWalk.u64_in _ (by omega)) ?_; refine d5 rfl (d8 (j4 (i8 (c7 rfl (B6 rfl rfl rfl (d8 ?_))))))
  first | refine m3 rfl (fun hb3 => ?_) (fun hb3 => ?_) | refine j7 rfl (fun hb3 => ?_) (fun hb3 => ?_)
  ·omega
  have hb3' := hb3; try simp at hb3'
  refine k6 (j6 (i8 (c7 rfl ?_))); refine k5 F.cK rfl rfl (bj8 n hn) (hpR := [arO g 0 0 0]) (.refl _) mC fun _ _ => ?_; refine d5 rfl (k8 (c7 rfl ?_)); refine v4 4 rfl rfl rfl rfl r5 (cx8 1 4 rfl T.aq6 T.wR rfl rfl rfl rfl rfl (by decide) (by decide) (by decide) (c7 rfl ?_)); refine k5 F.aP rfl rfl (vA g n hn) (hpR := []) (.refl _) trivial fun _ _ => ?_; refine d8 (j4 (i8 (c7 rfl (B6 rfl rfl rfl (d8 ?_)))))
  first | refine m3 rfl (fun hb4 => ?_) (fun hb4 => ?_) | refine j7 rfl (fun hb4 => ?_) (fun hb4 => ?_)
  ·omega
  have hb4' := hb4; try simp at hb4'
  refine k6 (j6 (i8 (c7 rfl ?_))); refine v4 4 rfl rfl rfl rfl r5 (cx8 1 4 rfl T.aq6 T.wR rfl rfl rfl rfl rfl (by decide) (by decide) (by decide) ?_); refine nq5 (l := dig3 n) (p := ⟨g, 1, none⟩) (cap := 23) rfl T.Z4 T.lj0 T.v8 rfl (bS m0 (fun i u hu => ux3 hn.2 hu)) ?_; refine d5 rfl (d8 (N4 ?_)); exact ret1 () rfl (by rw [rj8 hn]; rfl) rfl trivial nil_sb trivial
 intro hg1; have hg1' := hg1; try simp at hg1'
theorem bq5 (z : Int) (h : 0 ≤ z ∧ z < 1000) : Meets Tryz.prog F.G0 [int z, int 10] { LI := [TAB], val := fun _ : Unit => str (itoaZ z) } := by
  by_cases h1 : z < 100
  · exact kj4 z h.1 h1
  obtain ⟨n, rfl⟩ : ∃ n : Nat, z = n := ⟨z.toNat, by omega⟩; exact kj5 n ⟨by omega, by omega⟩
theorem lz9 (z : Int) (h : 0 ≤ z ∧ z < 1000) : Meets Tryz.prog F.U8 [int z] { LI := [TAB], val := fun _ : Unit => str (itoaZ z) } := by
 refine i9 F.lB rfl r6 fun w0 => ?_; refine i8 (d5 rfl (k8 (c7 rfl ?_))); refine k5 F.cL rfl rfl (bq5 z h) p6 mC fun _ _ => ?_; refine d5 rfl (d8 (l5 ?_)); exact ret1 () rfl rfl rfl trivial nil_sb trivial
theorem K3 (z : Int) (h : 0 ≤ z ∧ z < 1000) : Meets Tryz.prog F.lU [int z] { LI := [TAB], val := fun _ : Unit => str (itoaZ z) } := by
 refine i9 F.cq8 rfl r6 fun w0 => ?_; refine i8 (d5 rfl (k8 (c7 rfl ?_))); refine k5 F.jW rfl rfl (lz9 z h) p6 mC fun _ _ => ?_; refine d5 rfl (d8 (l5 ?_)); exact ret1 () rfl rfl rfl trivial nil_sb trivial
end Go.Proofs.YtcdopfjiadifhaaGreatDoor
end
section
namespace Go.Proofs.YtcdopfjiadifhaaGreatDoor
open Go Go.W
set_option maxRecDepth 20000
attribute [local irreducible] HL HC HQ HB Row Rows2 Blk Facts
def splitB (b : UInt8) : Str → List Str
  | [] => [[]]
  | x :: r => if x = b then [] :: splitB b r else match splitB b r with
    | [] => [[x]]
    | h :: t => (x :: h) :: t
theorem dS (b : UInt8) : ∀ s : Str, (splitB b s).length = s.count b + 1
  | [] => rfl
  | x :: r => by
    have ih := dS b r; rw [splitB]
    by_cases h : x = b
    · rw [if_pos h, List.length_cons, ih, h, List.count_cons_self]
    rw [if_neg h, List.count_cons_of_ne h]
    cases hs : splitB b r with
    | nil => rw [hs] at ih; cases ih
    | cons a t => rw [hs] at ih; exact ih
theorem cx3 {b : UInt8} : ∀ {p : Str} (q : Str), b ∉ p → splitB b (p ++ b :: q) = p :: splitB b q
  | [], q, _ => by simp [splitB]
  | x :: p, q, h => by
    simp only [List.mem_cons, not_or] at h; rw [List.cons_append, splitB, if_neg (fun e => h.1 e.symm), cx3 q h.2]
theorem cx0 {b : UInt8} : ∀ {p : Str}, b ∉ p → splitB b p = [p]
  | [], _ => rfl
  | x :: p, h => by
    simp only [List.mem_cons, not_or] at h; rw [splitB, if_neg (fun e => h.1 e.symm), cx0 h.2]
theorem qx8 {b : UInt8} {s : Str} (h : 0 < s.count b) : ∃ j : Nat, Lib.indexByte s b = j ∧ j < s.length ∧ splitB b s = s.take j :: splitB b (s.drop (j + 1)) ∧ (s.drop (j + 1)).count b + 1 = s.count b := by
  rcases xQ b s with ⟨_, _, h3⟩ | ⟨j, h1, h2, _, h4, h5⟩
  · exact absurd (List.count_pos_iff.1 h) h3
  rw [List.getElem?_eq_getElem h2] at h4; have hd : b :: s.drop (j + 1) = s.drop j := by rw [← Option.some.inj h4]; exact (List.drop_eq_getElem_cons h2).symm
  have hs : s = s.take j ++ b :: s.drop (j + 1) := by rw [hd, List.take_append_drop]
  refine ⟨j, h1, h2, ?_, ?_⟩
  · conv => lhs; rw [hs]
    exact cx3 _ h5
  conv => rhs; rw [hs]
  rw [List.count_append, List.count_cons_self, List.count_eq_zero_of_not_mem h5]
  omega
theorem lq4 {done : List Str} {k : Nat} {x : Str} : (done ++ List.replicate (k + 1) ([] : Str)).set done.length x = (done ++ [x]) ++ List.replicate k [] := by
  rw [List.set_append_right _ _ (Nat.le_refl _), Nat.sub_self, List.replicate_succ, List.set_cons_zero, List.append_assoc]
  rfl
theorem cnt_run (s : Str) (c : UInt8) (w : World) : (callFunc 133 [str s, Value.int .u8 (c.toNat : Int)].toArray).run Tryz.prog w = .ok (.value (int (s.count c : Nat))) w := by
  show (callFunc 133 #[str s, Value.int .u8 (c.toNat : Int)]).run Tryz.prog w = _; rw [run_callFunc_extern Tryz.func133 (by kernel_rfl) (by kernel_rfl) (by kernel_rfl) (e := Extern.BytealgCount.count) (by kernel_rfl)]; have h := Lib.run_countString (P := Tryz.prog) ⟨s.toArray⟩ (c.toNat : Int) w; have e : ((c.toNat : Int).toNat).toUInt8 = c := by simp
  rw [e] at h; show Result.andThen (Sem.run Tryz.prog (Extern.BytealgCount.count #[.string ⟨s.toArray⟩, .int .u8 (c.toNat : Int)]) w) _ = _; rw [h]
  rfl
instance (s : ByteArray) (c : Value) : QC (Extern.BytealgCount.count #[.string s, c]) := ⟨by unfold Extern.BytealgCount.count Extern.Bytes.bytesOf Extern.Bytes.asByte; exact l6⟩
theorem uj9 (s : Str) (c : UInt8) (w : World) : ∀ e ∈ (callFunc 133 [str s, Value.int .u8 (c.toNat : Int)].toArray).events Tryz.prog w #[], Go.W.Calm e :=
  az6 Tryz.func133 (by kernel_rfl) (by kernel_rfl) (by kernel_rfl) (e := Extern.BytealgCount.count) (by kernel_rfl) _ (show Quiet (Extern.BytealgCount.count #[.string ⟨s.toArray⟩, .int .u8 (c.toNat : Int)]) from QC.out) w
abbrev blkS (g : Nat) (l : List Str) : Nat × Obj := (g, Obj.cells (rows l).toArray T.string (0, 0))
theorem tC (s : Str) (b : UInt8) : Meets Tryz.prog F.jN [str s, str [b]] { val := fun _ : Unit => int (s.count b : Nat) } := by
 refine i9 F.bj6 rfl r6 fun w0 => ?_; refine i8 (d5 rfl (d8 (j4 (i8 (c7 rfl ?_))))); refine E6 rfl T.v8 rfl ?_; refine H0 rfl rfl rfl (d8 ?_)
 first | refine m3 rfl (fun hb1 => ?_) (fun hb1 => ?_) | refine j7 rfl (fun hb1 => ?_) (fun hb1 => ?_)
 ·exact absurd hb1 (by simp)
 have hb1' := hb1; try simp at hb1'
 refine k6 (j6 (j4 (i8 (c7 rfl ?_)))); refine E6 rfl T.v8 rfl ?_; refine H0 rfl rfl rfl (d8 ?_); refine c_t rfl (by first | rfl | assumption | exact bt1 (by assumption) | exact bt2 (by assumption)) ?_; refine i8 (c7 rfl (c7 rfl ?_)); refine H7 0 rfl T.v8 rfl rfl rfl rfl (ix4 rfl rfl (cnt_run s b) (uj9 s b) ?_); refine d5 rfl (d8 (N4 ?_)); exact ret1 () rfl rfl rfl trivial nil_sb trivial
theorem tA (s : Str) (b : UInt8) : Meets Tryz.prog F.jM [str s, str [b]] { val := fun _ : Unit => int (Lib.indexByte s b) } := by
 refine i9 F.bj5 rfl r6 fun w0 => ?_; refine i8 (d5 rfl (k8 (c7 rfl (c7 rfl ?_)))); refine k5 F.cJ rfl rfl (aN s b) p6 trivial fun _ _ => ?_; refine d5 rfl (d8 (l5 ?_)); exact ret1 () rfl rfl rfl trivial nil_sb trivial
set_option maxHeartbeats 1000000 in
theorem dx0 (s : Str) (b : UInt8) (hs : s.length ≤ 1000000) : Meets Tryz.prog F.bG [str s, str [b], int 0, int (-1)] { inv := fun A : Nat => True, val := fun g : Nat => .slice (c8 g) (splitB b s).length (splitB b s).length, LO := fun g => [Row (c8 g) (rows (splitB b s))] } := by
 have hcl : s.count b ≤ s.length := List.count_le_length; refine i9 F.uH rfl r6 fun w0 => ?_; refine i8 (d5 rfl (d8 (j4 (i8 (c7 rfl (H0 rfl rfl rfl (d8 ?_)))))))
 first | refine m3 rfl (fun hb1 => ?_) (fun hb1 => ?_) | refine j7 rfl (fun hb1 => ?_) (fun hb1 => ?_)
 ·exact absurd hb1 (by decide)
 have hb1' := hb1; try simp at hb1'
 refine k6 (j6 (j4 (i8 (c7 rfl (hU rfl rfl rfl (d8 ?_)))))); refine c_f rfl (by first | rfl | assumption | exact bf1 (by assumption) | exact bf2 (by assumption)) ?_; refine k6 (j6 (j4 (i8 (c7 rfl (B6 rfl rfl rfl (d8 ?_)))))); refine c_t rfl (by first | rfl | assumption | exact bt1 (by assumption) | exact bt2 (by assumption)) ?_; refine j8 (c7 rfl (c7 rfl ?_)); refine k5 F.zF rfl rfl (tC s b) (.refl _) trivial fun _ _ => ?_; refine v4 _ rfl rfl rfl rfl r5 ?_; refine d5 rfl (k8 (c7 rfl (c7 rfl ?_))); refine E6 rfl T.v8 rfl ?_; refine v4 _ rfl rfl rfl rfl r5 ?_; refine r_min (((s.count b) : Int) + 1) rfl rfl rfl (by split <;> omega) ?_; refine d5 rfl (k8 (c7 rfl ?_)); refine jx5 (α := Str) ([] : Str) (n := (s.count b) + 1) (bytes := 16) (z := .string ⟨#[]⟩) rfl T.H9 (by kernel_rfl) rfl rfl rfl (by omega) (by omega) (by omega) fun g => ?_; refine d5 rfl (k8 (c7 rfl ?_)); refine S1 ((s.count b) : Int) rfl rfl rfl (by omega) r5 ?_; refine d5 rfl (k8 (d5 rfl (d8 (j4 (k9 ?_))))); refine w3 (β := Nat × Str × List Str) ⟨fun z => z.2.2.length = z.1 ∧ splitB b s = z.2.2 ++ splitB b z.2.1 ∧ z.2.1.count b + z.1 = (s.count b) ∧ z.2.1.length ≤ s.length, fun z => [(0, str z.2.1), (1, str [b]), (2, int 0), (3, int (s.count b)), (9, .slice (c8 g) ((s.count b) + 1) ((s.count b) + 1)), (10, int z.1)], fun z => [blkS g (z.2.2 ++ List.replicate ((s.count b) + 1 - z.1) [])], fun _ => []⟩ (fun z => (s.count b) - z.1) (0, s, []) ⟨rfl, rfl, rfl, Nat.le_refl _⟩ mC (.refl _) trivial fun z hz => ?_; obtain ⟨i, cur, done⟩ := z; obtain ⟨hdl, hsp, hct, hcr⟩ := hz; simp only at hdl hsp hct hcr; refine j4 (i8 (c7 rfl (c7 rfl (B6 rfl rfl rfl (d8 ?_)))))
 first | refine m3 rfl (fun hb4 => ?_) (fun hb4 => ?_) | refine j7 rfl (fun hb4 => ?_) (fun hb4 => ?_)
 ·have hb4' := hb4; try simp at hb4'
  have hi : i < (s.count b) := by simp at hb4; omega
  obtain ⟨j, hj1, hj2, hj3, hj4⟩ := qx8 (b := b) (s := cur) (by omega); refine k6 (j6 (k9 (i8 (c7 rfl (c7 rfl ?_))))); have hIx := tA cur b; rw [hj1] at hIx; refine k5 F.zE rfl rfl (hIx) (hpR := [_]) (.refl _) trivial fun _ _ => ?_; refine d5 rfl (d8 (j4 (i8 (c7 rfl (B6 rfl rfl rfl (d8 ?_))))))
  first | refine m3 rfl (fun hb5 => ?_) (fun hb5 => ?_) | refine j7 rfl (fun hb5 => ?_) (fun hb5 => ?_)
  ·exact absurd hb5 (by omega)
  have hb5' := hb5; try simp at hb5'
  refine k6 (j6 (i8 (c7 rfl (c7 rfl (c7 rfl (c7 rfl (c7 rfl ?_))))))); refine v4 (j : Int) rfl rfl rfl (by omega) r5 (aq9 (s := cur) j rfl T.v8 rfl rfl rfl (by omega) (y0 i i rfl T.H9 T.D0 rfl rfl rfl (by omega) (by omega) ?_)); refine kR (α := Str) (l := done ++ List.replicate ((s.count b) + 1 - i) []) (k := i) (f := 0) (cur.take j) rfl (by show i = i * 1 + 0; omega) rfl (.refl _) T.D0 (by rw [List.length_append, List.length_replicate]; omega) (by decide) rfl rfl ?_; have hset : (done ++ List.replicate ((s.count b) + 1 - i) ([] : Str)).set i (cur.take j) = (done ++ [cur.take j]) ++ List.replicate ((s.count b) + 1 - (i + 1)) [] := by rw [show (s.count b) + 1 - i = ((s.count b) + 1 - (i + 1)) + 1 by omega, ← hdl]; exact lq4
  rw [hset]; refine k8 (c7 rfl (c7 rfl (c7 rfl ?_))); refine E6 rfl T.v8 rfl ?_; refine v4 ((j + 1 : Nat) : Int) rfl rfl rfl (by simp) r5 ?_; refine qN (s := cur) (j + 1) rfl T.v8 rfl rfl rfl (by omega) ?_; refine d5 rfl (d8 (j8 (c7 rfl ?_))); refine v4 _ rfl rfl rfl rfl r5 ?_; refine d5 rfl (d4 (y6 ?_)); exact again _ (i + 1, cur.drop (j + 1), done ++ [cur.take j]) ⟨by show (done ++ [_]).length = i + 1; rw [List.length_append, hdl]; rfl, by show splitB b s = (done ++ [_]) ++ _; rw [hsp, hj3, List.append_assoc]; rfl, by show (cur.drop (j + 1)).count b + (i + 1) = (s.count b); omega, by show (cur.drop (j + 1)).length ≤ s.length; rw [List.length_drop]; omega⟩ (D5 (by omega)) mC (.refl _) trivial
 have hb4' := hb4; try simp at hb4'
 have hi : i = (s.count b) := by simp at hb4; omega
 have hno : b ∉ cur := fun hm => by have := List.count_pos_iff.2 hm; omega
 rw [cx0 hno] at hsp; refine u9 (D6 (u5 (j6 (i8 (c7 rfl (c7 rfl (c7 rfl ?_))))))); refine y0 i i rfl T.H9 T.D0 rfl rfl rfl (by omega) (by omega) ?_; refine kR (α := Str) (l := done ++ List.replicate ((s.count b) + 1 - i) []) (k := i) (f := 0) cur rfl (by show i = i * 1 + 0; omega) rfl (.refl _) T.D0 (by rw [List.length_append, List.length_replicate]; omega) (by decide) rfl rfl ?_; have hset : (done ++ List.replicate ((s.count b) + 1 - i) ([] : Str)).set i cur = splitB b s := by rw [show (s.count b) + 1 - i = 0 + 1 by omega, ← hdl, lq4, hsp]; simp
 rw [hset]; refine k8 (c7 rfl (c7 rfl ?_)); refine v4 ((i + 1 : Nat) : Int) rfl rfl rfl (by simp) r5 ?_; refine mG (i + 1) rfl T.H9 T.D0 rfl rfl rfl (by omega) ?_; refine d5 rfl (d8 (l5 ?_)); refine E5 (rows (splitB b s)) (List.prefix_refl _) ?_; exact ret1 g rfl (by show some (Value.slice _ (i + 1) (s.count b + 1)) = some (Value.slice _ _ _); rw [dS, hi]) rfl trivial nil_sb ⟨m0, trivial⟩
theorem sZ (s : Str) (b : UInt8) (hs : s.length ≤ 1000000) : Meets Tryz.prog F.jL [str s, str [b]] { inv := fun A : Nat => True, val := fun g : Nat => .slice (c8 g) (splitB b s).length (splitB b s).length, LO := fun g => [Row (c8 g) (rows (splitB b s))] } := by
 refine i9 F.bj4 rfl r6 fun w0 => ?_; refine i8 (d5 rfl (k8 (c7 rfl (c7 rfl ?_)))); refine k5 F.sY rfl rfl (dx0 s b hs) p6 trivial fun g _ => ?_; refine d5 rfl (d8 (l5 ?_)); exact ret1 g rfl rfl rfl trivial nil_sb ⟨m0, trivial⟩
end Go.Proofs.YtcdopfjiadifhaaGreatDoor
end
section
namespace Go.Proofs.YtcdopfjiadifhaaGreatDoor
open Go Go.W
set_option maxRecDepth 20000
attribute [local irreducible] HL HC HQ HB Row Rows2 Blk Facts
def formB (w ns : List Str) : Bool := decide (w.length = ns.length) && (List.range ns.length).all fun i => decide (ns.getD i default = []) || decide (ns.getD i default = w.getD i default)
theorem qj1 {w ns : List Str} {k : Nat} (hk : k < ns.length) (h1 : ¬ ns.getD k default = []) (h2 : ¬ ns.getD k default = w.getD k default) : formB w ns = false := by
  unfold formB; rw [Bool.and_eq_false_iff]; refine .inr ?_; rw [List.all_eq_false]; exact ⟨k, List.mem_range.2 hk, by rw [decide_eq_false h1, decide_eq_false h2]; decide⟩
theorem rG {w ns : List Str} (h : formB w ns = true) : w.length = ns.length := by
  unfold formB at h; rw [Bool.and_eq_true, decide_eq_true_eq] at h; exact h.1
theorem cx4 {f : Nat → Bool} {k : Nat} (h : (List.range k).all f = true) (h1 : f k = true) : (List.range (k + 1)).all f = true := by
  rw [List.range_succ, List.all_append, h]; simp [h1]
theorem Y4 {A B : Option Addr} {ca cb : Nat} (w ns : List Str) (hw : w.length ≤ 1000000) (hn : ns.length ≤ 1000000) : MeetsE Tryz.prog F.aj5 [.slice A w.length ca, .slice B ns.length cb] { LI := [Row A (rows w), Row B (rows ns)], inv := fun _ : Unit => formB w ns = true, val := fun _ => .tuple #[] } { inv := fun _ : Unit => formB w ns = false, val := fun _ => oddV } := by
 refine mJ F.mx2 rfl r6 fun w0 => ?_; refine j4 (i8 (c7 rfl ?_)); refine l7 rfl T.H9 rfl (c7 rfl (l7 rfl T.H9 rfl ?_)); refine N5 rfl rfl rfl (d8 ?_)
 first | refine m3 rfl (fun hb1 => ?_) (fun hb1 => ?_) | refine j7 rfl (fun hb1 => ?_) (fun hb1 => ?_)
 ·have hb1' := hb1; try simp at hb1'
  refine j8 ?_; refine u4 _ rfl rfl (fun _ => T.I6 ..) (cH rfl ⟨_, Tryz.underlying130, rfl⟩ rfl (aL rfl (fun _ => rfl) ?_))
  repeat (first | refine E7 ?_ | refine I4 ?_)
  exact K9 () rfl rfl (by unfold formB; rw [decide_eq_false (by omega)]; rfl) (.refl _) trivial
 have hb1' := hb1; try simp at hb1'
 have hlen : w.length = ns.length := by omega
 refine k6 (j6 (i8 (c7 rfl ?_))); refine l7 rfl T.H9 rfl ?_; refine c7 rfl (d8 (k9 ?_)); refine w3 (β := Nat) ⟨fun k => k ≤ ns.length ∧ (List.range k).all (fun i => decide (ns.getD i default = []) || decide (ns.getD i default = w.getD i default)) = true, fun k => [(0, .slice A w.length ca), (13, .slice B ns.length cb), (14, int ns.length), (15, int k)], fun _ => [], fun _ => [Row A (rows w), Row B (rows ns)]⟩ (fun k => ns.length - k) 0 ⟨Nat.zero_le _, rfl⟩ mC (.refl _) mC fun k hk => ?_; obtain ⟨hk0, hall⟩ := hk; refine i8 (B6 rfl rfl rfl (d8 (j4 ?_)))
 first | refine m3 rfl (fun hb2 => ?_) (fun hb2 => ?_) | refine j7 rfl (fun hb2 => ?_) (fun hb2 => ?_)
 ·have hb2' := hb2; try simp at hb2'
  have hk1 : k < ns.length := by simp at hb2; omega
  refine k6 (j6 (j4 (k9 (i8 (c7 rfl ?_))))); refine v6 (α := Str) ns k rfl T.H9 T.D0 rfl rfl rfl mB rfl hk1 (by decide) (b8 (v := str (ns.getD k default)) rfl T.m5 rfl (d6 mB (c9 hk1 rfl)) ?_); refine d5 rfl (d5 rfl (k8 (c7 rfl (cx6 rfl rfl rfl (c7 rfl ?_))))); refine u6 rfl rfl ?_ ?_
  ·intro hg1; have hg1' := hg1; try simp at hg1'
   refine l3 rfl rfl hg1 (c7 rfl (l3 rfl rfl hg1 (c7 rfl (l3 rfl rfl hg1 (c7 rfl (l3 rfl rfl hg1 ?_)))))); refine v6 (α := Str) w k rfl T.H9 T.D0 rfl rfl rfl mB rfl (by omega) (by decide) (l3 rfl rfl hg1 (b8 (v := str (w.getD k default)) rfl T.m5 rfl (d6 mB (c9 (by omega) rfl)) ?_)); refine l3 rfl rfl hg1 (cx6 rfl rfl rfl ?_); refine p_t rfl rfl (bt1 hg1) rfl ?_; refine d8 ?_
   first | refine m3 rfl (fun hb3 => ?_) (fun hb3 => ?_) | refine j7 rfl (fun hb3 => ?_) (fun hb3 => ?_)
   ·have hb3' := hb3; try simp at hb3'
    refine j8 ?_; refine u4 _ rfl rfl (fun _ => T.I6 ..) (cH rfl ⟨_, Tryz.underlying130, rfl⟩ rfl (aL rfl (fun _ => rfl) ?_))
    repeat (first | refine E7 ?_ | refine I4 ?_)
    exact K9 () rfl rfl (qj1 hk1 (by simpa using hg1) (by simpa using hb3)) (.refl _) trivial
   have hb3' := hb3; try simp at hb3'
   refine k6 (y6 (j6 (j8 ?_))); refine v4 _ rfl rfl rfl rfl r5 ?_; refine c7 rfl (d4 ?_); exact again _ (k + 1) ⟨hk1, cx4 hall (by rw [decide_eq_true (p := (ns.getD k default) = (w.getD k default)) (by simpa using hb3)]; simp)⟩ (D5 (by omega)) mC (.refl _) mC
  intro hg1; have hg1' := hg1; try simp at hg1'
  refine t4 rfl rfl rfl rfl rfl hg1 (t4 rfl rfl rfl rfl rfl hg1 (t4 rfl rfl rfl rfl rfl hg1 (t4 rfl rfl rfl rfl rfl hg1 (t4 rfl rfl rfl rfl rfl hg1 (t4 rfl rfl rfl rfl rfl hg1 ?_))))); refine p_f rfl rfl (bf2 hg1) rfl ?_; refine d8 (c_f rfl rfl (k6 (y6 (j6 (j8 ?_))))); refine v4 _ rfl rfl rfl rfl r5 ?_; refine c7 rfl (d4 ?_); exact again _ (k + 1) ⟨hk1, cx4 hall (by rw [decide_eq_true (p := (ns.getD k default) = []) (by simpa using hg1)]; rfl)⟩ (D5 (by omega)) mC (.refl _) mC
 have hb2' := hb2; try simp at hb2'
 have hk1 : k = ns.length := by simp at hb2; omega
 subst hk1; refine u9 (D6 (u5 (dq3 ?_))); exact ret0n () rfl rfl rfl (by show formB w ns = true; unfold formB; rw [decide_eq_true hlen, hall]; rfl) (.refl _) trivial
end Go.Proofs.YtcdopfjiadifhaaGreatDoor
end
