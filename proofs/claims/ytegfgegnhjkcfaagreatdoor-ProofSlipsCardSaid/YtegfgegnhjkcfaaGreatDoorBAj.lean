/- Texts of this claim, one behind another. -/
import Derived.RecoverIn
import Derived.Lib.AppendStr
import Derived.Lib.UnsafeStr
import Derived.Lib.Builder
import Derived.Test.YtegfgegnhjkcfaaGreatDoorBAi
import Derived.Test.YtegfgegnhjkcfaaGreatDoorBAf
import Derived.Test.YtegfgegnhjkcfaaGreatDoorBAg
import Derived.Test.YtegfgegnhjkcfaaGreatDoorBAa
set_option linter.unusedVariables false
set_option linter.unusedSimpArgs false
section
namespace Go.Proofs.YtegfgegnhjkcfaaGreatDoor
open Go Go.W
set_option maxRecDepth 20000
attribute [local irreducible] HL HC HQ HB Row Rows2 Blk Facts
def okNext (b m : Mk) : Prop := b.2.1 < m.2.1 ∨ (b.2.1 = m.2.1 ∧ b.1 = 1)
def textOK (m : Mk) : Prop := (m.1 = 3 ∧ m.2.2 = []) ∨ (¬ m.1 = 3 ∧ m.2.2 ∈ lineWords)
structure MarksOK (n : Nat) (l : List Mk) : Prop where
  ch : ∀ k, k + 1 < l.length → okNext (l.getD k default) (l.getD (k + 1) default)
  v : MV n l
  t : ∀ m ∈ l, textOK m
theorem MarksOK.nil (n : Nat) : MarksOK n [] := ⟨fun k h => by simp at h, fun m h => by simp at h, fun m h => by simp at h⟩
def LastI (i : Nat) (l : List Mk) : Prop := ∀ b ∈ l, b.2.1 < (i : Int) ∨ (b.2.1 = (i : Int) ∧ b.1 = 1)
def LastB (i : Nat) (l : List Mk) : Prop := ∀ b ∈ l, b.2.1 < (i : Int)
theorem LastB.i {i : Nat} {l : List Mk} (h : LastB i l) : LastI i l := fun b hb => .inl (h b hb)
theorem LastI.b {i : Nat} {l : List Mk} (h : LastI i l) : LastB (i + 1) l := fun b hb => by rcases h b hb with h | h <;> omega
theorem LastI.snoc {i : Nat} {l : List Mk} (h : LastI i l) (t : Str) : LastI i (l ++ [(1, (i : Int), t)]) := fun b hb => by
  rcases List.mem_append.1 hb with hb | hb
  · exact h b hb
  simp at hb; subst hb; exact .inr ⟨rfl, rfl⟩
theorem LastI.any {i : Nat} {l : List Mk} (h : LastI i l) (k : Int) (t : Str) : LastB (i + 1) (l ++ [(k, (i : Int), t)]) := fun b hb => by
  rcases List.mem_append.1 hb with hb | hb
  · exact h.b b hb
  simp at hb; subst hb; simp only; omega
theorem MarksOK.snoc {n i : Nat} {l : List Mk} {k : Int} {t : Str} (h : MarksOK n l) (hl : LastI i l) (hk : 1 ≤ k ∧ k ≤ 3) (hi : i ≤ n) (hi2 : k = 1 ∨ i < n) (ht : textOK (k, (i : Int), t)) : MarksOK n (l ++ [(k, (i : Int), t)]) := by
  refine ⟨fun j hj => ?_, fun m hm => ?_, fun m hm => ?_⟩
  · rw [List.length_append, List.length_cons, List.length_nil] at hj
    by_cases hj2 : j + 1 < l.length
    · have := h.ch j hj2
      rw [B1 (by omega), B1 hj2] at this; rw [B1 (by simp; omega), B1 (by simp; omega), List.getElem_append_left (by omega), List.getElem_append_left hj2]; exact this
    have hje : j + 1 = l.length := by omega
    rw [B1 (by simp; omega), B1 (by simp; omega), List.getElem_append_left (by omega), List.getElem_append_right (by omega)]; have := hl l[j] (List.getElem_mem _); simp only [hje, Nat.sub_self, List.getElem_cons_zero]; exact this
  · rcases List.mem_append.1 hm with hm | hm
    · exact h.v m hm
    simp at hm; subst hm; simp only; omega
  rcases List.mem_append.1 hm with hm | hm
  · exact h.t m hm
  simp at hm; subst hm; exact ht
abbrev GrowM (o : OutC) (l : List Mk) (og : Hp) : Prop := Grow T.cB 3 o.1 l.length o.2 (rows l) og
theorem mA {A : Option Addr} {c : Nat} (nums : List Int) : Meets Tryz.prog F.gV [.slice A nums.length c] { LI := [Row A (rows nums)], val := fun g : Nat => .pointer (j4 g), hpO := fun g => [dice g A c nums (0, 11400714819323198485)] } := by
 refine c4 F.tP rfl l5 fun w0 => ?_; refine a9 (a8 rfl (k9 (a5 rfl ?_))); refine t4 _ rfl rfl (fun _ => T.aW ..) ?_; refine J9 rfl rfl fun gB => ?_; refine a8 rfl (a7 (i6 ?_)); exact ret1 gB rfl rfl rfl trivial (.refl _) trivial
theorem mD {g : Nat} {A : Option Addr} {c : Nat} {nums : List Int} {s : Int × Int} (n most : Nat) (hn : nums.length ≤ 9223372036854775807) (hs : DOK nums s) (hI : n ≤ 100 ∧ most ≤ 100) :
    Meets Tryz.prog F.gW [.pointer (j4 g), int n, int most] (diceCon g A c nums s (fun x : List Mk × OutC => x.1.length ≤ most ∧ MarksOK n x.1 ∧ x.1.length ≤ x.2.2) (fun x => .slice x.2.1 x.1.length x.2.2) (fun x => [Row x.2.1 (rows x.1)])) := by
 refine c4 F.tQ rfl l5 fun w0 => ?_; refine a9 (a8 rfl (k9 (a8 rfl (a7 (kK ?_))))); refine c6 (a8 rfl (a7 (j0 ?_)))
 refine s9 (β := List Mk × OutC × Hp × (Int × Int) × Nat) ⟨fun ⟨l, o, og, s, i⟩ => (GrowM o l og ∧ l.length ≤ most ∧ MarksOK n l ∧ DOK nums s) ∧ LastB i l ∧ i ≤ n + 1,
   fun ⟨l, o, og, s, i⟩ => [(0, .pointer (j4 g)), (1, int n), (2, int most), (7, .slice o.1 l.length o.2), (8, int i)], fun ⟨l, o, og, s, i⟩ => og ++ [dice g A c nums s], fun _ => [Row A (rows nums)]⟩
   (fun x => n + 1 - x.2.2.2.2) ([], (none, 0), [], s, 0) ⟨⟨Grow.nil _ _, Nat.zero_le _, MarksOK.nil n, hs⟩, by intro b h; simp at h, Nat.zero_le _⟩ mC (.refl _) ⟨m0, trivial⟩ fun x hx => ?_
 obtain ⟨l, o, og, s, i⟩ := x; obtain ⟨⟨hG, hlen, hOK, hs⟩, hLB, hi⟩ := hx; have hLast := hLB.i; refine b5 (a9 (a5 rfl (a5 rfl (zU rfl rfl rfl (a7 ?_)))))
 first | refine i8 rfl (fun hb1 => ?_) (fun hb1 => ?_) | refine b9 rfl (fun hb1 => ?_) (fun hb1 => ?_)
 ·have hb1' := hb1; try simp at hb1'
  have hi2 : i ≤ n := by omega
  refine c3 (b6 (b5 (j0 ?_))); refine aS (⟨fun ⟨l, o, og, s⟩ => GrowM o l og ∧ l.length ≤ most ∧ MarksOK n l ∧ LastI i l ∧ DOK nums s, fun ⟨l, o, og, s⟩ => [(0, .pointer (j4 g)), (1, int n), (2, int most), (7, .slice o.1 l.length o.2), (8, int i)], fun ⟨l, o, og, s⟩ => og ++ [dice g A c nums s], fun _ => [Row A (rows nums)]⟩ : Sta (List Mk × OutC × Hp × (Int × Int))) ?_ ?_
  ·skip
   refine j0 ?_
   refine s9 (β := List Mk × OutC × Hp × (Int × Int)) ⟨fun ⟨l, o, og, s⟩ => GrowM o l og ∧ l.length ≤ most ∧ MarksOK n l ∧ LastI i l ∧ DOK nums s,
     fun ⟨l, o, og, s⟩ => [(0, .pointer (j4 g)), (1, int n), (2, int most), (7, .slice o.1 l.length o.2), (8, int i)], fun ⟨l, o, og, s⟩ => og ++ [dice g A c nums s], fun _ => [Row A (rows nums)]⟩
     (fun x => most - x.1.length) (l, o, og, s) ⟨hG, hlen, hOK, hLast, hs⟩ mC (.refl _) ⟨m0, trivial⟩ fun x hx => ?_
   clear hG hlen hOK hs hLB hLast; obtain ⟨l, o, og, s⟩ := x; obtain ⟨hG, hlen, hOK, hLast, hs⟩ := hx; refine b5 (a9 (a5 rfl ?_)); refine d6 F.nM rfl rfl (iX (4) hn hs (by omega)) (List.perm_append_comm) ⟨m0, trivial⟩ fun x hx => ?_; obtain ⟨s1, z⟩ := x; obtain ⟨hs1, _⟩ := hx; refine a5 rfl ?_; refine l3 rfl rfl ?_ ?_
   ·intro hg1; have hg1' := hg1; try simp at hg1'
    refine c9 rfl rfl hg1 (a5 rfl (c9 rfl rfl hg1 ?_)); refine j9 rfl T.j3 rfl ?_; refine c9 rfl rfl hg1 (a5 rfl (c9 rfl rfl hg1 (r6 rfl rfl rfl ?_))); refine p_t rfl rfl (bt1 hg1) rfl ?_; refine a7 ?_
    first | refine i8 rfl (fun hb2 => ?_) (fun hb2 => ?_) | refine b9 rfl (fun hb2 => ?_) (fun hb2 => ?_)
    ·have hb2' := hb2; try simp at hb2'
     have hlt : l.length < most := by omega
     refine c3 (b6 (j0 (c6 (a5 rfl (a5 rfl (a5 rfl ?_)))))); refine d6 F.jG rfl rfl (bS hn hs1) n6 ⟨m0, trivial⟩ fun x hx => ?_; obtain ⟨s2, t⟩ := x; obtain ⟨hs2, ht⟩ := hx; refine t4 _ rfl rfl (fun _ => T.A5 ..) ?_; refine j8 _ rfl rfl (fun _ => T.A6 ..) fun gS => ?_; refine w9 (l.length + 1) (rows (l ++ [(1, (i : Int), t)])) T.E1 rfl rfl rfl hG (List.perm_append_comm (l₁ := [_, _])) (Src.own (cs := #[int 1, int i, str t]) (m := 1) (List.mem_append_right _ m0) rfl rfl) rfl (t3 l [(1, (i : Int), t)]).symm (by unfold maxLen; omega) (by omega) fun A' c' og' hG' => ?_; refine a8 rfl (b3 (q9 ?_)); refine again _ (l ++ [(1, (i : Int), t)], (A', c'), og', s2) ⟨by unfold GrowM; rw [n8]; exact hG', by rw [n8]; omega, hOK.snoc hLast (by omega) (by omega) (by omega) (.inr ⟨by simp, ht⟩), hLast.snoc t, hs2⟩ (by show most - (l ++ [_]).length < most - l.length; rw [n8]; omega) ?_ ((List.Sublist.refl og').append (.cons _ (.refl _))) ⟨m0, trivial⟩; exact ⟨rfl, rfl, rfl, by rw [n8]; rfl, rfl, trivial⟩
    have hb2' := hb2; try simp at hb2'
    refine n5 (y6 (n4 ?_)); refine iD (List.perm_append_comm (l₁ := [_])) ?_; exact J4 _ (l, o, og, s1) ⟨hG, hlen, hOK, hLast, hs1⟩ mC (.refl _) ⟨m0, trivial⟩
   intro hg1; have hg1' := hg1; try simp at hg1'
   refine k5 rfl rfl rfl rfl rfl hg1 (k5 rfl rfl rfl rfl rfl hg1 (k5 rfl rfl rfl rfl rfl hg1 (k5 rfl rfl rfl rfl rfl hg1 ?_))); refine p_f rfl rfl (bf2 hg1) rfl ?_; refine a7 (c_f rfl rfl (n5 (y6 (n4 ?_)))); refine iD (List.perm_append_comm (l₁ := [_])) ?_; exact J4 _ (l, o, og, s1) ⟨hG, hlen, hOK, hLast, hs1⟩ mC (.refl _) ⟨m0, trivial⟩
  intro x hx; clear hG hlen hOK hs hLB hLast; obtain ⟨l, o, og, s⟩ := x; obtain ⟨hG, hlen, hOK, hLast, hs⟩ := hx; refine b5 (a9 (a5 rfl (a5 rfl (t8 rfl rfl rfl (a5 rfl ?_))))); refine l3 rfl rfl ?_ ?_
  ·intro hg2; have hg2' := hg2; try simp at hg2'
   have hne : ¬ i = n := fun e => by subst e; simp at hg2
   refine c9 rfl rfl hg2 (a5 rfl (c9 rfl rfl hg2 ?_)); refine j9 rfl T.j3 rfl ?_; refine c9 rfl rfl hg2 (a5 rfl (c9 rfl rfl hg2 (t8 rfl rfl rfl ?_))); refine p_f rfl rfl (bf1 hg2) rfl ?_; refine a7 ?_
   first | refine i8 rfl (fun hb3 => ?_) (fun hb3 => ?_) | refine b9 rfl (fun hb3 => ?_) (fun hb3 => ?_)
   ·have hb3' := hb3; try simp at hb3'
    refine n5 (z7 (n4 (b6 (c6 (a5 rfl ?_))))); refine p7 _ rfl rfl rfl rfl l9 ?_; refine a8 rfl (b3 ?_); refine again _ (l, o, og, s, i + 1) ⟨⟨hG, hlen, hOK, hs⟩, hLast.b, by omega⟩ (y5 (by omega)) ?_ (.refl _) ⟨m0, trivial⟩; exact mC
   have hb3' := hb3; try simp at hb3'
   have hlt : l.length < most := by have : ¬ (l.length : Int) = most := hb3; omega
   refine c3 (b6 (a9 (a5 rfl ?_))); refine d6 F.Y6 rfl rfl (O8 4 hn hs (by omega)) (List.perm_append_comm) ⟨m0, trivial⟩ fun x hx => ?_; obtain ⟨s1, z⟩ := x; obtain ⟨hs1, hz⟩ := hx; refine a7 (j0 (a9 (t8 rfl rfl rfl (a8 rfl (a7 ?_)))))
   first | refine i8 rfl (fun hb4 => ?_) (fun hb4 => ?_) | refine b9 rfl (fun hb4 => ?_) (fun hb4 => ?_)
   ·have hb4' := hb4; try simp at hb4'
    refine c6 (a5 rfl (a5 rfl (a5 rfl ?_))); refine d6 F.jG rfl rfl (bS hn hs1) n6 ⟨m0, trivial⟩ fun x hx => ?_; obtain ⟨s2, t⟩ := x; obtain ⟨hs2, ht⟩ := hx; refine t4 _ rfl rfl (fun _ => T.A5 ..) ?_; refine j8 _ rfl rfl (fun _ => T.A6 ..) fun gS => ?_; refine w9 (l.length + 1) (rows (l ++ [(2, (i : Int), t)])) T.E1 rfl rfl rfl hG (List.perm_append_comm (l₁ := [_, _])) (Src.own (cs := #[int 2, int i, str t]) (m := 1) (List.mem_append_right _ m0) rfl rfl) rfl (t3 l [(2, (i : Int), t)]).symm (by unfold maxLen; omega) (by omega) fun A' c' og' hG' => ?_; refine a8 rfl (b3 (q9 (q9 (b6 (c6 (a5 rfl ?_)))))); refine p7 _ rfl rfl rfl rfl l9 ?_; refine a8 rfl (b3 ?_); refine again _ (l ++ [(2, (i : Int), t)], (A', c'), og', s2, i + 1) ⟨⟨by unfold GrowM; rw [n8]; exact hG', by rw [n8]; omega, hOK.snoc hLast (by omega) (by omega) (by omega) (.inr ⟨by simp, ht⟩), hs2⟩, hLast.any 2 t, by omega⟩ (y5 (by omega)) ?_ ((List.Sublist.refl og').append (.cons _ (.refl _))) ⟨m0, trivial⟩; exact ⟨rfl, rfl, rfl, by rw [n8]; rfl, rfl, trivial⟩
   have hb4' := hb4; try simp at hb4'
   refine a9 (t8 rfl rfl rfl (a8 rfl (a7 ?_)))
   first | refine i8 rfl (fun hb5 => ?_) (fun hb5 => ?_) | refine b9 rfl (fun hb5 => ?_) (fun hb5 => ?_)
   ·have hb5' := hb5; try simp at hb5'
    refine c6 (a5 rfl (a5 rfl ?_)); refine t4 _ rfl rfl (fun _ => T.U9 ..) ?_; refine j8 _ rfl rfl (fun _ => T.A6 ..) fun gS => ?_; refine w9 (l.length + 1) (rows (l ++ [(3, (i : Int), [])])) T.E1 rfl rfl rfl hG (List.perm_append_comm (l₁ := [_, _])) (Src.own (cs := #[int 3, int i, str []]) (m := 1) (List.mem_append_right _ m0) rfl rfl) rfl (t3 l [(3, (i : Int), [])]).symm (by unfold maxLen; omega) (by omega) fun A' c' og' hG' => ?_; refine a8 rfl (b3 (q9 (q9 (b6 (c6 (a5 rfl ?_)))))); refine p7 _ rfl rfl rfl rfl l9 ?_; refine a8 rfl (b3 ?_); refine again _ (l ++ [(3, (i : Int), [])], (A', c'), og', s1, i + 1) ⟨⟨by unfold GrowM; rw [n8]; exact hG', by rw [n8]; omega, hOK.snoc hLast (by omega) (by omega) (by omega) (.inl ⟨rfl, rfl⟩), hs1⟩, hLast.any 3 [], by omega⟩ (y5 (by omega)) ?_ ((List.Sublist.refl og').append (.cons _ (.refl _))) ⟨m0, trivial⟩; exact ⟨rfl, rfl, rfl, by rw [n8]; rfl, rfl, trivial⟩
   have hb5' := hb5; try simp at hb5'
   refine c3 (q9 (q9 (b6 (c6 (a5 rfl ?_))))); refine p7 _ rfl rfl rfl rfl l9 ?_; refine a8 rfl (b3 ?_); refine iD (List.perm_append_comm (l₁ := [_])) ?_; refine again _ (l, o, og, s1, i + 1) ⟨⟨hG, hlen, hOK, hs1⟩, hLast.b, by omega⟩ (y5 (by omega)) ?_ (.refl _) ⟨m0, trivial⟩; exact mC
  intro hg2; have hg2' := hg2; try simp at hg2'
  have hne : i = n := by have h : (i : Int) = n := (by simpa using hg2); omega
  refine k5 rfl rfl rfl rfl rfl hg2 (k5 rfl rfl rfl rfl rfl hg2 (k5 rfl rfl rfl rfl rfl hg2 (k5 rfl rfl rfl rfl rfl hg2 ?_))); refine p_t rfl rfl (bt2 hg2) rfl ?_; refine a7 (c_t rfl rfl (n5 (z7 (n4 (b6 (c6 (a5 rfl ?_))))))); refine p7 _ rfl rfl rfl rfl l9 ?_; refine a8 rfl (b3 ?_); refine again _ (l, o, og, s, i + 1) ⟨⟨hG, hlen, hOK, hs⟩, hLast.b, by omega⟩ (y5 (by omega)) ?_ (.refl _) ⟨m0, trivial⟩; exact mC
 have hb1' := hb1; try simp at hb1'
 have hi2 : i = n + 1 := by omega
 refine n5 (y6 (n4 (b6 (a9 (a5 rfl (a8 rfl (a7 (i6 ?_)))))))); refine mF hG ?_; exact ret1 (s, l, o) rfl rfl rfl ⟨hs, hlen, hOK, hG.le⟩ (.refl _) ⟨m0, trivial⟩
abbrev GrowS2 (o : OutC) (ps : List (Sl Str)) (og : Hp) : Prop := Grow T.strs 1 o.1 ps.length o.2 (rows ps) og
def inner (ps : List (Sl Str)) : Fact := Facts (ps.map fun p => Row p.a (rows p.l))
def PagesOK (ps : List (Sl Str)) : Prop := ∀ p ∈ ps, PageOK p.l ∧ p.l.length ≤ 6 ∧ p.l.length ≤ p.c
theorem PagesOK.snoc {ps : List (Sl Str)} {p : Sl Str} (h : PagesOK ps) (hp : PageOK p.l ∧ p.l.length ≤ 6 ∧ p.l.length ≤ p.c) : PagesOK (ps ++ [p]) := fun q hq => by
  rcases List.mem_append.1 hq with hq | hq
  · exact h q hq
  simp at hq; subst hq; exact hp
theorem PageOK.set {l : List Str} {k : Nat} {t : Str} (h : PageOK l) (ht : t ∈ lineWords) : PageOK (l.set k t) := fun s hs => by
  rcases List.mem_or_eq_of_mem_set hs with h1 | h1
  · exact h s h1
  exact h1 ▸ ht
theorem PageOK.drop {l : List Str} {k : Nat} (h : PageOK l) : PageOK (l.drop k) := fun s hs => h s (List.mem_of_mem_drop hs)
theorem PageOK.snoc {l : List Str} {t : Str} (h : PageOK l) (ht : t ∈ lineWords) : PageOK (l ++ [t]) := fun s hs => by
  rcases List.mem_append.1 hs with h1 | h1
  · exact h s h1
  simp at h1; subst h1; exact ht
end Go.Proofs.YtegfgegnhjkcfaaGreatDoor
end
section
namespace Go.W
open Go Go.RowKit
def diesP {β γ : Type} (k : Con β) (k2 : Con γ) (w : World) (e : Ending) (w' : World) : Prop := ∃ y, e = .panicked [{ v := k2.val y, recovered := false }] ∧ k2.inv y ∧ WI (k.entry w) w' (k2.hpO y) (k2.LO y)
def orP {β γ : Type} (k : Con β) (k2 : Con γ) (w : World) (e : Ending) (w' : World) : Prop := k.post w e w' ∨ diesP k k2 w e w'
def MeetsE (P : Program) (f : Nat) (args : List Value) {β γ : Type} (k : Con β) (k2 : Con γ) : Prop :=
  ∀ w, WI (k.entry w) w k.hpI k.LI → Calls P f args.toArray w (orP k k2 w)
theorem okArgs {P : Program} {fn : Func} {bx : Bx} {args : List Value} (hn : args.length ≤ fn.ntmps) : Ok ⟨P, fn.ntmps, bx, [], none⟩ { tmps := args.toArray ++ Array.replicate (fn.ntmps - args.toArray.size) undef, defers := [] } (argFr 0 args) := by
  refine ⟨rfl, by simp; omega, fun t v hv => ?_⟩; obtain ⟨_, h2⟩ := lU args 0 t v hv; simp only [Nat.sub_zero] at h2
  have hlt : t < args.length := by
    rcases Nat.lt_or_ge t args.length with h' | h'
    · exact h'
    rw [List.getElem?_eq_none h'] at h2; cases h2
  rw [List.getElem?_eq_getElem hlt] at h2
  injection h2 with h2
  simp [Array.getElem?_append, hlt, h2]
theorem cX {β γ : Type} {P : Program} {f : Nat} {args : List Value} {k : Con β} {k2 : Con γ} {fn : Func} {code : Code} (hf : P.funcs[f]? = some fn) (hb : fn.body = some code) (hn : args.length ≤ fn.ntmps)
    (h : ∀ w, HC ⟨P, fn.ntmps, k.entry w, [], none⟩ code (bodyPost P fn (orP k k2 w)) (argFr 0 args) k.hpI k.LI) : MeetsE P f args k k2 :=
  fun w hw => callsIn_wide.1 (callsIn_of_wp (n := 0) hf hb trivial (h w _ w (okArgs hn) hw))
theorem vO {β : Type} {P : Program} {f : Nat} {args : List Value} {k : Con β} {fn : Func} {code : Code} (hf : P.funcs[f]? = some fn) (hb : fn.body = some code) (hn : args.length ≤ fn.ntmps)
    (h : ∀ w, HC ⟨P, fn.ntmps, k.entry w, [], none⟩ code (bodyPostDIn Fence.wide 0 P fn (k.post w)) (argFr 0 args) k.hpI k.LI) : Meets P f args k :=
  fun w hw => callsIn_wide.1 (callsIn_of_wp_defers (n := 0) hf hb trivial (h w _ w (okArgs hn) hw))
/-! ### The closure that recovers -/
def recM : FrameMode → Value × FrameMode
  | .panicking ({ v, recovered := false, goexit := false } :: older) => (v, .panicking ({ v, recovered := true } :: older))
  | u => (.nilIface, u)
theorem aq3 (v : Value) : recM (.panicking [{ v, recovered := false }]) = (v, .panicking [{ v, recovered := true }]) := rfl
theorem bq9 : recM .returning = (.nilIface, .returning) := rfl
def Mend (u : FrameMode) : Prop := u = .returning ∨ ∃ v, u = .panicking [{ v, recovered := true }]
theorem xN {u : FrameMode} (h : Mend u) : settle u = .returning := by rcases h with rfl | ⟨v, rfl⟩ <;> rfl
def MeetsR (P : Program) (g : Nat) (args : List Value) (u u' : FrameMode) {β : Type} (k : Con β) : Prop :=
  ∀ w, WI (k.entry w) w k.hpI k.LI → CallsDIn Fence.wide 0 P g args.toArray u w fun e u2 w' => u2 = u' ∧ k.post w e w'
theorem xE {c : Frame} {cs : List Frame} {u u' : FrameMode} {v : Value} (hu : c.mode = u) (h : recM u = (v, u')) : (recoverD (c :: cs) = some (v, { c with mode := u' } :: cs)) ∨ (recoverD (c :: cs) = none ∧ v = .nilIface ∧ { c with mode := u' } = c) := by
  obtain ⟨f, tm, td, df, md, kd, ro⟩ := c; simp only at hu; subst hu
  cases md with
  | run => simp only [recM, Prod.mk.injEq] at h; obtain ⟨rfl, rfl⟩ := h; exact .inr ⟨rfl, rfl, rfl⟩
  | returning => simp only [recM, Prod.mk.injEq] at h; obtain ⟨rfl, rfl⟩ := h; exact .inr ⟨rfl, rfl, rfl⟩
  | panicking ch =>
    rcases ch with _ | ⟨⟨x, r, g⟩, older⟩
    · simp only [recM, Prod.mk.injEq] at h; obtain ⟨rfl, rfl⟩ := h; exact .inr ⟨rfl, rfl, rfl⟩
    cases r <;> cases g <;> simp only [recM, Prod.mk.injEq] at h <;> obtain ⟨rfl, rfl⟩ := h <;> first | exact .inl rfl | exact .inr ⟨rfl, rfl, rfl⟩
theorem wpS_val {P : Program} {ops : Array Oper} {Q : Exit → Act → List Frame → World → Prop} {i : Nat} {l : List Nat} {o : Oper} {a : Act} {cs : List Frame} {w : World} {v : Value} (ho : ops[i]? = some o) (hw : Region.wanted o (yielded ops a.tmps) = true) (hr : (execOp a.eval o).run P w = .ok (.value v) w)
    (h : wpOpsSIn Fence.wide 0 P ops Q l (a.put o.dst v) cs w) : wpOpsSIn Fence.wide 0 P ops Q (i :: l) a cs w := by
  unfold wpOpsSIn; rw [ho]; simp only [hw, hr, if_true]; exact ⟨fun _ _ => trivial, h⟩
theorem wpS_rec {P : Program} {ops : Array Oper} {Q : Exit → Act → List Frame → World → Prop} {i : Nat} {l : List Nat} {o : Oper} {a : Act} {cs : List Frame} {w : World} (ho : ops[i]? = some o) (hw : Region.wanted o (yielded ops a.tmps) = true) (hr : (execOp a.eval o).run P w = .ok .recover w)
    (h : (∃ v cs', recoverD cs = some (v, cs') ∧ wpOpsSIn Fence.wide 0 P ops Q l (a.put o.dst v) cs' w) ∨ (recoverD cs = none ∧ wpOpsSIn Fence.wide 0 P ops Q l (a.put o.dst .nilIface) cs w)) : wpOpsSIn Fence.wide 0 P ops Q (i :: l) a cs w := by
  unfold wpOpsSIn; rw [ho]; simp only [hw, hr, if_true]; refine ⟨fun _ _ => trivial, ?_⟩
  rcases h with ⟨v, cs', h1, h2⟩ | ⟨h1, h2⟩
  · rw [h1]; exact h2
  rw [h1]; exact h2
theorem lT {β : Type} {P : Program} {g : Nat} {args : List Value} {u u' : FrameMode} {v : Value} {k : Con β} {fn : Func} {id : Nat} {d d2 : Tmp} {op : Op} {ty ty2 : TypeId} {pos pos2 : String} {af af2 : Array Edge} {rest : Code} (hrec : recM u = (v, u'))
    (hf : P.funcs[g]? = some fn) (hb : fn.body = some (.seq (.region id #[⟨some d, op, ty, pos, af, none⟩, ⟨some d2, .assign (.tmp d), ty2, pos2, af2, none⟩] false) rest)) (hn : args.length ≤ fn.ntmps) (hd : Nat.blt d fn.ntmps = true) (hd2 : Nat.blt d2 fn.ntmps = true)
    (hr : ∀ ρ w, (execOp ρ (⟨some d, op, ty, pos, af, none⟩ : Oper)).run P w = .ok .recover w)
    (h : ∀ w, HC ⟨P, fn.ntmps, k.entry w, [], none⟩ rest (bodyPost P fn (k.post w)) ((d2, v) :: (d, v) :: argFr 0 args) k.hpI k.LI) : MeetsR P g args u u' k := by
  intro w hw; refine callsDIn_of_wpSIn hf hb trivial fun c₀ cs hu => ?_; refine wpSIn_seq (wpSIn_region ?_); have ho := (okArgs (P := P) (bx := k.entry w) hn).put (by simpa using hd) v; have ho2 := ho.put (by simpa using hd2) v; have hev : Act.eval (({ tmps := args.toArray ++ Array.replicate (fn.ntmps - args.toArray.size) undef, defers := [] } : Act).put (some d) v) (.tmp d) = v := ho.at_ d v (by simp [lk, Nat.beq_refl]); have hc := h w _ w ho2 hw
  have fin : ∀ cs' : List Frame, cs' = { c₀ with mode := u' } :: cs → wpOpsSIn Fence.wide 0 P #[⟨some d, op, ty, pos, af, none⟩, ⟨some d2, .assign (.tmp d), ty2, pos2, af2, none⟩] (Exit.thenS (rest.wpSIn Fence.wide 0 P (bodyPostS P fn c₀ cs fun e u2 w' => u2 = u' ∧ k.post w e w')) (bodyPostS P fn c₀ cs fun e u2 w' => u2 = u' ∧ k.post w e w')) [1]
      (({ tmps := args.toArray ++ Array.replicate (fn.ntmps - args.toArray.size) undef, defers := [] } : Act).put (some d) v) cs' w := by
    rintro cs' rfl
    have e2 : (execOp (({ tmps := args.toArray ++ Array.replicate (fn.ntmps - args.toArray.size) undef, defers := [] } : Act).put (some d) v).eval (⟨some d2, .assign (.tmp d), ty2, pos2, af2, none⟩ : Oper)).run P w = .ok (.value v) w := by
      show Result.ok (Next.value _) w = _; rw [hev]
    refine wpS_val (o := ⟨some d2, .assign (.tmp d), ty2, pos2, af2, none⟩) rfl (by simp [Region.wanted]) e2 ?_; show Exit.thenS _ _ .normal _ _ _; refine wpSIn_of_wpIn rfl (wpIn_mono hc fun e a w' hq => ?_)
    cases e with
    | normal => exact ⟨hq.1, u', rfl, hq.2.elim fun x hx => ⟨x, hx.1, rfl, hx.2⟩⟩
    | ret => exact ⟨hq.1, u', rfl, hq.2.elim fun x hx => ⟨x, hx.1, rfl, hx.2⟩⟩
    | exit id => exact hq.elim
    | goto l => exact hq.elim
    | panic ch => exact ⟨hq.1, u', rfl, rfl, hq.2⟩
    | outgrown => exact ⟨u', rfl, hq⟩
  show wpOpsSIn Fence.wide 0 P _ _ [0, 1] _ _ _; refine wpS_rec (o := ⟨some d, op, ty, pos, af, none⟩) rfl (by simp [Region.wanted]) (hr _ _) ?_
  rcases xE (cs := cs) hu hrec with h1 | ⟨h1, rfl, h2⟩
  · exact .inl ⟨_, _, h1, fin _ rfl⟩
  exact .inr ⟨h1, fin _ (by rw [h2])⟩
section
variable {c : Cx} {Q : Exit → Act → World → Prop} {fr : Fr} {hp : Hp} {L : List Fact} {ops : Array Oper} {rest : List Oper}
theorem D1 {K : Act → World → Prop} {ch : List PanicEntry} (h : HQ c Q (.panic ch) fr hp L) : HQ c (Exit.then K Q) (.panic ch) fr hp L := fun a w ha hw => h a w ha hw
theorem I1 {id : Nat} {ch : List PanicEntry} (h : HQ c Q (.panic ch) fr hp L) : HQ c (Exit.inBlock id Q) (.panic ch) fr hp L := fun a w ha hw => h a w ha hw
theorem hq_E {fn : Func} {P : Program} {β γ : Type} {k : Con β} {k2 : Con γ} {w0 : World} (h : HQ c (bodyPost P fn (k.post w0)) .ret fr hp L) : HQ c (bodyPost P fn (orP k k2 w0)) .ret fr hp L := fun a w ha hw => ⟨(h a w ha hw).1, (h a w ha hw).2.elim fun v x => ⟨v, x.1, .inl x.2⟩⟩
theorem hq_En {fn : Func} {P : Program} {β γ : Type} {k : Con β} {k2 : Con γ} {w0 : World} (h : HQ c (bodyPost P fn (k.post w0)) .normal fr hp L) : HQ c (bodyPost P fn (orP k k2 w0)) .normal fr hp L := fun a w ha hw => ⟨(h a w ha hw).1, (h a w ha hw).2.elim fun v x => ⟨v, x.1, .inl x.2⟩⟩
theorem O4 {β γ : Type} {k : Con β} {k2 : Con γ} {fn : Func} {w0 : World} {v : Value} (y : γ) (hv : v = k2.val y) (hb : c.b = k.entry w0) (hi : k2.inv y) (h2 : (k2.hpO y).Sublist hp) (h3 : LSub L (k2.LO y)) (hD : c.D = [] := by exact rfl) :
    HQ c (bodyPost c.P fn (orP k k2 w0)) (.panic [{ v, recovered := false }]) fr hp L := fun a w ha hw => ⟨ha.d.trans hD, .inr ⟨y, by rw [hv], hi, hb ▸ hw.weak h2 h3.mem⟩⟩
variable {d : Tmp} {ty : TypeId} {pos : String} {af : Array Edge}
theorem WI.back2 {b : Bx} {w w' : World} {hpR : Hp} {β γ : Type} {k : Con β} {k2 : Con γ} {y : γ} (h : WI b w hp L) (h1 : hp.Perm (k.hpI ++ hpR)) (h2 : ∀ F ∈ k.LI, F ∈ L)
    (r : WI (k.entry w) w' (k2.hpO y) (k2.LO y)) : WI b w' (k2.hpO y ++ hpR) (k2.LO y ++ L) :=
  WI.back (k := ({ hpI := k.hpI, LI := k.LI, inv := k2.inv, val := k2.val, hpO := k2.hpO, LO := k2.LO } : Con γ)) (x := y) h h1 h2 r
theorem mH {f : Nat} {aS9 : Array Operand} {ats : Array TypeId} {vs : List Value} {β γ : Type} {k : Con β} {k2 : Con γ} {hpR : Hp} (hcb : Callable c.P f) (hd : Nat.blt d c.n = true) (hx : aS9.toList.mapM (ev fr) = some vs)
    (hm : MeetsE c.P f vs k k2) (h1 : hp.Perm (k.hpI ++ hpR)) (h2 : LSub L k.LI) (dd : ∀ y, k2.inv y → HQ c Q (.panic [{ v := k2.val y, recovered := false }]) fr (k2.hpO y ++ hpR) (k2.LO y ++ L)) (kk : ∀ x, k.inv x → HL c ops Q rest ((d, k.val x) :: fr) (k.hpO x ++ hpR) (k.LO x ++ L)) :
    HL c ops Q (⟨some d, .call ⟨.value (.func f), aS9, ats⟩, ty, pos, af, none⟩ :: rest) fr hp L := by
  intro a w ha hw; refine M4 rfl fun K hK => ?_
  have key : ∀ (xs : List Operand) (vs : List Value), xs.mapM (ev fr) = some vs → xs.map a.eval = vs := by
    intro xs
    induction xs with
    | nil => intro vs h; simpa using h
    | cons x xs ih =>
      intro vs h; simp only [List.mapM_cons, Option.bind_eq_bind, Option.bind_eq_some_iff, Option.pure_def, Option.some.injEq] at h; obtain ⟨v, hv, us, hus, rfl⟩ := h; rw [List.map_cons, ha.ev hv, ih us hus]
  have e1 : (#[] ++ aS9.map a.eval ++ #[]) = vs.toArray := by simp; apply Array.ext'; simpa using key _ _ hx
  unfold Oper.wp; rw [execOp_call_go, hcb.run, Oper.upon_enter, e1]; refine (hm w (hw.entry h1 h2.mem)).mono fun e w' hp => ?_
  rcases hp with ⟨x, rfl, hi, hwi⟩ | ⟨y, rfl, hi, hwi⟩
  · exact hK _ _ (kk x hi _ _ (ha.put (by simpa using hd) _) (hw.back h1 h2.mem hwi))
  exact dd y hi _ _ ha (hw.back2 h1 h2.mem hwi)
theorem R6 {x : Operand} {t : TypeId} {v : Value} (hx : ev fr x = some (.iface t v)) (k : HQ c Q (.panic [{ v := .iface t v, recovered := false }]) fr hp L) :
    HL c ops Q (⟨none, .panic x, ty, pos, af, none⟩ :: rest) fr hp L := by
  intro a w ha hw; refine M4 rfl fun K hK => ?_
  have e : (execOp a.eval (⟨none, .panic x, ty, pos, af, none⟩ : Oper)).run c.P w = .halt (.panic (.iface t v)) w := by
    show ((do let v ← Instr.panic (a.eval x); pure (Next.value v)) : Sem Next).run c.P w = _; rw [ha.ev hx, Sem.run_bind]
    rfl
  unfold Oper.wp; rw [e]; exact k a w ha hw
theorem r_defer {x : Operand} {g : Nat} {cap : List Value} {ats : Array TypeId} (hx : ev fr x = some (.func (.func g) #[] cap.toArray))
    (k : HL { c with D := { target := .fn (.func g) cap.toArray, args := #[] } :: c.D } ops Q rest fr hp L) : HL c ops Q (⟨none, .defer ⟨.value x, #[], ats⟩, ty, pos, af, none⟩ :: rest) fr hp L := by
  intro a w ha hw; refine M4 rfl fun K hK => ?_
  have e : (execOp a.eval (⟨none, .defer ⟨.value x, #[], ats⟩, ty, pos, af, none⟩ : Oper)).run c.P w = .ok (.defer { target := .fn (.func g) cap.toArray, args := #[] }) w := by
    show ((do let dd ← resolve a.eval ⟨.value x, #[], ats⟩ ty; pure (Next.defer dd)) : Sem Next).run c.P w = _; have e3 : (#[] ++ Array.map a.eval #[] : Array Value) = #[] := by simp
    simp only [resolve, ha.ev hx, Deferred.ofValue, e3]
    rfl
  unfold Oper.wp; rw [e]; exact hK _ _ (k _ _ ⟨by show _ :: a.defers = _; rw [ha.d], ha.sz, ha.at_⟩ hw)
theorem qK {β γ : Type} {k : Con β} {kd : Con γ} {fn : Func} {w0 : World} {g : Nat} {cap : List Value} {u u' : FrameMode} {hpR : Hp} {e : Exit} (hm : MeetsR c.P g cap u u' kd) (he : (e = .ret ∧ u = .returning) ∨ (e = .normal ∧ u = .returning) ∨ ∃ ch, e = .panic ch ∧ u = .panicking ch) (hcb : Callable c.P g) (hM : Mend u') (hD : c.D = [{ target := .fn (.func g) cap.toArray, args := #[] }])
    (h1 : hp.Perm (kd.hpI ++ hpR)) (h2 : LSub L kd.LI) (kk : ∀ y, kd.inv y → HQ { c with D := [] } (bodyPost c.P fn (k.post w0)) .ret fr (kd.hpO y ++ hpR) (kd.LO y ++ L)) :
    HQ c (bodyPostDIn Fence.wide 0 c.P fn (k.post w0)) e fr hp L := by
  intro a w ha hw; have hu : u ≠ .run := by rcases he with ⟨_, h⟩ | ⟨_, h⟩ | ⟨_, _, h⟩ <;> rw [h] <;> simp
  have key : LeavesIn Fence.wide 0 c.P fn a.tmps (k.post w0) a.defers u w := by
    rw [ha.d, hD]
    have hi : (invoke (.fn (.func g) cap.toArray) #[]).run c.P w = .ok (.enter g cap.toArray) w := by
      have e3 : (#[] ++ #[] ++ cap.toArray : Array Value) = cap.toArray := by simp
      show (callFunc g (#[] ++ #[] ++ cap.toArray)).run c.P w = _; rw [e3]; exact hcb.run _ _
    refine leavesIn_cons hu (fun h => by cases h) hi (fun _ _ => trivial) ((hm w (hw.entry h1 h2.mem)).mono fun e u2 w' hp => ?_); obtain ⟨rfl, y, rfl, hi, hwi⟩ := hp; show LeavesIn Fence.wide 0 c.P fn a.tmps (k.post w0) [] (settle _) w'; rw [xN hM]; exact (kk y hi { a with defers := [] } w' ⟨rfl, ha.sz, ha.at_⟩ (hw.back h1 h2.mem hwi)).2
  rcases he with ⟨rfl, rfl⟩ | ⟨rfl, rfl⟩ | ⟨ch, rfl, rfl⟩
  · exact key
  · exact key
  exact key
end
end Go.W
end
section
namespace Go.Proofs.YtegfgegnhjkcfaaGreatDoor
open Go Go.W
set_option maxRecDepth 20000
attribute [local irreducible] HL HC HQ HB Row Rows2 Blk Facts
def K4 : Str := [63, 43, 61, 45]
def markK (k : Int) (r : Str) : Option Mk :=
  if k < 1 ∨ ¬ (cutB 32 r).2.2 = decide (¬ k = 3) then none else
  match numS (cutB 32 r).1 with
  | none => none
  | some n => if textErr (k, n, (cutB 32 r).2.1) = 0 then some (k, n, (cutB 32 r).2.1) else none
def markS : Str → Option Mk
  | [] => none
  | c :: r => markK (Lib.indexByte K4 c) r
def readF : Nat → Str → List Mk → List Mk × Bool
  | 0, s, ms => (ms, s.isEmpty)
  | n + 1, s, ms => if s = [] then (ms, true) else if (cutB 47 s).2.2 = false then (ms, false) else
    match markS (cutB 47 s).1 with
    | none => (ms, false)
    | some m => readF n (cutB 47 s).2.1 (ms ++ [m])
def contR (n : Nat) (p : Str × Str × Bool) (ms : List Mk) : List Mk × Bool :=
  if p.2.2 = true then (match markS p.1 with | none => (ms, false) | some m => readF n p.2.1 (ms ++ [m])) else (ms, true)
theorem uG (n : Nat) (ms : List Mk) : readF n [] ms = (ms, true) := by cases n <;> rfl
theorem cO {n : Nat} {x : Str} {ms : List Mk} {p q : Str} (hx : x ≠ []) (hn : x.length ≤ n) (h : cutB 47 x = (p, q, true)) : readF n x ms = contR (n - 1) (p, q, true) ms ∧ q.length ≤ n - 1 ∧ 1 ≤ n := by
  have h0 : 0 < x.length := List.length_pos_iff.2 hx
  rcases W5 47 x with ⟨_, h2, _⟩ | ⟨i, _, h1, h2, _⟩
  · rw [h2] at h; cases h
  rw [h2] at h
  injection h with e1 e2
  injection e2 with e2 e3
  cases n with
  | zero => omega
  | succ n =>
    refine ⟨?_, by rw [← e2, List.length_drop]; omega, by omega⟩; rw [readF, if_neg hx, h2, if_neg (by simp), contR, if_pos rfl, ← e1, ← e2]
    rfl
theorem mV {n : Nat} {x : Str} {ms : List Mk} (hx : x ≠ []) (hn : x.length ≤ n) (h : (cutB 47 x).2.2 = false) : readF n x ms = (ms, false) := by
  have h0 : 0 < x.length := List.length_pos_iff.2 hx
  cases n with
  | zero => omega
  | succ n => rw [readF, if_neg hx, if_pos h]
def readE (x : Str) : List Mk × Int × Int :=
  if 160 < x.length then ([], 0, 10) else if (readF x.length x []).2 = false then ([], (readF x.length x []).1.length, 2) else if 12 < (readF x.length x []).1.length then ([], 0, 6) else ((readF x.length x []).1, 0, 0)
theorem uH : ∀ (n : Nat) (x : Str) (ms : List Mk), (readF n x ms).1.length ≤ ms.length + n
  | 0, x, ms => Nat.le_refl _
  | n + 1, x, ms => by
    rw [readF]
    split
    · simp
    split
    · simp
    split
    · simp
    have := uH n (cutB 47 x).2.1 (ms ++ [by assumption]); rw [List.length_append] at this; simp only [List.length_cons, List.length_nil] at this
    omega
abbrev rdO (g : Nat) (x : Str) (n : Int) (V : Value) : Nat × Obj := (g, Obj.cells #[str x, int n, V] T.lB (0, 0))
abbrev rdV (o : OutC) (ms : List Mk) : Value := .slice o.1 ms.length o.2
abbrev rdH (g : Nat) (x : Str) (n : Int) (o : OutC) (ms : List Mk) (og : Hp) : Hp := rdO g x n (rdV o ms) :: og
abbrev wrongV (n : Int) : Value := .iface T.xJ (int n)
theorem C7 {t : Str} (h : t.length = 0 ∨ 2 < t.length) : numS t = none := by
  unfold numS numOK; rw [if_neg]; rw [Bool.and_eq_true, decide_eq_true_eq]; rintro ⟨h1, _⟩
  omega
theorem W9 {t : Str} (h : 0 < t.length) (h1 : t.length = 2) (h2 : ((t[0]).toNat : Int) = 48) : numS t = none := by
  unfold numS numOK; rw [if_neg]; rw [Bool.and_eq_true, decide_eq_true_eq]; rintro ⟨h3 | ⟨_, h3⟩, _⟩
  · omega
  apply h3
  rw [List.getElem?_eq_getElem h]; have : t[0] = UInt8.ofNat 48 := (R9 (by decide)).1 h2; rw [this]; rfl
theorem H5 {t : Str} (h : ¬ t.all isDig = true) : numS t = none := by
  unfold numS numOK; rw [if_neg]; rw [Bool.and_eq_true]; exact fun h2 => h h2.2
theorem lP {t : Str} (h0 : 0 < t.length) (h : t.length ≤ 2) (h1 : t.length = 2 → ¬ ((t[0]).toNat : Int) = 48) (hd : t.all isDig = true) : numS t = some (numV t) := by
  unfold numS numOK; rw [if_pos]; rw [Bool.and_eq_true, decide_eq_true_eq]; refine ⟨?_, hd⟩
  by_cases h2 : t.length = 2
  · refine .inr ⟨h2, fun h3 => h1 h2 ?_⟩
    rw [List.getElem?_eq_getElem h0] at h3; have : t[0] = 48 := Option.some.inj h3; rw [this]; rfl
  exact .inl (by omega)
theorem P7 (g : Nat) (x : Str) (n : Int) (V : Value) (hx : x.length ≤ 1000000) : MeetsE Tryz.prog F.U3 [.pointer (j4 g)] { hpI := [rdO g x n V], inv := fun p : Str × Str × Bool => (x = [] ∧ p = ([], [], false)) ∨ (x ≠ [] ∧ cutB 47 x = (p.1, p.2.1, true) ∧ p.2.2 = true), val := fun p => .tuple #[str p.1, .bool p.2.2], hpO := fun p => [rdO g p.2.1 n V] } { inv := fun _ : Unit => x ≠ [] ∧ (cutB 47 x).2.2 = false, val := fun _ => wrongV n, hpO := fun _ => [rdO g x n V] } := by
 refine cX F.lA rfl l5 fun w0 => ?_; refine a9 (a8 rfl (a8 rfl (a7 (b5 (a9 (a5 rfl (i5 rfl rfl ?_)))))))
 first | refine a3 ⟨_, 0, none⟩ rfl rfl T.D0 rfl ?_ | refine a3 _ rfl rfl T.D0 rfl ?_
 refine a4 (v := str x) rfl T.j1 rfl (b7 m0 rfl) ?_; refine aG rfl rfl rfl (a7 ?_)
 first | refine i8 rfl (fun hb1 => ?_) (fun hb1 => ?_) | refine b9 rfl (fun hb1 => ?_) (fun hb1 => ?_)
 ·have hb1' := hb1; try simp at hb1'
  have hb2 : x = [] := by simpa using hb1
  refine a9 (a8 rfl (a8 rfl (a7 (s6 (hq_E ?_))))); exact ret2 ([], [], false) rfl rfl rfl rfl rfl (.inl ⟨hb2, rfl⟩) (by subst hb2; exact .refl _) trivial
 have hb1' := hb1; try simp at hb1'
 have hx0 : x ≠ [] := by simpa using hb1
 refine c3 (b6 (a9 (a5 rfl (i5 rfl rfl ?_))))
 first | refine a3 ⟨_, 0, none⟩ rfl rfl T.D0 rfl ?_ | refine a3 _ rfl rfl T.D0 rfl ?_
 refine a4 (v := str x) rfl T.j1 rfl (b7 m0 rfl) ?_; refine d6 F.dT rfl rfl (Z3 x 47 hx) (hpR := [_]) (.refl _) trivial fun _ _ => ?_; obtain ⟨⟨p, q, bo⟩, hcut⟩ : ∃ y, cutB 47 x = y := ⟨_, rfl⟩; rw [hcut]; refine a5 rfl (k4 rfl rfl rfl (k4 rfl rfl rfl (k4 rfl rfl rfl (a8 rfl (a8 rfl (a8 rfl (a7 (b5 (a9 ?_))))))))); refine a5 rfl (bH rfl rfl (a7 ?_))
 first | refine i8 rfl (fun hb2 => ?_) (fun hb2 => ?_) | refine b9 rfl (fun hb2 => ?_) (fun hb2 => ?_)
 ·have hb2' := hb2; try simp at hb2'
  have hb3 : bo = false := by simpa using hb2
  refine c6 (a5 rfl (i5 rfl rfl ?_))
  first | refine a3 ⟨_, 1, none⟩ rfl rfl T.k8 rfl ?_ | refine a3 _ rfl rfl T.k8 rfl ?_
  refine a4 (v := int n) rfl T.a6 rfl (b7 m0 rfl) (jB rfl ⟨_, Tryz.underlying105, rfl⟩ rfl (R6 rfl ?_))
  repeat (first | refine D1 ?_ | refine I1 ?_)
  exact O4 () rfl rfl ⟨hx0, by first | exact hb3 | (rw [hcut]; exact hb3)⟩ (.refl _) trivial
 have hb2' := hb2; try simp at hb2'
 obtain rfl : bo = true := by simpa using hb2
 refine c3 (b6 (a9 (a5 rfl (a5 rfl (i5 rfl rfl ?_)))))
 first | refine a3 ⟨_, 0, none⟩ rfl rfl T.D0 rfl ?_ | refine a3 _ rfl rfl T.D0 rfl ?_
 refine n7 rfl rfl (.refl _) T.v8 (by rfl) (by rfl) ?_; refine k9 (a5 rfl (a8 rfl (a8 rfl (a7 (i6 (hq_E ?_)))))); exact ret2 (p, q, true) rfl rfl rfl rfl rfl (.inr ⟨hx0, by first | exact hcut | rfl, rfl⟩) (.refl _) trivial
theorem bI (g : Nat) (x : Str) (n : Int) (V : Value) (t : Str) (ht : t.length ≤ 1000000) : MeetsE Tryz.prog F.N8 [.pointer (j4 g), str t] { hpI := [rdO g x n V], inv := fun z : Int => numS t = some z, val := fun z => int z, hpO := fun _ => [rdO g x n V] } { inv := fun _ : Unit => numS t = none, val := fun _ => wrongV n, hpO := fun _ => [rdO g x n V] } := by
 refine cX F.iN rfl l5 fun w0 => ?_; refine a9 (a8 rfl (a7 (b5 (a9 (a5 rfl ?_))))); refine l4 rfl T.i2 rfl ?_; refine t8 rfl rfl rfl (a5 rfl ?_); refine l3 rfl rfl ?_ ?_
 ·intro hg1; have hg1' := hg1; try simp at hg1'
  refine c9 rfl rfl hg1 (a5 rfl (c9 rfl rfl hg1 ?_)); refine l4 rfl T.i2 rfl ?_; refine c9 rfl rfl hg1 (v9 rfl rfl rfl ?_); refine p_f rfl rfl (bf1 hg1) rfl (a5 rfl ?_); refine l3 rfl rfl ?_ ?_
  ·intro hg2; have hg2' := hg2; try simp at hg2'
   refine c9 rfl rfl hg2 (a5 rfl (c9 rfl rfl hg2 ?_)); refine l4 rfl T.i2 rfl ?_; refine c9 rfl rfl hg2 (t8 rfl rfl rfl (c9 rfl rfl hg2 (a5 rfl ?_))); refine l3 rfl rfl ?_ ?_
   ·intro hg3; have hg3' := hg3; try simp at hg3'
    refine c9 rfl rfl hg3 (a5 rfl (c9 rfl rfl hg3 ?_)); refine q7 0 rfl T.i2 rfl rfl rfl (List.getElem?_eq_getElem (by first | omega | exact List.length_pos_iff.2 (by assumption))) ?_; refine c9 rfl rfl hg3 (t8 rfl rfl rfl (c9 rfl rfl hg2 ?_)); refine p_t rfl rfl (bt1 hg3) rfl (p_f rfl rfl (bf1 hg2) rfl (a5 rfl ?_)); refine l3 rfl rfl ?_ ?_
    ·intro hg4; have hg4' := hg4; try simp at hg4'
     refine c9 rfl rfl hg4 (a5 rfl (c9 rfl rfl hg4 ?_)); refine d6 F.dC rfl rfl (X4 t ht) (hpR := [_]) (.refl _) trivial fun _ _ => ?_; refine c9 rfl rfl hg4 (jO rfl rfl rfl ?_); refine p_f rfl rfl (bf1 hg4) rfl ?_; refine a7 ?_
     first | refine i8 rfl (fun hb1 => ?_) (fun hb1 => ?_) | refine b9 rfl (fun hb1 => ?_) (fun hb1 => ?_)
     ·have hb1' := hb1; try simp at hb1'
      refine c6 (a5 rfl (i5 rfl rfl ?_))
      first | refine a3 ⟨_, 1, none⟩ rfl rfl T.k8 rfl ?_ | refine a3 _ rfl rfl T.k8 rfl ?_
      refine a4 (v := int n) rfl T.a6 rfl (b7 m0 rfl) (jB rfl ⟨_, Tryz.underlying105, rfl⟩ rfl (R6 rfl ?_))
      repeat (first | refine D1 ?_ | refine I1 ?_)
      exact O4 () rfl rfl (by first | exact C7 (by omega) | exact C7 (.inl (by rw [show t = [] by assumption]; rfl)) | exact W9 (by first | omega | exact List.length_pos_iff.2 (by assumption)) (by omega) (by assumption) | exact H5 (fun h => by have h9 := X1.2 h; simp_all)) (.refl _) trivial
     have hb1' := hb1; try simp at hb1'
     have hd : t.all isDig = true := X1.1 (by simpa using hb1); refine c3 (b6 (a9 (a5 rfl ?_))); refine d6 F.dE rfl rfl (sT t ⟨(by first | omega | exact List.length_pos_iff.2 (by assumption)), by omega⟩ hd) (hpR := [_]) (.refl _) trivial fun _ _ => ?_; refine a5 rfl (k4 rfl rfl rfl (k4 rfl rfl rfl (a8 rfl (a8 rfl (k9 (a5 rfl (a8 rfl (b3 ?_)))))))); refine b6 (i6 (hq_E ?_)); exact ret1 (numV t) rfl rfl rfl (lP (by first | omega | exact List.length_pos_iff.2 (by assumption)) (by omega) (by first | (intro _; assumption) | (intro h; exact absurd h (by omega))) hd) (.refl _) trivial
    intro hg4; have hg4' := hg4; try simp at hg4'
    refine k5 rfl rfl rfl rfl rfl hg4 (k5 rfl rfl rfl rfl rfl hg4 (k5 rfl rfl rfl rfl rfl hg4 ?_)); refine p_t rfl rfl (bt2 hg4) rfl ?_; refine a7 (c_t rfl rfl (c6 (a5 rfl (i5 rfl rfl ?_))))
    first | refine a3 ⟨_, 1, none⟩ rfl rfl T.k8 rfl ?_ | refine a3 _ rfl rfl T.k8 rfl ?_
    refine a4 (v := int n) rfl T.a6 rfl (b7 m0 rfl) (jB rfl ⟨_, Tryz.underlying105, rfl⟩ rfl (R6 rfl ?_))
    repeat (first | refine D1 ?_ | refine I1 ?_)
    exact O4 () rfl rfl (by first | exact C7 (by omega) | exact C7 (.inl (by rw [show t = [] by assumption]; rfl)) | exact W9 (by first | omega | exact List.length_pos_iff.2 (by assumption)) (by omega) (by assumption) | exact H5 (fun h => by have h9 := X1.2 h; simp_all)) (.refl _) trivial
   intro hg3; have hg3' := hg3; try simp at hg3'
   refine k5 rfl rfl rfl rfl rfl hg3 (k5 rfl rfl rfl rfl rfl hg3 (k5 rfl rfl rfl rfl rfl hg3 (c9 rfl rfl hg2 ?_))); refine p_f rfl rfl (bf2 hg3) rfl (p_f rfl rfl (bf1 hg2) rfl ?_); refine a5 rfl (c9 rfl rfl rfl (a5 rfl (c9 rfl rfl rfl ?_))); refine d6 F.dC rfl rfl (X4 t ht) (hpR := [_]) (.refl _) trivial fun _ _ => ?_; refine c9 rfl rfl rfl (jO rfl rfl rfl (p_f rfl rfl rfl rfl (a7 ?_)))
   first | refine i8 rfl (fun hb1 => ?_) (fun hb1 => ?_) | refine b9 rfl (fun hb1 => ?_) (fun hb1 => ?_)
   ·have hb1' := hb1; try simp at hb1'
    refine c6 (a5 rfl (i5 rfl rfl ?_))
    first | refine a3 ⟨_, 1, none⟩ rfl rfl T.k8 rfl ?_ | refine a3 _ rfl rfl T.k8 rfl ?_
    refine a4 (v := int n) rfl T.a6 rfl (b7 m0 rfl) (jB rfl ⟨_, Tryz.underlying105, rfl⟩ rfl (R6 rfl ?_))
    repeat (first | refine D1 ?_ | refine I1 ?_)
    exact O4 () rfl rfl (by first | exact C7 (by omega) | exact C7 (.inl (by rw [show t = [] by assumption]; rfl)) | exact W9 (by first | omega | exact List.length_pos_iff.2 (by assumption)) (by omega) (by assumption) | exact H5 (fun h => by have h9 := X1.2 h; simp_all)) (.refl _) trivial
   have hb1' := hb1; try simp at hb1'
   have hd : t.all isDig = true := X1.1 (by simpa using hb1); refine c3 (b6 (a9 (a5 rfl ?_))); refine d6 F.dE rfl rfl (sT t ⟨(by first | omega | exact List.length_pos_iff.2 (by assumption)), by omega⟩ hd) (hpR := [_]) (.refl _) trivial fun _ _ => ?_; refine a5 rfl (k4 rfl rfl rfl (k4 rfl rfl rfl (a8 rfl (a8 rfl (k9 (a5 rfl (a8 rfl (b3 ?_)))))))); refine b6 (i6 (hq_E ?_)); exact ret1 (numV t) rfl rfl rfl (lP (by first | omega | exact List.length_pos_iff.2 (by assumption)) (by omega) (by first | (intro _; assumption) | (intro h; exact absurd h (by omega))) hd) (.refl _) trivial
  intro hg2; have hg2' := hg2; try simp at hg2'
  refine k5 rfl rfl rfl rfl rfl hg2 (k5 rfl rfl rfl rfl rfl hg2 (k5 rfl rfl rfl rfl rfl hg2 (k5 rfl rfl rfl rfl rfl hg2 (L4 rfl rfl rfl rfl rfl rfl (L4 rfl rfl rfl rfl rfl rfl (L4 rfl rfl rfl rfl rfl rfl (k5 rfl rfl rfl rfl rfl hg2 ?_))))))); refine p_t rfl rfl (bt2 hg2) rfl ?_; refine a5 rfl (k5 rfl rfl rfl rfl rfl rfl (k5 rfl rfl rfl rfl rfl rfl (k5 rfl rfl rfl rfl rfl rfl (p_t rfl rfl rfl rfl (a7 (c_t rfl rfl (c6 (a5 rfl (i5 rfl rfl ?_)))))))))
  first | refine a3 ⟨_, 1, none⟩ rfl rfl T.k8 rfl ?_ | refine a3 _ rfl rfl T.k8 rfl ?_
  refine a4 (v := int n) rfl T.a6 rfl (b7 m0 rfl) (jB rfl ⟨_, Tryz.underlying105, rfl⟩ rfl (R6 rfl ?_))
  repeat (first | refine D1 ?_ | refine I1 ?_)
  exact O4 () rfl rfl (by first | exact C7 (by omega) | exact C7 (.inl (by rw [show t = [] by assumption]; rfl)) | exact W9 (by first | omega | exact List.length_pos_iff.2 (by assumption)) (by omega) (by assumption) | exact H5 (fun h => by have h9 := X1.2 h; simp_all)) (.refl _) trivial
 intro hg1; have hg1' := hg1; try simp at hg1'
 refine k5 rfl rfl rfl rfl rfl hg1 (k5 rfl rfl rfl rfl rfl hg1 (k5 rfl rfl rfl rfl rfl hg1 ?_)); refine p_t rfl rfl (bt2 hg1) rfl ?_; refine a5 rfl (k5 rfl rfl rfl rfl rfl rfl (k5 rfl rfl rfl rfl rfl rfl (k5 rfl rfl rfl rfl rfl rfl (k5 rfl rfl rfl rfl rfl rfl (L4 rfl rfl rfl rfl rfl rfl (L4 rfl rfl rfl rfl rfl rfl (L4 rfl rfl rfl rfl rfl rfl (k5 rfl rfl rfl rfl rfl rfl (p_t rfl rfl rfl rfl (a5 rfl (k5 rfl rfl rfl rfl rfl rfl ?_))))))))))); refine k5 rfl rfl rfl rfl rfl rfl (k5 rfl rfl rfl rfl rfl rfl (p_t rfl rfl rfl rfl (a7 (c_t rfl rfl (c6 (a5 rfl (i5 rfl rfl ?_)))))))
 first | refine a3 ⟨_, 1, none⟩ rfl rfl T.k8 rfl ?_ | refine a3 _ rfl rfl T.k8 rfl ?_
 refine a4 (v := int n) rfl T.a6 rfl (b7 m0 rfl) (jB rfl ⟨_, Tryz.underlying105, rfl⟩ rfl (R6 rfl ?_))
 repeat (first | refine D1 ?_ | refine I1 ?_)
 exact O4 () rfl rfl (by first | exact C7 (by omega) | exact C7 (.inl (by rw [show t = [] by assumption]; rfl)) | exact W9 (by first | omega | exact List.length_pos_iff.2 (by assumption)) (by omega) (by assumption) | exact H5 (fun h => by have h9 := X1.2 h; simp_all)) (.refl _) trivial
end Go.Proofs.YtegfgegnhjkcfaaGreatDoor
end
section
namespace Go.Proofs.YtegfgegnhjkcfaaGreatDoor
open Go Go.W
set_option maxRecDepth 20000
attribute [local irreducible] HL HC HQ HB Row Rows2 Blk Facts
theorem k4_bd (c : UInt8) : -1 ≤ Lib.indexByte K4 c ∧ Lib.indexByte K4 c ≤ 3 := by
  rcases W5 c K4 with ⟨h, _⟩ | ⟨i, h, h2, _⟩
  · omega
  have e : K4.length = 4 := rfl
  omega
theorem bz0 {α : Type} (a b : α) (l : List α) : (a :: l).Sublist (a :: b :: l) := (List.sublist_cons_self _ _).cons_cons _
theorem bx9 {α : Type} (a b : α) (l : List α) : (a :: l).Sublist (a :: (l ++ [b])) := (List.sublist_append_left _ _).cons_cons _
abbrev mkO (g : Nat) (m : Mk) : Nat × Obj := (g, Obj.cells #[int m.1, int m.2.1, str m.2.2] T.cB (0, 0))
theorem bJ (g : Nat) (x : Str) (n : Int) (o : OutC) (ms : List Mk) (og : Hp) (s : Str) (hs : s.length ≤ 1000000) (hG : GrowM o ms og) (hl : ms.length ≤ 1000) (hn : 0 ≤ n ∧ n ≤ 1000) : MeetsE Tryz.prog F.N9 [.pointer (j4 g), str s] { hpI := rdH g x n o ms og, inv := fun y : Mk × OutC × Hp => markS s = some y.1 ∧ GrowM y.2.1 (ms ++ [y.1]) y.2.2, val := fun _ => .tuple #[], hpO := fun y => rdH g x (n + 1) y.2.1 (ms ++ [y.1]) y.2.2 } { inv := fun _ : Unit => markS s = none, val := fun _ => wrongV n, hpO := fun _ => rdH g x n o ms og } := by
 refine cX F.iO rfl l5 fun w0 => ?_; refine b5 (a9 (a5 rfl (aG rfl rfl rfl (a7 ?_))))
 first | refine i8 rfl (fun hb1 => ?_) (fun hb1 => ?_) | refine b9 rfl (fun hb1 => ?_) (fun hb1 => ?_)
 ·have hb1' := hb1; try simp at hb1'
  refine c6 (a5 rfl (i5 rfl rfl ?_))
  first | refine a3 ⟨_, 0, none⟩ rfl rfl T.l8 rfl ?_ | refine a3 _ rfl rfl T.l8 rfl ?_
  first | refine a3 ⟨_, 1, none⟩ rfl rfl T.k8 rfl ?_ | refine a3 _ rfl rfl T.k8 rfl ?_
  refine a4 (v := int n) rfl T.a6 rfl (b7 mB rfl) (jB rfl ⟨_, Tryz.underlying105, rfl⟩ rfl (R6 rfl ?_))
  repeat (first | refine D1 ?_ | refine I1 ?_)
  exact O4 () rfl rfl (by rw [show s = [] by simpa using hb1]; rfl) (.refl _) trivial
 have hb1' := hb1; try simp at hb1'
 have hs0 : s ≠ [] := by simpa using hb1
 obtain ⟨c, r, rfl⟩ : ∃ c r, s = c :: r := by cases s with | nil => exact absurd rfl hs0 | cons c r => exact ⟨c, r, rfl⟩
 have hI := bA K4 c; have hkb := k4_bd c; obtain ⟨k, hk⟩ : ∃ k, Lib.indexByte K4 c = k := ⟨_, rfl⟩; rw [hk] at hI hkb; have hM : markS (c :: r) = markK k r := by rw [markS, hk]
 have hr : r.length ≤ 1000000 := by simp at hs; omega
 obtain ⟨p, q, bo, hcut⟩ : ∃ p q bo, cutB 32 r = (p, q, bo) := ⟨_, _, _, rfl⟩; have hC := Z3 r 32 hr; rw [hcut] at hC; unfold markK at hM; rw [hcut] at hM; simp only at hM hC
 have hpl : p.length ≤ 1000000 := by
   rcases W5 32 r with ⟨_, h2, _⟩ | ⟨i, _, h1, h2, _⟩
   · rw [hcut] at h2; cases h2; exact hr
   rw [hcut] at h2; cases h2; rw [List.length_take]; omega
 refine c3 (b6 (a9 (a5 rfl ?_))); refine q7 0 rfl T.i2 rfl rfl rfl rfl ?_; refine d6 F.dQ rfl rfl (hI) (hpR := rdH g x n o ms og) (.refl _) trivial fun _ _ => ?_; refine t4 _ rfl rfl (fun _ => T.tX ..) ?_; refine r9 rfl (fun _ => T.u1 _) fun gm => ?_; refine n1 (cs := #[int k, int 0, str []]) rfl rfl (.refl _) T.c7 (by rfl) (by rfl) ?_; refine k9 (a5 rfl ?_); refine B3 1 rfl T.i2 rfl rfl rfl (by simp) ?_; refine d6 F.dT rfl rfl (hC) (hpR := mkO gm (k, 0, []) :: rdH g x n o ms og) (.refl _) trivial fun _ _ => ?_; refine a5 rfl (k4 rfl rfl rfl (k4 rfl rfl rfl (k4 rfl rfl rfl (a8 rfl (a8 rfl (a8 rfl (a7 (b5 (a9 ?_)))))))))
 first | refine a3 ⟨_, 0, none⟩ rfl rfl T.d9 rfl ?_ | refine a3 _ rfl rfl T.d9 rfl ?_
 refine a4 (v := int k) rfl T.a6 rfl (b7 mB rfl) ?_; refine r6 rfl rfl rfl (a5 rfl ?_); refine l3 rfl rfl ?_ ?_
 ·intro hg1; have hg1' := hg1; try simp at hg1'
  refine c9 rfl rfl hg1 (a5 rfl (c9 rfl rfl hg1 ?_))
  first | refine a3 ⟨_, 0, none⟩ rfl rfl T.d9 rfl ?_ | refine a3 _ rfl rfl T.d9 rfl ?_
  refine c9 rfl rfl hg1 (a4 (v := int k) rfl T.a6 rfl (b7 mB rfl) ?_); refine c9 rfl rfl hg1 (u9 rfl rfl rfl (c9 rfl rfl hg1 (r_bneq rfl T.u_bool rfl rfl ?_))); refine p_f rfl rfl (bf1 hg1) rfl ?_; refine a7 ?_
  first | refine i8 rfl (fun hb2 => ?_) (fun hb2 => ?_) | refine b9 rfl (fun hb2 => ?_) (fun hb2 => ?_)
  ·have hb2' := hb2; try simp at hb2'
   refine c6 (a5 rfl (i5 rfl rfl ?_))
   first | refine a3 ⟨_, 0, none⟩ rfl rfl T.l8 rfl ?_ | refine a3 _ rfl rfl T.l8 rfl ?_
   first | refine a3 ⟨_, 1, none⟩ rfl rfl T.k8 rfl ?_ | refine a3 _ rfl rfl T.k8 rfl ?_
   refine a4 (v := int n) rfl T.a6 rfl (b7 mB rfl) (jB rfl ⟨_, Tryz.underlying105, rfl⟩ rfl (R6 rfl ?_))
   repeat (first | refine D1 ?_ | refine I1 ?_)
   exact O4 () rfl rfl (by rw [hM]; first | exact if_pos (.inl (by omega)) | exact if_pos (.inr (by simp_all))) (List.sublist_cons_self _ _) trivial
  have hb2' := hb2; try simp at hb2'
  have hk1 : ¬ k < 1 := by omega
  have hbo : bo = decide (¬ k = 3) := by simpa using hb2
  rw [if_neg (by simp only [not_or, Decidable.not_not]; exact ⟨hk1, hbo⟩)] at hM; refine c3 (b6 (a9 (a5 rfl (i5 rfl rfl ?_))))
  first | refine a3 ⟨_, 0, none⟩ rfl rfl T.l8 rfl ?_ | refine a3 _ rfl rfl T.l8 rfl ?_
  refine a5 rfl ?_
  refine mH F.gF rfl rfl (bI g x n (rdV o ms) p hpl) (hpR := mkO gm (k, 0, []) :: og) (.swap _ _ _) trivial (fun y hy => by
    repeat (first | refine D1 ?_ | refine I1 ?_)
    exact O4 () rfl rfl (by rw [hM, hy]) (bz0 _ _ _) trivial) ?_
  refine fun z hz => ?_; rw [hz] at hM; simp only at hM; refine a5 rfl ?_
  first | refine a3 ⟨_, 1, none⟩ rfl rfl T.d8 rfl ?_ | refine a3 _ rfl rfl T.d8 rfl ?_
  refine n7 (hp' := rdO g x n (rdV o ms) :: og) rfl rfl (.swap _ _ _) T.D8 (by rfl) (by rfl) ?_
  first | refine a3 ⟨_, 2, none⟩ rfl rfl T.k6 rfl ?_ | refine a3 _ rfl rfl T.k6 rfl ?_
  refine n7 rfl rfl (.refl _) T.v8 (by rfl) (by rfl) ?_; refine a7 (b5 (a9 ?_)); refine w7 rfl T.j2 T.c7 rfl (cs := #[int k, int z, str q]) m0 (by rfl) ?_; refine d6 F.G4 rfl rfl (C1 (k, z, q)) (hpR := mkO gm (k, z, q) :: rdH g x n o ms og) (.refl _) trivial fun _ _ => ?_; refine u9 rfl rfl rfl (a7 ?_)
  first | refine i8 rfl (fun hb3 => ?_) (fun hb3 => ?_) | refine b9 rfl (fun hb3 => ?_) (fun hb3 => ?_)
  ·have hb3' := hb3; try simp at hb3'
   refine c6 (a5 rfl (i5 rfl rfl ?_))
   first | refine a3 ⟨_, 0, none⟩ rfl rfl T.l8 rfl ?_ | refine a3 _ rfl rfl T.l8 rfl ?_
   first | refine a3 ⟨_, 1, none⟩ rfl rfl T.k8 rfl ?_ | refine a3 _ rfl rfl T.k8 rfl ?_
   refine a4 (v := int n) rfl T.a6 rfl (b7 mB rfl) (jB rfl ⟨_, Tryz.underlying105, rfl⟩ rfl (R6 rfl ?_))
   repeat (first | refine D1 ?_ | refine I1 ?_)
   exact O4 () rfl rfl (by rw [hM, if_neg hb3]) (List.sublist_cons_self _ _) trivial
  have hb3' := hb3; try simp at hb3'
  have hb4 : textErr (k, z, q) = 0 := by omega
  rw [if_pos hb4] at hM; refine c3 (b6 (b5 ?_)); refine J2 (og) ([mkO gm (k, z, q), rdO g x n (rdV o ms)]) (List.perm_append_comm (l₁ := [_, _])) 8 [7] mixed (by decide) (by decide) (by decide) rfl rfl rfl (j5 (fun w1 => a5 rfl (q_z rfl)) (j5 (fun w1 => a5 rfl (q_z rfl)) (j5 (fun w1 => i5 rfl rfl (q_z rfl)) ?_)))
  apply k7 _ rfl rfl rfl
  ·intro w1
   first | refine a3 ⟨_, 2, none⟩ rfl rfl T.v7 rfl ?_ | refine a3 _ rfl rfl T.v7 rfl ?_
   refine b3 ?_; exact i3 rfl
  apply k7 _ rfl rfl rfl
  ·intro w1
   first | refine a4 rfl T.d7 rfl (c8 mB rfl) ?_ | refine a4 rfl T.d7 rfl (b7 mB rfl) ?_ | refine a4 rfl T.d7 rfl (c5 mB (b4 (by omega) rfl)) ?_ | refine a4 rfl T.d7 rfl (b8 mB (rows_get (by omega) rfl)) ?_
   refine b3 ?_; exact i3 rfl
  apply k7 _ rfl rfl rfl
  ·intro w1
   first | refine w7 rfl T.j2 T.c7 rfl mB (by rfl) ?_ | refine z2 rfl T.j2 T.c7 rfl mB (by rfl) ?_ | refine r8 rfl T.j2 T.c7 rfl rfl (n3 mB (q8 (by omega))) ?_
   refine b3 ?_; exact i3 rfl
  refine aA ⟨Nat, fun _ => True, fun g1 => .slice (j4 g1) 1 1, fun g1 => [Row (j4 g1) (rows [(k, z, q)])]⟩ rfl rfl rfl ?_ ?_
  ·intro w1; refine j8 _ rfl rfl (fun _ => T.A6 ..) fun gS => ?_; refine b3 ?_; refine D5 (rows [(k, z, q)]) (List.prefix_refl _) ?_; exact I0 gS trivial rfl ⟨m0, trivial⟩
  refine hH ⟨OutC × Hp, fun x => Grow T.cB 3 x.1.1 (ms.length + 1) x.1.2 (rows (ms ++ [(k, z, q)])) x.2, fun x => .slice x.1.1 (ms.length + 1) x.1.2, fun _ => [], fun x => x.2⟩ rfl rfl rfl ?_ ?_
  ·intro g1 _; intro w1; refine w9 (ms.length + 1) (rows (ms ++ [(k, z, q)])) T.E1 rfl rfl rfl hG (hp' := []) (by rw [List.append_nil]) (Src.row (news := rows [(k, z, q)]) (m := 1) m0 rfl (I7 _) (by decide)) rfl (t3 ms [(k, z, q)]).symm (by unfold maxLen; omega) (by omega) fun A' c' og' hG' => ?_; refine b3 ?_; exact L5 ((A', c'), og') hG' (fun _ => rfl) (List.sublist_append_left _ _) trivial
  refine v6 ⟨rfl, ?_⟩; intro g1 _ y hy; refine i5 rfl rfl ?_
  first | refine a3 ⟨_, 2, none⟩ rfl rfl T.v7 rfl ?_ | refine a3 _ rfl rfl T.v7 rfl ?_
  refine n7 rfl rfl (jY _ _ _) T.R4 (by rfl) (by rfl) ?_; refine a7 (c6 (a5 rfl (i5 rfl rfl ?_)))
  first | refine a3 ⟨_, 0, none⟩ rfl rfl T.l8 rfl ?_ | refine a3 _ rfl rfl T.l8 rfl ?_
  first | refine a3 ⟨_, 1, none⟩ rfl rfl T.k8 rfl ?_ | refine a3 _ rfl rfl T.k8 rfl ?_
  refine a4 (v := int n) rfl T.a6 rfl (b7 mB rfl) (p7 (n + 1) rfl rfl rfl rfl l9 (i5 rfl rfl ?_))
  first | refine a3 ⟨_, 0, none⟩ rfl rfl T.l8 rfl ?_ | refine a3 _ rfl rfl T.l8 rfl ?_
  first | refine a3 ⟨_, 1, none⟩ rfl rfl T.k8 rfl ?_ | refine a3 _ rfl rfl T.k8 rfl ?_
  refine n7 rfl rfl (.refl _) T.D8 (by rfl) (by rfl) ?_; refine b3 (hq_En ?_); exact ret0n ((k, z, q), y.1, y.2) rfl rfl rfl ⟨hM, by unfold GrowM; rw [n8]; exact hy⟩ (by show List.Sublist ((g, Obj.cells #[str x, int (n + 1), .slice y.1.1 (ms ++ [(k, z, q)]).length y.1.2] T.lB (0, 0)) :: y.2) _; rw [n8]; exact bx9 _ _ _) trivial
 intro hg1; have hg1' := hg1; try simp at hg1'
 refine k5 rfl rfl rfl rfl rfl hg1 (k5 rfl rfl rfl rfl rfl hg1 (k5 rfl rfl rfl rfl rfl hg1 (k5 rfl rfl rfl rfl rfl hg1 (k5 rfl rfl rfl rfl rfl hg1 ?_)))); refine p_t rfl rfl (bt2 hg1) rfl ?_; refine a7 (c_t rfl rfl (c6 (a5 rfl (i5 rfl rfl ?_))))
 first | refine a3 ⟨_, 0, none⟩ rfl rfl T.l8 rfl ?_ | refine a3 _ rfl rfl T.l8 rfl ?_
 first | refine a3 ⟨_, 1, none⟩ rfl rfl T.k8 rfl ?_ | refine a3 _ rfl rfl T.k8 rfl ?_
 refine a4 (v := int n) rfl T.a6 rfl (b7 mB rfl) (jB rfl ⟨_, Tryz.underlying105, rfl⟩ rfl (R6 rfl ?_))
 repeat (first | refine D1 ?_ | refine I1 ?_)
 exact O4 () rfl rfl (by rw [hM]; first | exact if_pos (.inl (by omega)) | exact if_pos (.inr (by simp_all))) (List.sublist_cons_self _ _) trivial
theorem nX (ga gb : Nat) (n a : Int) (b : Bool) : MeetsR Tryz.prog F.G5 [.pointer (j4 ga), .pointer (j4 gb)] (.panicking [{ v := wrongV n, recovered := false }]) (.panicking [{ v := wrongV n, recovered := true }]) { hpI := [(ga, Obj.cells #[int a] T.int (0, 0)), (gb, Obj.cells #[.bool b] T.bool (0, 0))], val := fun _ : Unit => .tuple #[], hpO := fun _ => [(ga, Obj.cells #[int n] T.int (0, 0)), (gb, Obj.cells #[.bool false] T.bool (0, 0))] } := by
 refine lT (aq3 _) F.S4 rfl l5 rfl rfl (fun _ _ => rfl) fun w0 => ?_; refine a9 (a5 rfl ?_); refine D2 (.bool true) rfl rfl rfl (fun _ => by kernel_rfl) (fun _ => by kernel_rfl) ?_; refine a7 ?_; refine c_t rfl (by first | rfl | assumption | exact bt1 (by assumption) | exact bt2 (by assumption)) ?_; refine a9 (a5 rfl ?_); refine aq7 rfl ⟨_, Tryz.underlying105, rfl⟩ rfl ?_; refine a5 rfl (k4 rfl rfl rfl (k4 rfl rfl rfl (a8 rfl (a8 rfl (a7 (b5 (a9 (a5 rfl (bH rfl rfl ?_))))))))); refine a7 ?_; refine c_f rfl (by first | rfl | assumption | exact bf1 (by assumption) | exact bf2 (by assumption)) ?_; refine c3 (b6 (c6 (a5 rfl ?_))); refine n7 rfl rfl (.refl _) T.D8 (by rfl) (by rfl) (n7 rfl rfl (.swap _ _ _) T.kU (by rfl) (by rfl) ?_); refine b3 ?_; refine iD (.swap _ _ _) ?_; exact ret0n () rfl rfl rfl trivial (.refl _) trivial
theorem cx6 (ga gb : Nat) (a : Int) (b : Bool) : MeetsR Tryz.prog F.G5 [.pointer (j4 ga), .pointer (j4 gb)] .returning .returning { hpI := [(ga, Obj.cells #[int a] T.int (0, 0)), (gb, Obj.cells #[.bool b] T.bool (0, 0))], val := fun _ : Unit => .tuple #[], hpO := fun _ => [(ga, Obj.cells #[int a] T.int (0, 0)), (gb, Obj.cells #[.bool b] T.bool (0, 0))] } := by
 refine lT bq9 F.S4 rfl l5 rfl rfl (fun _ _ => rfl) fun w0 => ?_; refine a9 (a5 rfl ?_); refine D2 (.bool false) rfl rfl rfl (fun _ => by kernel_rfl) (fun _ => by kernel_rfl) ?_; refine a7 ?_; refine c_f rfl (by first | rfl | assumption | exact bf1 (by assumption) | exact bf2 (by assumption)) ?_; refine c3 ?_; exact ret0n () rfl rfl rfl trivial (.refl _) trivial
def readR (x : Str) : List Mk × Bool := readF x.length x []
structure AllI (x : Str) (n : Nat) (p : Str × Str × Bool) (ms : List Mk) (o : OutC) (og : Hp) : Prop where
  c : contR n p ms = readR x
  l : p.2.1.length ≤ n
  m : ms.length + n + (if p.2.2 = true then 1 else 0) ≤ x.length
  g : GrowM o ms og
  s : p.1.length ≤ 1000000
theorem aj2 {b : UInt8} {x p q : Str} {t : Bool} (h : cutB b x = (p, q, t)) : p.length ≤ x.length ∧ q.length ≤ x.length := by
  rcases W5 b x with ⟨_, h2, _⟩ | ⟨i, _, h1, h2, _⟩
  · rw [h] at h2; cases h2; exact ⟨Nat.le_refl _, Nat.zero_le _⟩
  rw [h] at h2; cases h2; rw [List.length_take, List.length_drop]; omega
theorem bj0 {x : Str} {p : Str × Str × Bool} (hx : x.length ≤ 1000) (hp : (x = [] ∧ p = ([], [], false)) ∨ (x ≠ [] ∧ cutB 47 x = (p.1, p.2.1, true) ∧ p.2.2 = true)) : AllI x (x.length - 1) p [] (none, 0) [] := by
  rcases hp with ⟨rfl, rfl⟩ | ⟨h2, h3, h4⟩
  · exact ⟨rfl, by simp, by simp, Grow.nil _ _, by simp⟩
  obtain ⟨e1, e2, e3⟩ := cO (ms := []) h2 (Nat.le_refl _) h3; obtain ⟨p1, p2, p3⟩ := p; simp only at h3 h4 e1 e2; subst h4; have := aj2 h3; exact ⟨e1.symm, e2, by simp; omega, Grow.nil _ _, by simp only; omega⟩
theorem cx5 {x : Str} {n : Nat} {ms : List Mk} {m : Mk} {o : OutC} {og : Hp} {y : Str} {p : Str × Str × Bool} (h : readF n y (ms ++ [m]) = readR x) (hl : y.length ≤ n) (hm : ms.length + n + 1 ≤ x.length) (hg : GrowM o (ms ++ [m]) og) (hx : x.length ≤ 1000)
    (hp : (y = [] ∧ p = ([], [], false)) ∨ (y ≠ [] ∧ cutB 47 y = (p.1, p.2.1, true) ∧ p.2.2 = true)) : AllI x (n - 1) p (ms ++ [m]) o og := by
  rcases hp with ⟨rfl, rfl⟩ | ⟨h2, h3, h4⟩
  · rw [uG] at h
    exact ⟨by rw [contR, if_neg (by simp)]; exact h, by simp, by rw [n8]; simp; omega, hg, by simp⟩
  obtain ⟨e1, e2, e3⟩ := cO (ms := ms ++ [m]) h2 hl h3; obtain ⟨p1, p2, p3⟩ := p; simp only at h3 h4 e1 e2; subst h4; have := aj2 h3; exact ⟨e1.symm.trans h, e2, by rw [n8]; simp; omega, hg, by simp only; omega⟩
theorem all_mu {n : Nat} {y : Str} {p q : Str × Str × Bool} (h : q.2.2 = true) (hp : (y = [] ∧ p = ([], [], false)) ∨ (y ≠ [] ∧ cutB 47 y = (p.1, p.2.1, true) ∧ p.2.2 = true)) (hn : y = [] ∨ 1 ≤ n) : (if p.2.2 = true then (n - 1) + 1 else 0) < (if q.2.2 = true then n + 1 else 0) := by
  rw [if_pos h]
  rcases hp with ⟨_, rfl⟩ | ⟨h2, _, h3⟩
  · simp
  rw [if_pos h3]; have := hn.resolve_left h2
  omega
abbrev AllZ := Nat × (Str × Str × Bool) × List Mk × OutC × Hp
theorem rP {α : Type} (a b : α) (l : List α) : (l ++ [b, a]).Perm ([a, b] ++ l) := (List.perm_append_comm (l₁ := l) (l₂ := [b, a])).trans (.swap _ _ _)
theorem zH {n : Nat} {p : Str × Str × Bool} {ms : List Mk} (h : p.2.2 = true) (h2 : markS p.1 = none) : contR n p ms = (ms, false) := by rw [contR, if_pos h, h2]
theorem zG {n : Nat} {p : Str × Str × Bool} {ms : List Mk} {m : Mk} (h : p.2.2 = true) (h2 : markS p.1 = some m) : contR n p ms = readF n p.2.1 (ms ++ [m]) := by rw [contR, if_pos h, h2]
theorem az4 {n : Nat} {p : Str × Str × Bool} {ms : List Mk} (h : p.2.2 = false) : contR n p ms = (ms, true) := by rw [contR, if_neg (by rw [h]; simp)]
theorem cR (g : Nat) (x : Str) (hx : x.length ≤ 1000) : Meets Tryz.prog F.Q2 [.pointer (j4 g)] { hpI := rdH g x 0 (none, 0) [] [], inv := fun y : Str × Int × OutC × Hp => GrowM y.2.2.1 (readR x).1 y.2.2.2, val := fun _ => .tuple #[int (if (readR x).2 = true then 0 else ((readR x).1.length : Int)), .bool (readR x).2], hpO := fun y => rdH g y.1 y.2.1 y.2.2.1 (readR x).1 y.2.2.2 } := by
 obtain ⟨R, hR⟩ : ∃ R, readR x = R := ⟨_, rfl⟩; rw [hR]; refine vO F.jQ rfl l5 fun w0 => ?_; refine a9 ?_; refine r9 rfl (fun _ => T.al_int _) fun ga => ?_; refine r9 rfl (fun _ => T.al_bool _) fun gb => ?_; refine k9 (cQ rfl rfl rfl ?_); refine r_defer (cap := [.pointer (j4 ga), .pointer (j4 gb)]) rfl ?_; refine a7 (b5 (a9 (a5 rfl (i5 rfl rfl ?_))))
 first | refine a3 ⟨_, 0, none⟩ rfl rfl T.l8 rfl ?_ | refine a3 _ rfl rfl T.l8 rfl ?_
 refine mH F.Y0 rfl rfl (P7 g x 0 (rdV (none, 0) []) (by omega)) (hpR := [(gb, Obj.cells #[.bool false] T.bool (0, 0)), (ga, Obj.cells #[int 0] T.int (0, 0))]) (List.perm_append_comm (l₁ := [_, _])) trivial (fun _ hy => by
   obtain rfl : R = (([] : List Mk), false) := hR.symm.trans (mV hy.1 (Nat.le_refl _) hy.2)
   repeat (first | refine D1 ?_ | refine I1 ?_)
   refine qK (nX ga gb ((([] : List Mk)).length : Int) 0 false) (.inr (.inr ⟨_, rfl, rfl⟩)) F.C2 (.inr ⟨_, rfl⟩) rfl (hpR := rdH g (x) ((([] : List Mk)).length : Int) ((none, 0)) (([] : List Mk)) ([])) (rP (ga, Obj.cells #[int 0] T.int (0, 0)) (gb, Obj.cells #[.bool false] T.bool (0, 0)) (rdH g (x) ((([] : List Mk)).length : Int) ((none, 0)) (([] : List Mk)) ([]))) trivial fun _ _ => ?_
   exact V9 (x, ((([] : List Mk)).length : Int), (none, 0), []) (fun a w ha hw => D9 (v1 := int ((([] : List Mk)).length : Int)) (v2 := .bool false) rfl rfl rfl T.a6 T.cA (b7 mB rfl) (b7 mB rfl) a w ha.sz ha.at_ hw) rfl (Grow.nil _ _) (List.sublist_append_right _ _) trivial) ?_
 refine fun p0 hp0 => ?_; have hI0 := bj0 hx hp0; refine a5 rfl (k4 rfl rfl rfl (k4 rfl rfl rfl (a8 rfl (a8 rfl (a7 (j0 ?_)))))); refine s9 (β := AllZ) ⟨fun z => AllI x z.1 z.2.1 z.2.2.1 z.2.2.2.1 z.2.2.2.2, fun z => [(0, .pointer (j4 g)), (2, .pointer (j4 ga)), (3, .pointer (j4 gb)), (4, str z.2.1.1), (5, .bool z.2.1.2.2)], fun z => rdH g z.2.1.2.1 z.2.2.1.length z.2.2.2.1 z.2.2.1 z.2.2.2.2 ++ [(gb, Obj.cells #[.bool false] T.bool (0, 0)), (ga, Obj.cells #[int 0] T.int (0, 0))], fun _ => []⟩ (fun z => if z.2.1.2.2 = true then z.1 + 1 else 0) (x.length - 1, p0, [], (none, 0), []) hI0 mC (.refl _) trivial fun z hz => ?_; obtain ⟨n, p, ms, o, og⟩ := z; have hc := hz.c; have hl1 := hz.l; have hm1 := hz.m; have hG := hz.g; have hs1 := hz.s; rw [hR] at hc; simp only at hc hl1 hm1 hG hs1; refine b5 (a9 (a5 rfl (a7 ?_)))
 first | refine i8 rfl (fun hb1 => ?_) (fun hb1 => ?_) | refine b9 rfl (fun hb1 => ?_) (fun hb1 => ?_)
 ·have hb1' := hb1; try simp at hb1'
  have hmore : p.2.2 = true := hb1; rw [if_pos hmore] at hm1; refine c3 (b6 (b5 (j0 (c6 (a5 rfl (a5 rfl ?_))))))
  refine mH F.gG rfl rfl (bJ g p.2.1 (ms.length : Int) o ms og p.1 hs1 hG (by omega) (by omega)) (hpR := [(gb, Obj.cells #[.bool false] T.bool (0, 0)), (ga, Obj.cells #[int 0] T.int (0, 0))]) (.refl _) trivial (fun _ hy => by
    obtain rfl : R = (ms, false) := hc.symm.trans (zH hmore hy)
    repeat (first | refine D1 ?_ | refine I1 ?_)
    refine qK (nX ga gb ((ms).length : Int) 0 false) (.inr (.inr ⟨_, rfl, rfl⟩)) F.C2 (.inr ⟨_, rfl⟩) rfl (hpR := rdH g (p.2.1) ((ms).length : Int) (o) (ms) (og)) (rP (ga, Obj.cells #[int 0] T.int (0, 0)) (gb, Obj.cells #[.bool false] T.bool (0, 0)) (rdH g (p.2.1) ((ms).length : Int) (o) (ms) (og))) trivial fun _ _ => ?_
    exact V9 (p.2.1, ((ms).length : Int), o, og) (fun a w ha hw => D9 (v1 := int ((ms).length : Int)) (v2 := .bool false) rfl rfl rfl T.a6 T.cA (b7 mB rfl) (b7 mB rfl) a w ha.sz ha.at_ hw) rfl hG (List.sublist_append_right _ _) trivial) ?_
  refine fun y hy => ?_; obtain ⟨m, o', og'⟩ := y; obtain ⟨hm, hG'⟩ := hy; simp only at hm hG'; rw [zG hmore hm] at hc; refine mG (hp' := rdH g p.2.1 ((ms ++ [m]).length : Int) o' (ms ++ [m]) og' ++ [(gb, Obj.cells #[.bool false] T.bool (0, 0)), (ga, Obj.cells #[int 0] T.int (0, 0))]) (by show (rdH g p.2.1 ((ms.length : Int) + 1) o' (ms ++ [m]) og' ++ _) = _; rw [show ((ms ++ [m]).length : Int) = (ms.length : Int) + 1 by rw [n8]; rfl]) ?_; refine b3 (q9 (b6 (c6 (a5 rfl (i5 rfl rfl ?_)))))
  first | refine a3 ⟨_, 0, none⟩ rfl rfl T.l8 rfl ?_ | refine a3 _ rfl rfl T.l8 rfl ?_
  refine mH F.Y0 rfl rfl (P7 g p.2.1 ((ms ++ [m]).length : Int) (rdV o' (ms ++ [m])) (by omega)) (hpR := og' ++ [(gb, Obj.cells #[.bool false] T.bool (0, 0)), (ga, Obj.cells #[int 0] T.int (0, 0))]) (.refl _) trivial (fun _ hy => by
    obtain rfl : R = ((ms ++ [m]), false) := hc.symm.trans (mV hy.1 hl1 hy.2)
    repeat (first | refine D1 ?_ | refine I1 ?_)
    refine qK (nX ga gb (((ms ++ [m])).length : Int) 0 false) (.inr (.inr ⟨_, rfl, rfl⟩)) F.C2 (.inr ⟨_, rfl⟩) rfl (hpR := rdH g (p.2.1) (((ms ++ [m])).length : Int) (o') ((ms ++ [m])) (og')) (rP (ga, Obj.cells #[int 0] T.int (0, 0)) (gb, Obj.cells #[.bool false] T.bool (0, 0)) (rdH g (p.2.1) (((ms ++ [m])).length : Int) (o') ((ms ++ [m])) (og'))) trivial fun _ _ => ?_
    exact V9 (p.2.1, (((ms ++ [m])).length : Int), o', og') (fun a w ha hw => D9 (v1 := int (((ms ++ [m])).length : Int)) (v2 := .bool false) rfl rfl rfl T.a6 T.cA (b7 mB rfl) (b7 mB rfl) a w ha.sz ha.at_ hw) rfl hG' (List.sublist_append_right _ _) trivial) ?_
  refine fun p1 hp1 => ?_; refine a5 rfl (k4 rfl rfl rfl (k4 rfl rfl rfl (a8 rfl (a8 rfl (b3 ?_)))))
  have hn1 : p.2.1 = [] ∨ 1 ≤ n := by
    by_cases h : p.2.1 = []
    · exact .inl h
    have := List.length_pos_iff.2 h; exact .inr (by omega)
  have hI1 : p.2.1.length ≤ n ∧ (p.2.1 = [] ∨ 1 ≤ n) := ⟨hl1, hn1⟩; exact again _ (n - 1, p1, ms ++ [m], o', og') (cx5 (hc.trans hR.symm) hl1 hm1 hG' hx hp1) (all_mu hmore hp1 hn1) mC (.refl _) trivial
 have hb1' := hb1; try simp at hb1'
 have hmore : p.2.2 = false := by simpa using hb1
 rw [az4 hmore] at hc; subst hc; refine n5 (y6 (n4 (b6 (a9 ?_)))); refine n7 rfl rfl (jY _ _ _) T.D8 (by rfl) (by rfl) (n7 rfl rfl (List.perm_append_comm (l₁ := _ :: _) (l₂ := [_])) T.kU (by rfl) (by rfl) ?_); refine a7 (i6 ?_); refine qK (cx6 ga gb 0 true) (.inl ⟨rfl, rfl⟩) F.C2 (.inl rfl) rfl (hpR := rdH g p.2.1 (ms.length : Int) o ms og) (.swap _ _ _) trivial fun _ _ => ?_; exact V9 (p.2.1, (ms.length : Int), o, og) (fun a w ha hw => D9 (v1 := int 0) (v2 := .bool true) rfl rfl rfl T.a6 T.cA (b7 mB rfl) (b7 mB rfl) a w ha.sz ha.at_ hw) rfl hG (List.sublist_append_right _ _) trivial
theorem nC (x : Str) (hx : x.length ≤ 1000000) : Meets Tryz.prog F.Y3 [str x] { val := fun y : OutC => .tuple #[.slice y.1 (readE x).1.length y.2, int (readE x).2.1, int (readE x).2.2], LO := fun y => [Row y.1 (rows (readE x).1)] } := by
 refine c4 F.lJ rfl l5 fun w0 => ?_; refine a9 (a8 rfl (a8 rfl (a8 rfl (a7 (b5 (a9 (a5 rfl ?_))))))); refine l4 rfl T.i2 rfl ?_; refine v9 rfl rfl rfl (a7 ?_)
 first | refine i8 rfl (fun hb1 => ?_) (fun hb1 => ?_) | refine b9 rfl (fun hb1 => ?_) (fun hb1 => ?_)
 ·have hb1' := hb1; try simp at hb1'
  have hE : readE x = ([], 0, 10) := by rw [readE, if_pos (by omega)]
  rw [hE]; refine a9 (a8 rfl (a8 rfl (a8 rfl (a7 (s6 ?_))))); refine A3 (α := Mk) ?_; exact ret3 (none, 0) rfl rfl rfl rfl rfl rfl trivial i1 ⟨m0, trivial⟩
 have hb1' := hb1; try simp at hb1'
 have hx6 : ¬ 160 < x.length := by omega
 refine c3 (b6 (a9 (a5 rfl ?_))); refine t4 _ rfl rfl (fun _ => T.qF ..) (t4 _ rfl rfl (fun _ => T.mN ..) ?_); refine J9 rfl rfl fun gr => ?_; refine a8 rfl (a7 (b5 (a9 (a5 rfl ?_)))); refine d6 F.iP rfl rfl (cR gr x (by omega)) (.refl _) trivial fun y hy => ?_; have hEq : readE x = (if (readR x).2 = false then ([], ((readR x).1.length : Int), 2) else if 12 < (readR x).1.length then ([], 0, 6) else ((readR x).1, 0, 0) : List Mk × Int × Int) := by unfold readE; rw [if_neg hx6]; rfl
 obtain ⟨y1, y2, o, og⟩ := y; simp only at hy; obtain ⟨ms, bo, hR⟩ : ∃ ms bo, readR x = (ms, bo) := ⟨_, _, rfl⟩; have hG : GrowM o ms og := by rw [hR] at hy; exact hy
 have hml : ms.length ≤ 1000 := by have := uH x.length x []; rw [show readF x.length x [] = (ms, bo) from hR] at this; simp at this; omega
 rw [hR] at hEq; simp only at hEq; clear hy; refine mG (hp' := rdH gr y1 y2 o ms og) (by show rdH gr y1 y2 o (readR x).1 og ++ [] = _; rw [hR, List.append_nil]) ?_; refine hl_sub (L' := []) (fr' := [(5, .pointer (j4 gr)), (17, .tuple #[int (if bo = true then 0 else (ms.length : Int)), .bool bo])]) ⟨rfl, by show some (Value.tuple #[int (if (readR x).2 = true then 0 else ((readR x).1.length : Int)), .bool (readR x).2]) = _; rw [hR], trivial⟩ (.refl _) trivial ?_; refine a5 rfl (k4 rfl rfl rfl (k4 rfl rfl rfl (a8 rfl (a8 rfl (k9 (a5 rfl (bH rfl rfl (b3 ?_)))))))); refine b6 ?_
 first | refine i8 rfl (fun hb2 => ?_) (fun hb2 => ?_) | refine b9 rfl (fun hb2 => ?_) (fun hb2 => ?_)
 ·have hb2' := hb2; try simp at hb2'
  have hbo : bo = false := by simpa using hb2
  subst hbo; have hE : readE x = ([], (ms.length : Int), 2) := by rw [hEq, if_pos rfl]
  rw [hE]; refine a9 (a5 rfl (a8 rfl (a8 rfl (a8 rfl (a7 (s6 ?_)))))); refine A3 (α := Mk) ?_; exact ret3 (none, 0) rfl rfl rfl rfl rfl rfl trivial i1 ⟨m0, trivial⟩
 have hb2' := hb2; try simp at hb2'
 have hbo : bo = true := by simpa using hb2
 subst hbo; rw [if_neg (by simp)] at hEq; refine c3 (b6 (b5 (a9 (a5 rfl (i5 rfl rfl ?_)))))
 first | refine a3 ⟨_, 2, none⟩ rfl rfl T.v7 rfl ?_ | refine a3 _ rfl rfl T.v7 rfl ?_
 first | refine a4 rfl T.d7 rfl (b7 mB rfl) ?_ | refine a4 rfl T.d7 rfl (c8 mB rfl) ?_ | refine a4 rfl T.d7 rfl (c5 mB (b4 (by omega) rfl)) ?_ | refine a4 rfl T.d7 rfl (b8 mB (rows_get (by omega) rfl)) ?_
 refine j9 rfl T.j3 rfl ?_; refine v9 rfl rfl rfl (a7 ?_)
 first | refine i8 rfl (fun hb3 => ?_) (fun hb3 => ?_) | refine b9 rfl (fun hb3 => ?_) (fun hb3 => ?_)
 ·have hb3' := hb3; try simp at hb3'
  have hE : readE x = ([], 0, 6) := by rw [hEq, if_pos (by omega)]
  rw [hE]; refine a9 (a8 rfl (a8 rfl (a8 rfl (a7 (s6 ?_))))); refine A3 (α := Mk) ?_; exact ret3 (none, 0) rfl rfl rfl rfl rfl rfl trivial i1 ⟨m0, trivial⟩
 have hb3' := hb3; try simp at hb3'
 have hE : readE x = (ms, 0, 0) := by rw [hEq, if_neg (by omega)]
 rw [hE]; refine c3 (b6 (a9 (a5 rfl (i5 rfl rfl ?_))))
 first | refine a3 ⟨_, 2, none⟩ rfl rfl T.v7 rfl ?_ | refine a3 _ rfl rfl T.v7 rfl ?_
 first | refine a4 rfl T.d7 rfl (b7 mB rfl) ?_ | refine a4 rfl T.d7 rfl (c8 mB rfl) ?_ | refine a4 rfl T.d7 rfl (c5 mB (b4 (by omega) rfl)) ?_ | refine a4 rfl T.d7 rfl (b8 mB (rows_get (by omega) rfl)) ?_
 refine a8 rfl (a8 rfl (a8 rfl (a7 (i6 ?_)))); refine iD (List.perm_append_comm (l₁ := [_])) (mF hG ?_); exact ret3 o rfl rfl rfl rfl rfl rfl trivial i1 ⟨m0, trivial⟩
end Go.Proofs.YtegfgegnhjkcfaaGreatDoor
end
section
namespace Go.W
open Go Go.RowKit
def byteV (s : Str) : List Value := s.map fun b => Value.int .u8 b.toNat
theorem wP (s t : Str) : byteV (s ++ t) = byteV s ++ byteV t := List.map_append
theorem kV (s : Str) : Lib.strCells ⟨s.toArray⟩ = byteV s := by simp [Lib.strCells, byteV]
section
variable {L : List Fact} {hp : Hp}
theorem bj7 {b : Bx} {w w' : World} {g' : Nat} {o : Obj} (hpw : WI b w hp L) (h1 : w'.os = w.os) (h2 : w'.tape = w.tape) (h3 : w'.output = w.output) (h4 : w.heap.size ≤ w'.heap.size) (h5 : w.drawn ≤ w'.drawn) (hge : w.heap.size ≤ g') (hg' : w'.heap[g']? = some o)
    (hkeep : ∀ k, k < w.heap.size → (∃ p ∈ hp, p.1 = k) ∨ (∃ F ∈ L, F.fp k) ∨ (k < b.w0.heap.size ∧ k ∉ b.S0) → w'.heap[k]? = w.heap[k]?) : WI b w' ((g', o) :: hp) L := by
  have hne : ∀ p ∈ hp, p.1 ≠ g' := fun p hp e => by have := C8 (hpw.own p hp); omega
  refine { ext := ⟨h1.trans hpw.ext.os, h2.trans hpw.ext.tape, h3.trans hpw.ext.output, Nat.le_trans hpw.ext.size h4, fun k hk hn => ?_, Nat.le_trans hpw.ext.dr h5⟩, own := ?_, nd := ?_, s0 := ?_, fs := ?_, ap := ?_, al := hpw.al }
  · exact (hkeep k (Nat.lt_of_lt_of_le hk hpw.ext.size) (.inr (.inr ⟨hk, hn⟩))).trans (hpw.ext.block k hk hn)
  · intro p hp
    rcases List.mem_cons.1 hp with rfl | hp
    · exact hg'
    exact (hkeep p.1 (C8 (hpw.own p hp)) (.inl ⟨p, hp, rfl⟩)).trans (hpw.own p hp)
  · simp only [List.map_cons, List.nodup_cons]
    exact ⟨fun hm => by obtain ⟨p, hp, e⟩ := List.mem_map.1 hm; exact hne p hp e, hpw.nd⟩
  · intro p hp
    rcases List.mem_cons.1 hp with rfl | hp
    · right
      show b.w0.heap.size ≤ g'; exact Nat.le_trans hpw.ext.size hge
    exact hpw.s0 p hp
  · intro F hF
    exact F.st w w' (fun k hk => hkeep k (F.lt w (hpw.fs F hF) k hk) (.inr (.inl ⟨F, hF, hk⟩))) (hpw.fs F hF)
  intro F hF p hp hk
  rcases List.mem_cons.1 hp with rfl | hp
  · have := F.lt w (hpw.fs F hF) _ hk
    simp only at this
    omega
  exact hpw.ap F hF p hp hk
structure ElS (P : Program) (t u e : TypeId) : Prop where
  tu : P.underlying t = some (.slice e)
  ts : P.underlying u = some .string
  ti : ∃ i, P.info? e = some i ∧ i.zero = some (.int .u8 0) ∧ i.size = 1 ∧ i.bytes = 1
theorem ElS.of {P : Program} {t u e : TypeId} (h : P.underlying t = some (.slice e)) (hs : P.underlying u = some .string) (hi : (P.info? e).map (fun i => (i.zero, i.size, i.bytes)) = some (some (.int .u8 0), 1, 1)) : ElS P t u e := by
  obtain ⟨i, h1, h2, h3, h4⟩ := info_parts hi; exact ⟨h, hs, ⟨i, h1, h2, h3, h4⟩⟩
theorem qH {b : Bx} {P : Program} {w : World} {t u e : TypeId} {n cap : Nat} {A : Option Addr} {xs : List Value} {og : Hp} (el : ElS P t u e) (hG : Grow e 1 A n cap xs og) (hw : WI b w (og ++ hp) L) (s : Str)
    (hn : n + s.length ≤ maxLen) (hby : n + s.length ≤ 140737488355328) (ty : TypeId) :
    ∃ A' cap' og' w', (Builtin.append_ #[t, u] ty #[.slice A n cap, str s]).run P w = .ok (.slice A' (n + s.length) cap') w' ∧ Grow e 1 A' (n + s.length) cap' (xs ++ byteV s) og' ∧ WI b w' (og' ++ hp) L := by
  obtain ⟨i, hi, hz, hsz, hb⟩ := el.ti; have hsize : (ByteArray.mk s.toArray).size = s.length := rfl; have hxl : xs.length = n := by simpa using hG.1
  rcases hG with ⟨hl, ⟨rfl, rfl, rfl, rfl⟩ | ⟨g, cur, rfl, rfl, q1, q2, q3, q4⟩⟩
  · -- onto nil
    obtain ⟨v', w', hrun, hown, h3, _⟩ := Lib.run_append_own_string (P := P) w w.heap.size t u ty e i el.tu el.ts hi hz hsz hb (.slice none 0 0) 0 xs ⟨hl, .inl ⟨rfl, rfl⟩⟩ ⟨s.toArray⟩ hn hby (Nat.le_refl _); rw [hsize, kV] at hown; obtain ⟨hl', ⟨rfl, h0⟩ | ⟨g', cap', cur', rfl, hge, hg', hle, hcm, hcs, htk⟩⟩ := hown
    · refine ⟨none, 0, [], w', ?_, ⟨hl', .inl ⟨rfl, h0, rfl, rfl⟩⟩, hw.quiet ⟨h3.os, h3.tape, h3.output, h3.size, fun k hk _ => h3.block k hk (by simp [Value.ownBlock]), P9 _ _ _ _ hrun⟩⟩
      rw [h0]; exact hrun
    exact ⟨some ⟨g', 0, none⟩, cap', [(g', .cells cur' e (0, 0))], w', hrun, ⟨hl', .inr ⟨g', cur', rfl, rfl, hle, hcm, hcs, htk⟩⟩, bj7 (by simpa using hw) h3.os h3.tape h3.output h3.size (P9 _ _ _ _ hrun) hge hg' fun k hk _ => h3.block k hk (by simp [Value.ownBlock])⟩
  have hw' : WI b w ((g, .cells cur e (0, 0)) :: hp) L := by simpa using hw
  have hgw : w.heap[g]? = some (.cells cur e (0, 0)) := hw'.own (g, .cells cur e (0, 0)) (by simp); obtain ⟨v', w', hrun, hown, h3, _⟩ := Lib.run_append_own_string (P := P) w 0 t u ty e i el.tu el.ts hi hz hsz hb (.slice (j4 g) n cap) n xs ⟨hl, .inr ⟨g, cap, cur, rfl, Nat.zero_le _, hgw, q1, q2, q3, q4⟩⟩ ⟨s.toArray⟩ hn hby (Nat.zero_le _); rw [hsize, kV] at hown
  by_cases hr : n + s.length ≤ cap
  · have hx := hrun.symm.trans (Lib.run_append_room_string (P := P) w t u ty e i el.tu el.ts hi hsz g n cap cur hgw ⟨s.toArray⟩ hr (by rw [hsize, q3]; omega))
    obtain ⟨rfl, rfl⟩ : v' = _ ∧ w' = _ := by injection hx with e1 e2; exact ⟨e1, e2⟩
    obtain ⟨hl', ⟨h0, _⟩ | ⟨g', cap', cur', e1, _, hg', hle, hcm, hcs, htk⟩⟩ := hown
    · cases h0
    have e2 : g = g' := by injection e1 with e1; injection e1 with e1; injection e1
    have e3 : cap = cap' := by injection e1
    subst e2; subst e3; exact ⟨some ⟨g, 0, none⟩, cap, [(g, .cells cur' e (0, 0))], _, hrun, ⟨hl', .inr ⟨g, cur', rfl, rfl, hle, hcm, hcs, htk⟩⟩, hw'.write (o' := .cells cur' e (0, 0)) ⟨h3.os, h3.tape, h3.output, h3.size, fun k hk hn => h3.block k hk (by simp [Value.ownBlock]; simpa using hn), P9 _ _ _ _ hrun⟩ hg'⟩
  have holds : ∀ j v, xs[j]? = some v → w.cell? ((⟨g, 0, none⟩ : Addr).add j) = some v := by
    have ho : w.ownsRow 0 e 1 (.slice (j4 g) n cap) n xs := ⟨hl, .inr ⟨g, cap, cur, rfl, Nat.zero_le _, hgw, q1, q2, q3, q4⟩⟩; exact ho.cells (g := g) rfl
  have hm : maxLen ≤ 9223372036854775807 := by unfold maxLen; omega
  have hx := hrun.symm.trans (Lib.run_append_grow_string (P := P) w t u ty e i (.int .u8 0) el.tu el.ts hi hz ⟨g, 0, none⟩ n cap xs (by rw [hsz]; simpa using hxl) holds ⟨s.toArray⟩ (by rw [hsize]; omega) (by rw [hsize]; omega) (by rw [hb, hsize]; exact growslice_fits (by omega) (by omega))); have e0 : v' = .slice (some ⟨w.heap.size, 0, none⟩) (n + s.length) (grownCap w (n + s.length) cap e) := by injection hx
  obtain ⟨hl', ⟨h0, _⟩ | ⟨g', cap', cur', e1, _, hg', hle, hcm, hcs, htk⟩⟩ := hown
  · rw [h0] at e0; cases e0
  have e2 : g' = w.heap.size := by
    have e3 := e1.symm.trans e0
    injection e3 with e3
    injection e3 with e3
    injection e3
  subst e1; refine ⟨some ⟨g', 0, none⟩, cap', [(g', .cells cur' e (0, 0))], w', hrun, ⟨hl', .inr ⟨g', cur', rfl, rfl, hle, hcm, hcs, htk⟩⟩, bj7 (hw'.weak (List.sublist_cons_self _ _) fun _ h => h) h3.os h3.tape h3.output h3.size (P9 _ _ _ _ hrun) (by omega) hg' fun k hk hor => h3.block k hk ?_⟩; simp only [Value.ownBlock, ne_eq, Option.some.injEq]; rintro rfl
  rcases hor with ⟨p, hp, e⟩ | ⟨F, hF, hk⟩ | ⟨hk1, hk2⟩
  · have := hw'.nd
    simp only [List.map_cons, List.nodup_cons] at this; exact this.1 (List.mem_map.2 ⟨p, hp, e⟩)
  · exact hw'.ap F hF (k, .cells cur e (0, 0)) (by simp) hk
  rcases hw'.s0 (k, .cells cur e (0, 0)) (by simp) with h6 | h6
  · exact hk2 h6
  simp only at h6; omega
end
section
variable {c : Cx} {Q : Exit → Act → World → Prop} {fr : Fr} {hp : Hp} {L : List Fact} {ops : Array Oper} {rest : List Oper}
variable {d : Tmp} {ty : TypeId} {pos : String} {af : Array Edge}
theorem vF {t u e : TypeId} {x y : Operand} {n cap : Nat} {A : Option Addr} {xs : List Value} {s : Str} {og hp' : Hp} (n' : Nat) (xs' : List Value) (el : ElS c.P t u e) (hd : Nat.blt d c.n = true)
    (hx : ev fr x = some (.slice A n cap)) (hy : ev fr y = some (str s)) (hG : Grow e 1 A n cap xs og) (hpp : hp.Perm (og ++ hp')) (hn' : n + s.length = n') (hxs : xs ++ byteV s = xs') (hn : n' ≤ 140737488355328)
    (k : ∀ A' cap' og', Grow e 1 A' n' cap' xs' og' → HL c ops Q rest ((d, .slice A' n' cap') :: fr) (og' ++ hp') L) :
    HL c ops Q (⟨some d, .call ⟨.builtin .append, #[x, y], #[t, u]⟩, ty, pos, af, none⟩ :: rest) fr hp L :=
  kL rfl rfl hd fun a w ha hw => by
    subst hn'; subst hxs; obtain ⟨A', cap', og', w', hrun, hG', hw'⟩ := qH el hG (hw.perm hpp) s (by unfold maxLen; omega) hn ty; refine ⟨_, w', _, L, ?_, hw', k A' cap' og' hG'⟩; simp only [execOp, resolve, invoke, builtin, Sem.run_bind, Sem.run_pure, Result.andThen_ok, List.map_toArray, List.map_cons, List.map_nil, ha.ev hx, ha.ev hy, hrun]
theorem yS {s t te e : TypeId} {x : Operand} {g : Nat} {cs : Array Value} {fz : Nat × Nat} (hd : Nat.blt d c.n = true) (hs : c.P.underlying s = some (.pointer te)) (ht : c.P.underlying t = some .unsafePointer) (hi : (c.P.info? te).map (·.size) = some cs.size) (h0 : 0 < cs.size)
    (hx : ev fr x = some (.pointer (j4 g))) (hm : (g, Obj.cells cs e fz) ∈ hp) (k : HL c ops Q rest ((d, .pointer (j4 g)) :: fr) hp L) : HL c ops Q (⟨some d, .convert s t x, ty, pos, af, none⟩ :: rest) fr hp L :=
  n9 _ rfl rfl hd (fun a w ha hw => by
    obtain ⟨j, hj, hjs⟩ := Option.map_eq_some_iff.1 hi; have hg : w.heap[g]? = some (.cells cs e fz) := hw.own _ hm; have hrun := Lib.run_to_unsafe w ⟨g, 0, none⟩ hs ht hj (by omega) (e := e) (cells := cs.size) (by simp [World.shape?, hg]) h0
    simp only [execOp, ha.ev hx, Sem.run_bind, hrun, Result.andThen_ok, Sem.run_pure]) k
theorem vE {s t te e : TypeId} {x : Operand} {g : Nat} {cs : Array Value} {fz : Nat × Nat} (hd : Nat.blt d c.n = true) (hs : c.P.underlying s = some .unsafePointer) (ht : c.P.underlying t = some (.pointer te)) (hi : (c.P.info? te).map (·.size) = some cs.size) (hl : liesAt c.P c.P.depth e (cs.size / c.P.cellsOf e) 0 te 1 = true)
    (hx : ev fr x = some (.pointer (j4 g))) (hm : (g, Obj.cells cs e fz) ∈ hp) (k : HL c ops Q rest ((d, .pointer (j4 g)) :: fr) hp L) : HL c ops Q (⟨some d, .convert s t x, ty, pos, af, none⟩ :: rest) fr hp L :=
  n9 _ rfl rfl hd (fun a w ha hw => by
    obtain ⟨j, hj, hjs⟩ := Option.map_eq_some_iff.1 hi; have hg : w.heap[g]? = some (.cells cs e fz) := hw.own _ hm; have hrun := Lib.run_from_unsafe w ⟨g, 0, none⟩ hs ht hj (e := e) (cells := cs.size) (by simp [World.shape?, hg]) hl
    simp only [execOp, ha.ev hx, Sem.run_bind, hrun, Result.andThen_ok, Sem.run_pure]) k
theorem xG {t te yt : TypeId} {x y : Operand} {p : Addr} (hd : Nat.blt d c.n = true) (ht : c.P.underlying t = some (.pointer te)) (hi : (c.P.info? te).isSome = true) (hx : ev fr x = some (.pointer (some p))) (hy : ev fr y = some (.pointer (some p)))
    (k : HL c ops Q rest ((d, .bool false) :: fr) hp L) : HL c ops Q (⟨some d, .binOp .neq t x y yt, ty, pos, af, none⟩ :: rest) fr hp L :=
  n9 _ rfl rfl hd (fun a' w ha _ => by
    obtain ⟨j, hj⟩ := Option.isSome_iff_exists.1 hi
    exact C0 (ha.ev hx) (ha.ev hy) rfl (Lib.run_neq_ptr_same w p ht hj)) k
theorem zE {P : Program} {w : World} {tp te : TypeId} {p : Option Addr} (hp : P.underlying tp = some (.pointer te)) : (binOp .eql tp (.pointer p) (.pointer none)).run P w = .ok (.bool (p == none)) w := by
  have h : ∀ d : Nat, (Op.equalIn (d + 1) tp (.pointer p) (.pointer none)).run P w = .ok (p == none) w := fun d => by
    cases p <;> simp [Op.equalIn, run_underlying hp]
  simp only [binOp]
  simp [Op.equal, Op.maxDepth, h 9999]
theorem uI {t te yt : TypeId} {x y : Operand} {p : Option Addr} (hd : Nat.blt d c.n = true) (ht : c.P.underlying t = some (.pointer te)) (hx : ev fr x = some (.pointer p)) (hy : ev fr y = some (.pointer none))
    (k : HL c ops Q rest ((d, .bool (p == none)) :: fr) hp L) : HL c ops Q (⟨some d, .binOp .eql t x y yt, ty, pos, af, none⟩ :: rest) fr hp L :=
  n9 _ rfl rfl hd (fun a' w ha _ => C0 (ha.ev hx) (ha.ev hy) rfl (zE ht)) k
theorem xF {t pt : TypeId} {x : Operand} {A : Addr} {n cap : Nat} (hd : Nat.blt d c.n = true) (hx : ev fr x = some (.slice (some A) n cap)) (hc : cap ≠ 0) (k : HL c ops Q rest ((d, .pointer (some A)) :: fr) hp L) :
    HL c ops Q (⟨some d, .call ⟨.builtin .unsafeSliceData, #[x], #[t]⟩, ty, pos, af, none⟩ :: rest) fr hp L :=
  n9 _ rfl rfl hd (fun a w ha hw => by
    simp only [execOp, resolve, invoke, builtin, Sem.run_bind, Sem.run_pure, Result.andThen_ok, List.map_toArray, List.map_cons, List.map_nil, ha.ev hx, Lib.run_unsafeSliceData_row _ _ _ _ _ _ hc]) k
theorem rC {pt it e : TypeId} {x y : Operand} {g cap : Nat} {s : Str} {og hp' : Hp} (hd : Nat.blt d c.n = true) (hp0 : c.P.underlying pt = some (.pointer e)) (hc : c.P.cellsOf e = 1) (h0 : s ≠ [])
    (hx : ev fr x = some (.pointer (j4 g))) (hy : ev fr y = some (int s.length)) (hG : Grow e 1 (j4 g) s.length cap (byteV s) og) (hpp : hp.Perm (og ++ hp'))
    (k : HL c ops Q rest ((d, str s) :: fr) hp' L) : HL c ops Q (⟨some d, .call ⟨.builtin .unsafeString, #[x, y], #[pt, it]⟩, ty, pos, af, none⟩ :: rest) fr hp L :=
  kL rfl rfl hd fun a w ha hw => by
    have hw1 := hw.perm hpp
    rcases hG with ⟨hl, ⟨h, _⟩ | ⟨g', cur, e1, rfl, q1, q2, q3, q4⟩⟩
    · cases h
    obtain rfl : g = g' := by injection e1 with e1; injection e1
    have hw2 : WI c.b w ((g, .cells cur e (0, 0)) :: hp') L := by simpa using hw1
    have hg : w.heap[g]? = some (.cells cur e (0, 0)) := hw2.own (g, .cells cur e (0, 0)) (by simp); have ho : w.ownsRow 0 e 1 (.slice (j4 g) s.length cap) s.length (byteV s) := ⟨hl, .inr ⟨g, cap, cur, rfl, Nat.zero_le _, hg, q1, q2, q3, q4⟩⟩; have hm : maxLen ≤ 9223372036854775807 := by unfold maxLen; omega
    have hrun := Lib.run_unsafeString_row (P := c.P) w pt it ty e hp0 hc g cur.size (by simp [World.shape?, hg]) s h0 (by omega) (by omega) (fun j x hx => ho.cells (g := g) rfl j (.int .u8 x.toNat) (by simp [byteV, hx])); refine ⟨str s, w.freeze ⟨g, 0, none⟩ s.length, hp', L, ?_, ?_, k⟩
    · simp only [execOp, resolve, invoke, builtin, Sem.run_bind, Sem.run_pure, Result.andThen_ok, List.map_toArray, List.map_cons, List.map_nil, ha.ev hx, ha.ev hy]
      exact congrArg (fun r => Result.andThen r _) hrun
    have hl0 : s.length ≠ 0 := by simpa using h0
    have hget : ∀ k, (w.freeze ⟨g, 0, none⟩ s.length).heap[k]? = if g = k then some (.cells cur e (0, s.length)) else w.heap[k]? := fun k => by
      unfold World.freeze; rw [if_neg hl0]; simp only [Array.getElem?_modify]
      split
      · rename_i e1
        subst e1
        simp [hg]
      rfl
    have hsame : (w.freeze ⟨g, 0, none⟩ s.length).os = w.os ∧ (w.freeze ⟨g, 0, none⟩ s.length).tape = w.tape ∧ (w.freeze ⟨g, 0, none⟩ s.length).output = w.output ∧ w.heap.size ≤ (w.freeze ⟨g, 0, none⟩ s.length).heap.size ∧ w.drawn ≤ (w.freeze ⟨g, 0, none⟩ s.length).drawn := by
      unfold World.freeze; rw [if_neg hl0]; exact ⟨rfl, rfl, rfl, by simp, Nat.le_refl _⟩
    exact (hw2.write (o' := .cells cur e (0, s.length)) ⟨hsame.1, hsame.2.1, hsame.2.2.1, hsame.2.2.2.1, fun k hk hn => by rw [hget, if_neg (fun e => hn (by simp [e]))], hsame.2.2.2.2⟩ (by rw [hget, if_pos rfl])).weak (List.sublist_cons_self _ _) fun _ h => h
end
end Go.W
end
