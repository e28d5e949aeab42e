/- Texts. -/
import Derived.Lib.AppendStr
import Derived.Lib.UnsafeStr
import Derived.Lib.Builder
import Derived.Test.YtpfbbggmcbhboaaGreatDoorAAp
import Derived.Test.YtpfbbggmcbhboaaGreatDoorAAb
import Derived.Test.YtpfbbggmcbhboaaGreatDoorAAk
import Derived.Test.YtpfbbggmcbhboaaGreatDoorAAj
import Derived.Test.YtpfbbggmcbhboaaGreatDoorAAn
import Derived.Test.YtpfbbggmcbhboaaGreatDoorAAo
set_option linter.unusedVariables false
set_option linter.unusedSimpArgs false
section
namespace Go.Proofs.YtpfbbggmcbhboaaGreatDoor
open Go Go.W Tryz T F
set_option maxRecDepth 20000
attribute [local irreducible] HL HC HQ HB Row Rows2 Blk Facts
theorem k4_bd (c : UInt8) : -1 ≤ Lib.indexByte K4 c ∧ Lib.indexByte K4 c ≤ 3 := by
  rcases uT c K4 with ⟨h, _⟩ | ⟨i, h, h2, _⟩
  · omega
  have e : K4.length = 4 := rfl
  omega
theorem rq3 {α : Type} (a b : α) (l : List α) : (a :: l).Sublist (a :: b :: l) := (List.sublist_cons_self _ _).cons_cons _
theorem rq2 {α : Type} (a b : α) (l : List α) : (a :: l).Sublist (a :: (l ++ [b])) := (List.sublist_append_left _ _).cons_cons _
abbrev mkO (g : Nat) (m : Mk) : Nat × Obj := (g, Obj.cells #[int m.1, int m.2.1, str m.2.2] C9 (0, 0))
theorem nR (g : Nat) (x : Str) (n : Int) (o : OutC) (ms : List Mk) (og : Hp) (s : Str) (hs : s.length ≤ 1000000) (hG : GrowM o ms og) (hl : ms.length ≤ 1000) (hn : 0 ≤ n ∧ n ≤ 1000) : MeetsE prog Z4 [.pointer (k5 g), str s] { hpI := rdH g x n o ms og, inv := fun y : Mk × OutC × Hp => markS s = some y.1 ∧ GrowM y.2.1 (ms ++ [y.1]) y.2.2, val := fun _ => .tuple #[], hpO := fun y => rdH g x (n + 1) y.2.1 (ms ++ [y.1]) y.2.2 } { inv := fun _ : Unit => markS s = none, val := fun _ => wrongV n, hpO := fun _ => rdH g x n o ms og } := by
 refine qS rF rfl q6 fun w0 => ?_; refine c8 (c7 (b7 rfl (mF rfl rfl rfl (b8 ?_))))
 first | refine k8 rfl (fun hb1 => ?_) (fun hb1 => ?_) | refine d9 rfl (fun hb1 => ?_) (fun hb1 => ?_)
 ·have hb1' := hb1; try simp at hb1'
  refine i4 (b7 rfl (n0 rfl rfl ?_))
  first | refine b3 ⟨_, 0, none⟩ rfl rfl p6 rfl ?_ | refine b3 _ rfl rfl p6 rfl ?_
  first | refine b3 ⟨_, 1, none⟩ rfl rfl n4 rfl ?_ | refine b3 _ rfl rfl n4 rfl ?_
  refine b6 (v := int n) rfl a9 rfl (i5 mB rfl) (vR rfl ⟨_, underlying138, rfl⟩ rfl (gX rfl (fun _ => rfl) ?_))
  repeat (first | refine O7 ?_ | refine X5 ?_)
  exact cS () rfl rfl (by rw [show s = [] by simpa using hb1]; rfl) (.refl _) tK
 have hb1' := hb1; try simp at hb1'
 have hs0 : s ≠ [] := by simpa using hb1
 obtain ⟨c, r, rfl⟩ : ∃ c r, s = c :: r := by cases s with | nil => exact absurd rfl hs0 | cons c r => exact ⟨c, r, rfl⟩
 have hI := nE K4 c; have hkb := k4_bd c; obtain ⟨k, hk⟩ : ∃ k, Lib.indexByte K4 c = k := ⟨_, rfl⟩; rw [hk] at hI hkb; have hM : markS (c :: r) = markK k r := by rw [markS, hk]
 have hr : r.length ≤ 1000000 := by simp at hs; omega
 obtain ⟨p, q, bo, hcut⟩ : ∃ p q bo, cutB 32 r = (p, q, bo) := ⟨_, _, _, rfl⟩; have hC := lK r 32 hr; rw [hcut] at hC; unfold markK at hM; rw [hcut] at hM; simp only at hM hC
 have hpl : p.length ≤ 1000000 := by
   rcases uT 32 r with ⟨_, h2, _⟩ | ⟨i, _, h1, h2, _⟩
   · rw [hcut] at h2; cases h2; exact hr
   rw [hcut] at h2; cases h2; rw [List.length_take]; omega
 refine d8 (d4 (c7 (b7 rfl ?_))); refine L7 0 rfl l7 rfl rfl rfl rfl (d5 pB rfl rfl (hI) (hpR := rdH g x n o ms og) (.refl _) tK fun _ _ => A9 _ rfl rfl (fun _ => aj3 ..) (y9 rfl (fun _ => r7 _) fun gm => u0 (cs := #[int k, int 0, str []]) rfl rfl (.refl _) c6 (by rfl) (by rfl) ?_)); refine n7 (b7 rfl ?_); refine lM 1 rfl l7 rfl rfl rfl (by simp) ?_; refine d5 lU rfl rfl (hC) (hpR := mkO gm (k, 0, []) :: rdH g x n o ms og) (.refl _) tK fun _ _ => ?_; refine b7 rfl (j6 rfl rfl rfl (j6 rfl rfl rfl (j6 rfl rfl rfl (c3 rfl (c3 rfl (c3 rfl (b8 (c8 (c7 ?_)))))))))
 first | refine b3 ⟨_, 0, none⟩ rfl rfl j9 rfl ?_ | refine b3 _ rfl rfl j9 rfl ?_
 refine b6 (v := int k) rfl a9 rfl (i5 mB rfl) ?_; refine z8 rfl rfl rfl (b7 rfl ?_); refine n6 rfl rfl ?_ ?_
 ·intro hg1; have hg1' := hg1; try simp at hg1'
  refine k9 hg1 (b7 rfl (k9 hg1 ?_))
  first | refine b3 ⟨_, 0, none⟩ rfl rfl j9 rfl ?_ | refine b3 _ rfl rfl j9 rfl ?_
  refine k9 hg1 (b6 (v := int k) rfl a9 rfl (i5 mB rfl) ?_); refine k9 hg1 (y5 rfl rfl rfl (k9 hg1 (r_bneq rfl nx0 rfl rfl ?_))); refine p_f rfl rfl (bf1 hg1) rfl (b8 ?_)
  first | refine k8 rfl (fun hb2 => ?_) (fun hb2 => ?_) | refine d9 rfl (fun hb2 => ?_) (fun hb2 => ?_)
  ·have hb2' := hb2; try simp at hb2'
   refine i4 (b7 rfl (n0 rfl rfl ?_))
   first | refine b3 ⟨_, 0, none⟩ rfl rfl p6 rfl ?_ | refine b3 _ rfl rfl p6 rfl ?_
   first | refine b3 ⟨_, 1, none⟩ rfl rfl n4 rfl ?_ | refine b3 _ rfl rfl n4 rfl ?_
   refine b6 (v := int n) rfl a9 rfl (i5 mB rfl) (vR rfl ⟨_, underlying138, rfl⟩ rfl (gX rfl (fun _ => rfl) ?_))
   repeat (first | refine O7 ?_ | refine X5 ?_)
   exact cS () rfl rfl (by rw [hM]; first | exact if_pos (.inl (by omega)) | exact if_pos (.inr (by simp_all))) (List.sublist_cons_self _ _) tK
  have hb2' := hb2; try simp at hb2'
  have hk1 : ¬ k < 1 := by omega
  have hbo : bo = decide (¬ k = 3) := by simpa using hb2
  rw [if_neg (by simp only [not_or, Decidable.not_not]; exact ⟨hk1, hbo⟩)] at hM; refine d8 (d4 (c7 (b7 rfl (n0 rfl rfl ?_))))
  first | refine b3 ⟨_, 0, none⟩ rfl rfl p6 rfl ?_ | refine b3 _ rfl rfl p6 rfl ?_
  refine b7 rfl ?_
  refine yT pI rfl rfl (nQ g x n (rdV o ms) p hpl) (hpR := mkO gm (k, 0, []) :: og) (.swap _ _ _) tK (fun y hy => by
    repeat (first | refine O7 ?_ | refine X5 ?_)
    exact cS () rfl rfl (by rw [hM, hy]) (rq3 _ _ _) tK) ?_
  refine fun z hz => ?_; rw [hz] at hM; simp only at hM; refine b7 rfl ?_
  first | refine b3 ⟨_, 1, none⟩ rfl rfl i8 rfl ?_ | refine b3 _ rfl rfl i8 rfl ?_
  refine A4 (hp' := rdO g x n (rdV o ms) :: og) rfl rfl (.swap _ _ _) J2 (by rfl) (by rfl) ?_
  first | refine b3 ⟨_, 2, none⟩ rfl rfl q7 rfl ?_ | refine b3 _ rfl rfl q7 rfl ?_
  refine A4 rfl rfl (.refl _) z2 (by rfl) (by rfl) ?_; refine b8 (c8 (c7 ?_)); refine C8 rfl j0 c6 rfl (cs := #[int k, int z, str q]) m0 (by rfl) (d5 N2 rfl rfl (N0 (k, z, q)) (hpR := mkO gm (k, z, q) :: rdH g x n o ms og) (.refl _) tK fun _ _ => ?_); refine y5 rfl rfl rfl (b8 ?_)
  first | refine k8 rfl (fun hb3 => ?_) (fun hb3 => ?_) | refine d9 rfl (fun hb3 => ?_) (fun hb3 => ?_)
  ·have hb3' := hb3; try simp at hb3'
   refine i4 (b7 rfl (n0 rfl rfl ?_))
   first | refine b3 ⟨_, 0, none⟩ rfl rfl p6 rfl ?_ | refine b3 _ rfl rfl p6 rfl ?_
   first | refine b3 ⟨_, 1, none⟩ rfl rfl n4 rfl ?_ | refine b3 _ rfl rfl n4 rfl ?_
   refine b6 (v := int n) rfl a9 rfl (i5 mB rfl) (vR rfl ⟨_, underlying138, rfl⟩ rfl (gX rfl (fun _ => rfl) ?_))
   repeat (first | refine O7 ?_ | refine X5 ?_)
   exact cS () rfl rfl (by rw [hM, if_neg hb3]) (List.sublist_cons_self _ _) tK
  have hb3' := hb3; try simp at hb3'
  have hb4 : textErr (k, z, q) = 0 := by omega
  rw [if_pos hb4] at hM; refine d8 (d4 (c8 ?_)); refine R6 (og) ([mkO gm (k, z, q), rdO g x n (rdV o ms)]) (List.perm_append_comm (l₁ := [_, _])) 8 [7] mixed (by decide) (by decide) (by decide) rfl rfl rfl (v0 rfl (v0 rfl (u9 (fun w1 => n0 rfl rfl (q_z rfl)) ?_)))
  apply q9 _ rfl rfl rfl
  ·intro w1
   first | refine b3 ⟨_, 2, none⟩ rfl rfl B5 rfl ?_ | refine b3 _ rfl rfl B5 rfl ?_
   refine d6 ?_; exact l3 rfl
  apply q9 _ rfl rfl rfl
  ·intro w1
   first | refine b6 rfl i6 rfl (j4 mB rfl) ?_ | refine b6 rfl i6 rfl (i5 mB rfl) ?_ | refine b6 rfl i6 rfl (i9 mB (d7 (by omega) rfl)) ?_ | refine b6 rfl i6 rfl (i7 mB (rows_get (by omega) rfl)) ?_
   refine d6 ?_; exact l3 rfl
  apply q9 _ rfl rfl rfl
  ·intro w1
   first | refine C8 rfl j0 c6 rfl mB (by rfl) ?_ | refine D6 rfl j0 c6 rfl mB (by rfl) ?_ | refine u3 rfl j0 c6 rfl rfl (q8 mB (s6 (by omega))) ?_
   refine d6 ?_; exact l3 rfl
  refine lT ⟨Nat, fun _ => True, fun g1 => .slice (k5 g1) 1 1, fun g1 => [Row (k5 g1) (rows [(k, z, q)])]⟩ rfl rfl rfl ?_ ?_
  ·intro w1; refine j8 _ rfl rfl (fun _ => r8 ..) fun gS => d6 (R5 (rows [(k, z, q)]) (List.prefix_refl _) ?_); exact X3 gS tK rfl ⟨m0, tK⟩
  refine sB ⟨OutC × Hp, fun x => Grow C9 3 x.1.1 (ms.length + 1) x.1.2 (rows (ms ++ [(k, z, q)])) x.2, fun x => .slice x.1.1 (ms.length + 1) x.1.2, fun _ => [], fun x => x.2⟩ rfl rfl rfl ?_ ?_
  ·intro g1 _; intro w1; refine E7 (ms.length + 1) (rows (ms ++ [(k, z, q)])) H4 rfl rfl rfl hG (hp' := []) (by rw [List.append_nil]) (Src.row (news := rows [(k, z, q)]) (m := 1) m0 rfl (aW _) (by decide)) rfl (z7 ms [(k, z, q)]).symm (by unfold maxLen; omega) (by omega) fun A' c' og' hG' => ?_; refine d6 ?_; exact X2 ((A', c'), og') hG' (fun _ => rfl) (List.sublist_append_left _ _) tK
  refine E8 ⟨rfl, ?_⟩; intro g1 _ y hy; refine n0 rfl rfl ?_
  first | refine b3 ⟨_, 2, none⟩ rfl rfl B5 rfl ?_ | refine b3 _ rfl rfl B5 rfl ?_
  refine A4 rfl rfl (wN _ _ _) aj0 (by rfl) (by rfl) ?_; refine b8 (i4 (b7 rfl (n0 rfl rfl ?_)))
  first | refine b3 ⟨_, 0, none⟩ rfl rfl p6 rfl ?_ | refine b3 _ rfl rfl p6 rfl ?_
  first | refine b3 ⟨_, 1, none⟩ rfl rfl n4 rfl ?_ | refine b3 _ rfl rfl n4 rfl ?_
  refine b6 (v := int n) rfl a9 rfl (i5 mB rfl) (v6 (n + 1) rfl rfl rfl rfl r6 (n0 rfl rfl ?_))
  first | refine b3 ⟨_, 0, none⟩ rfl rfl p6 rfl ?_ | refine b3 _ rfl rfl p6 rfl ?_
  first | refine b3 ⟨_, 1, none⟩ rfl rfl n4 rfl ?_ | refine b3 _ rfl rfl n4 rfl ?_
  refine A4 rfl rfl (.refl _) J2 (by rfl) (by rfl) ?_; refine d6 (hq_En ?_); exact ret0n ((k, z, q), y.1, y.2) rfl rfl rfl ⟨hM, by unfold GrowM; rw [B7]; exact hy⟩ (by show List.Sublist ((g, Obj.cells #[str x, int (n + 1), .slice y.1.1 (ms ++ [(k, z, q)]).length y.1.2] rR (0, 0)) :: y.2) _; rw [B7]; exact rq2 _ _ _) tK
 intro hg1; have hg1' := hg1; try simp at hg1'
 refine u2 hg1 (u2 hg1 (u2 hg1 (u2 hg1 (u2 hg1 ?_)))); refine p_t rfl rfl (bt2 hg1) rfl ?_; refine b8 (c_t rfl rfl (i4 (b7 rfl (n0 rfl rfl ?_))))
 first | refine b3 ⟨_, 0, none⟩ rfl rfl p6 rfl ?_ | refine b3 _ rfl rfl p6 rfl ?_
 first | refine b3 ⟨_, 1, none⟩ rfl rfl n4 rfl ?_ | refine b3 _ rfl rfl n4 rfl ?_
 refine b6 (v := int n) rfl a9 rfl (i5 mB rfl) (vR rfl ⟨_, underlying138, rfl⟩ rfl (gX rfl (fun _ => rfl) ?_))
 repeat (first | refine O7 ?_ | refine X5 ?_)
 exact cS () rfl rfl (by rw [hM]; first | exact if_pos (.inl (by omega)) | exact if_pos (.inr (by simp_all))) (List.sublist_cons_self _ _) tK
theorem bj5 (ga gb : Nat) (n a : Int) (b : Bool) : MeetsR prog N3 [.pointer (k5 ga), .pointer (k5 gb)] (.panicking [{ v := wrongV n, recovered := false }]) (.panicking [{ v := wrongV n, recovered := true }]) { hpI := [(ga, Obj.cells #[int a] I6 (0, 0)), (gb, Obj.cells #[.bool b] U6 (0, 0))], val := fun _ : Unit => .tuple #[], hpO := fun _ => [(ga, Obj.cells #[int n] I6 (0, 0)), (gb, Obj.cells #[.bool false] U6 (0, 0))] } := by
 refine yH (nz2 _) cD rfl q6 rfl (fun _ _ => rfl) (fun _ _ => rfl) fun w0 => ?_; refine c3 rfl (b8 ?_); refine c7 (b7 rfl ?_); refine vS (.bool true) rfl rfl rfl (fun _ => n5) (fun _ => n5) (b8 (c_t rfl sx6 ?_)); refine c7 (b7 rfl ?_); refine nz6 rfl ⟨_, underlying138, rfl⟩ rfl ?_; refine b7 rfl (j6 rfl rfl rfl (j6 rfl rfl rfl (c3 rfl (c3 rfl (b8 (c8 (c7 (b7 rfl (cO rfl rfl ?_))))))))); refine b8 (c_f rfl gq7 ?_); refine d8 (d4 (i4 (b7 rfl ?_))); refine A4 rfl rfl (.refl _) J2 (by rfl) (by rfl) (A4 rfl rfl (.swap _ _ _) jU (by rfl) (by rfl) (d6 (jq3 (.swap _ _ _) ?_))); exact ret0n () rfl rfl rfl tK (.refl _) tK
theorem sz1 (ga gb : Nat) (a : Int) (b : Bool) : MeetsR prog N3 [.pointer (k5 ga), .pointer (k5 gb)] .returning .returning { hpI := [(ga, Obj.cells #[int a] I6 (0, 0)), (gb, Obj.cells #[.bool b] U6 (0, 0))], val := fun _ : Unit => .tuple #[], hpO := fun _ => [(ga, Obj.cells #[int a] I6 (0, 0)), (gb, Obj.cells #[.bool b] U6 (0, 0))] } := by
 refine yH qz8 cD rfl q6 rfl (fun _ _ => rfl) (fun _ _ => rfl) fun w0 => ?_; refine c3 rfl (b8 ?_); refine c7 (b7 rfl ?_); refine vS (.bool false) rfl rfl rfl (fun _ => n5) (fun _ => n5) (b8 (c_f rfl gq7 (d8 ?_))); exact ret0n () rfl rfl rfl tK (.refl _) tK
def readR (x : Str) : List Mk × Bool := readF x.length x []
structure AllI (x : Str) (n : Nat) (p : Str × Str × Bool) (ms : List Mk) (o : OutC) (og : Hp) : Prop where
  c : contR n p ms = readR x
  l : p.2.1.length ≤ n
  m : ms.length + n + (if p.2.2 = true then 1 else 0) ≤ x.length
  g : GrowM o ms og
  s : p.1.length ≤ 1000000
theorem nj9 {b : UInt8} {x p q : Str} {t : Bool} (h : cutB b x = (p, q, t)) : p.length ≤ x.length ∧ q.length ≤ x.length := by
  rcases uT b x with ⟨_, h2, _⟩ | ⟨i, _, h1, h2, _⟩
  · rw [h] at h2; cases h2; exact ⟨Nat.le_refl _, Nat.zero_le _⟩
  rw [h] at h2; cases h2; rw [List.length_take, List.length_drop]; omega
theorem qj6 {x : Str} {p : Str × Str × Bool} (hx : x.length ≤ 1000) (hp : (x = [] ∧ p = ([], [], false)) ∨ (x ≠ [] ∧ cutB 47 x = (p.1, p.2.1, true) ∧ p.2.2 = true)) : AllI x (x.length - 1) p [] (none, 0) [] := by
  rcases hp with ⟨rfl, rfl⟩ | ⟨h2, h3, h4⟩
  · exact ⟨rfl, by simp, by simp, Grow.nil _ _, by simp⟩
  obtain ⟨e1, e2, e3⟩ := dq2 (ms := []) h2 (Nat.le_refl _) h3; obtain ⟨p1, p2, p3⟩ := p; simp only at h3 h4 e1 e2; subst h4; have := nj9 h3; exact ⟨e1.symm, e2, by simp; omega, Grow.nil _ _, by simp only; omega⟩
theorem sz0 {x : Str} {n : Nat} {ms : List Mk} {m : Mk} {o : OutC} {og : Hp} {y : Str} {p : Str × Str × Bool} (h : readF n y (ms ++ [m]) = readR x) (hl : y.length ≤ n) (hm : ms.length + n + 1 ≤ x.length) (hg : GrowM o (ms ++ [m]) og) (hx : x.length ≤ 1000)
    (hp : (y = [] ∧ p = ([], [], false)) ∨ (y ≠ [] ∧ cutB 47 y = (p.1, p.2.1, true) ∧ p.2.2 = true)) : AllI x (n - 1) p (ms ++ [m]) o og := by
  rcases hp with ⟨rfl, rfl⟩ | ⟨h2, h3, h4⟩
  · rw [nz3] at h
    exact ⟨by rw [contR, if_neg (by simp)]; exact h, by simp, by rw [B7]; simp; omega, hg, by simp⟩
  obtain ⟨e1, e2, e3⟩ := dq2 (ms := ms ++ [m]) h2 hl h3; obtain ⟨p1, p2, p3⟩ := p; simp only at h3 h4 e1 e2; subst h4; have := nj9 h3; exact ⟨e1.symm.trans h, e2, by rw [B7]; simp; omega, hg, by simp only; omega⟩
theorem all_mu {n : Nat} {y : Str} {p q : Str × Str × Bool} (h : q.2.2 = true) (hp : (y = [] ∧ p = ([], [], false)) ∨ (y ≠ [] ∧ cutB 47 y = (p.1, p.2.1, true) ∧ p.2.2 = true)) (hn : y = [] ∨ 1 ≤ n) : (if p.2.2 = true then (n - 1) + 1 else 0) < (if q.2.2 = true then n + 1 else 0) := by
  rw [if_pos h]
  rcases hp with ⟨_, rfl⟩ | ⟨h2, _, h3⟩
  · simp
  rw [if_pos h3]; have := hn.resolve_left h2
  omega
abbrev AllZ := Nat × (Str × Str × Bool) × List Mk × OutC × Hp
theorem dx1 {α : Type} (a b : α) (l : List α) : (l ++ [b, a]).Perm ([a, b] ++ l) := (List.perm_append_comm (l₁ := l) (l₂ := [b, a])).trans (.swap _ _ _)
theorem mq7 {n : Nat} {p : Str × Str × Bool} {ms : List Mk} (h : p.2.2 = true) (h2 : markS p.1 = none) : contR n p ms = (ms, false) := by rw [contR, if_pos h, h2]
theorem mq6 {n : Nat} {p : Str × Str × Bool} {ms : List Mk} {m : Mk} (h : p.2.2 = true) (h2 : markS p.1 = some m) : contR n p ms = readF n p.2.1 (ms ++ [m]) := by rw [contR, if_pos h, h2]
theorem pz0 {n : Nat} {p : Str × Str × Bool} {ms : List Mk} (h : p.2.2 = false) : contR n p ms = (ms, true) := by rw [contR, if_neg (by rw [h]; simp)]
theorem qQ (g : Nat) (x : Str) (hx : x.length ≤ 1000) : Meets prog aN [.pointer (k5 g)] { hpI := rdH g x 0 (none, 0) [] [], inv := fun y : Str × Int × OutC × Hp => GrowM y.2.2.1 (readR x).1 y.2.2.2, val := fun _ => .tuple #[int (if (readR x).2 = true then 0 else ((readR x).1.length : Int)), .bool (readR x).2], hpO := fun y => rdH g y.1 y.2.1 y.2.2.1 (readR x).1 y.2.2.2 } := by
 obtain ⟨R, hR⟩ : ∃ R, readR x = R := ⟨_, rfl⟩; rw [hR]; refine jj6 H0 rfl q6 fun w0 => c7 (y9 rfl (fun _ => nx3 _) fun ga => y9 rfl (fun _ => lx2 _) fun gb => ?_); refine n7 (qN rfl rfl rfl ?_); refine r_defer (cap := [.pointer (k5 ga), .pointer (k5 gb)]) rfl ?_; refine b8 (c8 (c7 (b7 rfl (n0 rfl rfl ?_))))
 first | refine b3 ⟨_, 0, none⟩ rfl rfl p6 rfl ?_ | refine b3 _ rfl rfl p6 rfl ?_
 refine yT dR rfl rfl (dP g x 0 (rdV (none, 0) []) (by omega)) (hpR := [(gb, Obj.cells #[.bool false] U6 (0, 0)), (ga, Obj.cells #[int 0] I6 (0, 0))]) (List.perm_append_comm (l₁ := [_, _])) tK (fun _ hy => by
   obtain rfl : R = (([] : List Mk), false) := hR.symm.trans (hz6 hy.1 (Nat.le_refl _) hy.2)
   repeat (first | refine O7 ?_ | refine X5 ?_)
   refine cz6 (bj5 ga gb ((([] : List Mk)).length : Int) 0 false) (.inr (.inr ⟨_, rfl, rfl⟩)) H0 I5 (.inr ⟨_, rfl⟩) rfl (hpR := rdH g (x) ((([] : List Mk)).length : Int) ((none, 0)) (([] : List Mk)) ([])) (dx1 (ga, Obj.cells #[int 0] I6 (0, 0)) (gb, Obj.cells #[.bool false] U6 (0, 0)) (rdH g (x) ((([] : List Mk)).length : Int) ((none, 0)) (([] : List Mk)) ([]))) tK fun _ _ => ?_
   exact gV (x, ((([] : List Mk)).length : Int), (none, 0), []) (fun a w ha hw => P5 (v1 := int ((([] : List Mk)).length : Int)) (v2 := .bool false) rfl rfl rfl a9 cK (i5 mB rfl) (i5 mB rfl) a w ha.sz ha.at_ hw) rfl (Grow.nil _ _) (List.sublist_append_right _ _) tK) ?_
 refine fun p0 hp0 => ?_; have hI0 := qj6 hx hp0; refine b7 rfl (j6 rfl rfl rfl (j6 rfl rfl rfl (c3 rfl (c3 rfl (b8 (k6 ?_)))))); refine y6 (β := AllZ) ⟨fun z => AllI x z.1 z.2.1 z.2.2.1 z.2.2.2.1 z.2.2.2.2, fun z => [(0, .pointer (k5 g)), (2, .pointer (k5 ga)), (3, .pointer (k5 gb)), (4, str z.2.1.1), (5, .bool z.2.1.2.2)], fun z => rdH g z.2.1.2.1 z.2.2.1.length z.2.2.2.1 z.2.2.1 z.2.2.2.2 ++ [(gb, Obj.cells #[.bool false] U6 (0, 0)), (ga, Obj.cells #[int 0] I6 (0, 0))], fun _ => []⟩ (fun z => if z.2.1.2.2 = true then z.1 + 1 else 0) (x.length - 1, p0, [], (none, 0), []) hI0 mC (.refl _) tK fun z hz => ?_; obtain ⟨n, p, ms, o, og⟩ := z; have hc := hz.c; have hl1 := hz.l; have hm1 := hz.m; have hG := hz.g; have hs1 := hz.s; rw [hR] at hc; simp only at hc hl1 hm1 hG hs1; refine c8 (c7 (b7 rfl (b8 ?_)))
 first | refine k8 rfl (fun hb1 => ?_) (fun hb1 => ?_) | refine d9 rfl (fun hb1 => ?_) (fun hb1 => ?_)
 ·have hb1' := hb1; try simp at hb1'
  have hmore : p.2.2 = true := hb1; rw [if_pos hmore] at hm1; refine d8 (d4 (c8 (k6 (i4 (b7 rfl (b7 rfl ?_))))))
  refine yT pK rfl rfl (nR g p.2.1 (ms.length : Int) o ms og p.1 hs1 hG (by omega) (by omega)) (hpR := [(gb, Obj.cells #[.bool false] U6 (0, 0)), (ga, Obj.cells #[int 0] I6 (0, 0))]) (.refl _) tK (fun _ hy => by
    obtain rfl : R = (ms, false) := hc.symm.trans (mq7 hmore hy)
    repeat (first | refine O7 ?_ | refine X5 ?_)
    refine cz6 (bj5 ga gb ((ms).length : Int) 0 false) (.inr (.inr ⟨_, rfl, rfl⟩)) H0 I5 (.inr ⟨_, rfl⟩) rfl (hpR := rdH g (p.2.1) ((ms).length : Int) (o) (ms) (og)) (dx1 (ga, Obj.cells #[int 0] I6 (0, 0)) (gb, Obj.cells #[.bool false] U6 (0, 0)) (rdH g (p.2.1) ((ms).length : Int) (o) (ms) (og))) tK fun _ _ => ?_
    exact gV (p.2.1, ((ms).length : Int), o, og) (fun a w ha hw => P5 (v1 := int ((ms).length : Int)) (v2 := .bool false) rfl rfl rfl a9 cK (i5 mB rfl) (i5 mB rfl) a w ha.sz ha.at_ hw) rfl hG (List.sublist_append_right _ _) tK) ?_
  refine fun y hy => ?_; obtain ⟨m, o', og'⟩ := y; obtain ⟨hm, hG'⟩ := hy; simp only at hm hG'; rw [mq6 hmore hm] at hc; refine yS (hp' := rdH g p.2.1 ((ms ++ [m]).length : Int) o' (ms ++ [m]) og' ++ [(gb, Obj.cells #[.bool false] U6 (0, 0)), (ga, Obj.cells #[int 0] I6 (0, 0))]) (by show (rdH g p.2.1 ((ms.length : Int) + 1) o' (ms ++ [m]) og' ++ _) = _; rw [show ((ms ++ [m]).length : Int) = (ms.length : Int) + 1 by rw [B7]; rfl]) ?_; refine d6 (u7 (d4 (i4 (b7 rfl (n0 rfl rfl ?_)))))
  first | refine b3 ⟨_, 0, none⟩ rfl rfl p6 rfl ?_ | refine b3 _ rfl rfl p6 rfl ?_
  refine yT dR rfl rfl (dP g p.2.1 ((ms ++ [m]).length : Int) (rdV o' (ms ++ [m])) (by omega)) (hpR := og' ++ [(gb, Obj.cells #[.bool false] U6 (0, 0)), (ga, Obj.cells #[int 0] I6 (0, 0))]) (.refl _) tK (fun _ hy => by
    obtain rfl : R = ((ms ++ [m]), false) := hc.symm.trans (hz6 hy.1 hl1 hy.2)
    repeat (first | refine O7 ?_ | refine X5 ?_)
    refine cz6 (bj5 ga gb (((ms ++ [m])).length : Int) 0 false) (.inr (.inr ⟨_, rfl, rfl⟩)) H0 I5 (.inr ⟨_, rfl⟩) rfl (hpR := rdH g (p.2.1) (((ms ++ [m])).length : Int) (o') ((ms ++ [m])) (og')) (dx1 (ga, Obj.cells #[int 0] I6 (0, 0)) (gb, Obj.cells #[.bool false] U6 (0, 0)) (rdH g (p.2.1) (((ms ++ [m])).length : Int) (o') ((ms ++ [m])) (og'))) tK fun _ _ => ?_
    exact gV (p.2.1, (((ms ++ [m])).length : Int), o', og') (fun a w ha hw => P5 (v1 := int (((ms ++ [m])).length : Int)) (v2 := .bool false) rfl rfl rfl a9 cK (i5 mB rfl) (i5 mB rfl) a w ha.sz ha.at_ hw) rfl hG' (List.sublist_append_right _ _) tK) ?_
  refine fun p1 hp1 => ?_; refine b7 rfl (j6 rfl rfl rfl (j6 rfl rfl rfl (c3 rfl (c3 rfl (d6 ?_)))))
  have hn1 : p.2.1 = [] ∨ 1 ≤ n := by
    by_cases h : p.2.1 = []
    · exact .inl h
    have := List.length_pos_iff.2 h; exact .inr (by omega)
  have hI1 : p.2.1.length ≤ n ∧ (p.2.1 = [] ∨ 1 ≤ n) := ⟨hl1, hn1⟩; exact again _ (n - 1, p1, ms ++ [m], o', og') (sz0 (hc.trans hR.symm) hl1 hm1 hG' hx hp1) (all_mu hmore hp1 hn1) mC (.refl _) tK
 have hb1' := hb1; try simp at hb1'
 have hmore : p.2.2 = false := by simpa using hb1
 rw [pz0 hmore] at hc; subst hc; refine s9 (E4 (u6 (d4 (c7 ?_)))); refine A4 rfl rfl (wN _ _ _) J2 (by rfl) (by rfl) (A4 rfl rfl (List.perm_append_comm (l₁ := _ :: _) (l₂ := [_])) jU (by rfl) (by rfl) ?_); refine b8 (l4 ?_); refine cz6 (sz1 ga gb 0 true) (.inl ⟨rfl, rfl⟩) H0 I5 (.inl rfl) rfl (hpR := rdH g p.2.1 (ms.length : Int) o ms og) (.swap _ _ _) tK fun _ _ => ?_; exact gV (p.2.1, (ms.length : Int), o, og) (fun a w ha hw => P5 (v1 := int 0) (v2 := .bool true) rfl rfl rfl a9 cK (i5 mB rfl) (i5 mB rfl) a w ha.sz ha.at_ hw) rfl hG (List.sublist_append_right _ _) tK
theorem nT (x : Str) (hx : x.length ≤ 1000000) : Meets prog aY [str x] { val := fun y : OutC => .tuple #[.slice y.1 (readE x).1.length y.2, int (readE x).2.1, int (readE x).2.2], LO := fun y => [Row y.1 (rows (readE x).1)] } := by
 refine i3 cq1 rfl q6 fun w0 => ?_; refine c7 (c3 rfl (c3 rfl (c3 rfl (b8 (c8 (c7 (b7 rfl ?_))))))); refine A7 rfl l7 rfl ?_; refine M5 rfl rfl rfl (b8 ?_)
 first | refine k8 rfl (fun hb1 => ?_) (fun hb1 => ?_) | refine d9 rfl (fun hb1 => ?_) (fun hb1 => ?_)
 ·have hb1' := hb1; try simp at hb1'
  have hE : readE x = ([], 0, 10) := by rw [readE, if_pos (by omega)]
  rw [hE]; refine c7 (c3 rfl (c3 rfl (c3 rfl (b8 (D4 ?_))))); refine M0 (α := Mk) ?_; exact ret3 (none, 0) rfl rfl rfl rfl rfl rfl tK nK ⟨m0, tK⟩
 have hb1' := hb1; try simp at hb1'
 have hx6 : ¬ 160 < x.length := by omega
 refine d8 (d4 (c7 (b7 rfl ?_))); refine A9 _ rfl rfl (fun _ => wD ..) (A9 _ rfl rfl (fun _ => sW ..) (aJ rfl rfl fun gr => ?_)); refine c3 rfl (b8 (c8 (c7 (b7 rfl ?_)))); refine d5 rG rfl rfl (qQ gr x (by omega)) (.refl _) tK fun y hy => ?_; have hEq : readE x = (if (readR x).2 = false then ([], ((readR x).1.length : Int), 2) else if 12 < (readR x).1.length then ([], 0, 6) else ((readR x).1, 0, 0) : List Mk × Int × Int) := by unfold readE; rw [if_neg hx6]; rfl
 obtain ⟨y1, y2, o, og⟩ := y; simp only at hy; obtain ⟨ms, bo, hR⟩ : ∃ ms bo, readR x = (ms, bo) := ⟨_, _, rfl⟩; have hG : GrowM o ms og := by rw [hR] at hy; exact hy
 have hml : ms.length ≤ 1000 := by have := hz5 x.length x []; rw [show readF x.length x [] = (ms, bo) from hR] at this; simp at this; omega
 rw [hR] at hEq; simp only at hEq; clear hy; refine yS (hp' := rdH gr y1 y2 o ms og) (by show rdH gr y1 y2 o (readR x).1 og ++ [] = _; rw [hR, List.append_nil]) ?_; refine hl_sub (L' := []) (fr' := [(5, .pointer (k5 gr)), (17, .tuple #[int (if bo = true then 0 else (ms.length : Int)), .bool bo])]) ⟨rfl, by show some (Value.tuple #[int (if (readR x).2 = true then 0 else ((readR x).1.length : Int)), .bool (readR x).2]) = _; rw [hR], tK⟩ (.refl _) tK ?_; refine b7 rfl (j6 rfl rfl rfl (j6 rfl rfl rfl (c3 rfl (c3 rfl (n7 (b7 rfl (cO rfl rfl (d6 ?_)))))))); refine d4 ?_
 first | refine k8 rfl (fun hb2 => ?_) (fun hb2 => ?_) | refine d9 rfl (fun hb2 => ?_) (fun hb2 => ?_)
 ·have hb2' := hb2; try simp at hb2'
  have hbo : bo = false := by simpa using hb2
  subst hbo; have hE : readE x = ([], (ms.length : Int), 2) := by rw [hEq, if_pos rfl]
  rw [hE]; refine c7 (b7 rfl (c3 rfl (c3 rfl (c3 rfl (b8 (D4 ?_)))))); refine M0 (α := Mk) ?_; exact ret3 (none, 0) rfl rfl rfl rfl rfl rfl tK nK ⟨m0, tK⟩
 have hb2' := hb2; try simp at hb2'
 have hbo : bo = true := by simpa using hb2
 subst hbo; rw [if_neg (by simp)] at hEq; refine d8 (d4 (c8 (c7 (b7 rfl (n0 rfl rfl ?_)))))
 first | refine b3 ⟨_, 2, none⟩ rfl rfl B5 rfl ?_ | refine b3 _ rfl rfl B5 rfl ?_
 first | refine b6 rfl i6 rfl (i5 mB rfl) ?_ | refine b6 rfl i6 rfl (j4 mB rfl) ?_ | refine b6 rfl i6 rfl (i9 mB (d7 (by omega) rfl)) ?_ | refine b6 rfl i6 rfl (i7 mB (rows_get (by omega) rfl)) ?_
 refine l8 rfl l9 rfl ?_; refine M5 rfl rfl rfl (b8 ?_)
 first | refine k8 rfl (fun hb3 => ?_) (fun hb3 => ?_) | refine d9 rfl (fun hb3 => ?_) (fun hb3 => ?_)
 ·have hb3' := hb3; try simp at hb3'
  have hE : readE x = ([], 0, 6) := by rw [hEq, if_pos (by omega)]
  rw [hE]; refine c7 (c3 rfl (c3 rfl (c3 rfl (b8 (D4 ?_))))); refine M0 (α := Mk) ?_; exact ret3 (none, 0) rfl rfl rfl rfl rfl rfl tK nK ⟨m0, tK⟩
 have hb3' := hb3; try simp at hb3'
 have hE : readE x = (ms, 0, 0) := by rw [hEq, if_neg (by omega)]
 rw [hE]; refine d8 (d4 (c7 (b7 rfl (n0 rfl rfl ?_))))
 first | refine b3 ⟨_, 2, none⟩ rfl rfl B5 rfl ?_ | refine b3 _ rfl rfl B5 rfl ?_
 first | refine b6 rfl i6 rfl (i5 mB rfl) ?_ | refine b6 rfl i6 rfl (j4 mB rfl) ?_ | refine b6 rfl i6 rfl (i9 mB (d7 (by omega) rfl)) ?_ | refine b6 rfl i6 rfl (i7 mB (rows_get (by omega) rfl)) ?_
 refine c3 rfl (c3 rfl (c3 rfl (b8 (l4 ?_)))); refine jq3 (List.perm_append_comm (l₁ := [_])) (dz2 hG ?_); exact ret3 o rfl rfl rfl rfl rfl rfl tK nK ⟨m0, tK⟩
end Go.Proofs.YtpfbbggmcbhboaaGreatDoor
end
section
namespace Go.W
open Go Go.RowKit
def byteV (s : Str) : List Value := s.map fun b => Value.int .u8 b.toNat
theorem jx4 (s t : Str) : byteV (s ++ t) = byteV s ++ byteV t := List.map_append
theorem xT (s : Str) : Lib.strCells ⟨s.toArray⟩ = byteV s := by simp [Lib.strCells, byteV]
section
variable {L : List Fact} {hp : Hp}
theorem qq2 {b : Bx} {w w' : World} {g' : Nat} {o : Obj} (hpw : WI b w hp L) (h1 : w'.os = w.os) (h2 : w'.tape = w.tape) (h3 : w'.output = w.output) (h4 : w.heap.size ≤ w'.heap.size) (h5 : 0 ≤ 0) (hge : w.heap.size ≤ g') (hg' : w'.heap[g']? = some o)
    (hkeep : ∀ k, k < w.heap.size → (∃ p ∈ hp, p.1 = k) ∨ (∃ F ∈ L, F.fp k) ∨ (k < b.w0.heap.size ∧ k ∉ b.S0) → w'.heap[k]? = w.heap[k]?) : WI b w' ((g', o) :: hp) L := by
  have hne : ∀ p ∈ hp, p.1 ≠ g' := fun p hp e => by have := E1 (hpw.own p hp); omega
  refine { ext := ⟨h1.trans hpw.ext.os, h2.trans hpw.ext.tape, h3.trans hpw.ext.output, Nat.le_trans hpw.ext.size h4, fun k hk hn => ?_, Nat.le_refl _⟩, own := ?_, nd := ?_, s0 := ?_, fs := ?_, ap := ?_, al := hpw.al }
  · exact (hkeep k (Nat.lt_of_lt_of_le hk hpw.ext.size) (.inr (.inr ⟨hk, hn⟩))).trans (hpw.ext.block k hk hn)
  · intro p hp
    rcases List.mem_cons.1 hp with rfl | hp
    · exact hg'
    exact (hkeep p.1 (E1 (hpw.own p hp)) (.inl ⟨p, hp, rfl⟩)).trans (hpw.own p hp)
  · simp only [List.map_cons, List.nodup_cons]
    exact ⟨fun hm => by obtain ⟨p, hp, e⟩ := List.mem_map.1 hm; exact hne p hp e, hpw.nd⟩
  · intro p hp
    rcases List.mem_cons.1 hp with rfl | hp
    · right
      show b.w0.heap.size ≤ g'; exact Nat.le_trans hpw.ext.size hge
    exact hpw.s0 p hp
  · intro F hF
    exact F.st w w' (fun k hk => hkeep k (F.lt w (hpw.fs F hF) k hk) (.inr (.inl ⟨F, hF, hk⟩))) (hpw.fs F hF)
  intro F hF p hp hk
  rcases List.mem_cons.1 hp with rfl | hp
  · have := F.lt w (hpw.fs F hF) _ hk
    simp only at this
    omega
  exact hpw.ap F hF p hp hk
structure ElS (P : Program) (t u e : TypeId) : Prop where
  tu : P.underlying t = some (.slice e)
  ts : P.underlying u = some .string
  ti : ∃ i, P.info? e = some i ∧ i.zero = some (.int .u8 0) ∧ i.size = 1 ∧ i.bytes = 1
theorem ElS.of {P : Program} {t u e : TypeId} (h : P.underlying t = some (.slice e)) (hs : P.underlying u = some .string) (hi : (P.info? e).map (fun i => (i.zero, i.size, i.bytes)) = some (some (.int .u8 0), 1, 1)) : ElS P t u e := by
  obtain ⟨i, h1, h2, h3, h4⟩ := info_parts hi; exact ⟨h, hs, ⟨i, h1, h2, h3, h4⟩⟩
theorem cx9 {b : Bx} {P : Program} {w : World} {t u e : TypeId} {n cap : Nat} {A : Option Addr} {xs : List Value} {og : Hp} (el : ElS P t u e) (hG : Grow e 1 A n cap xs og) (hw : WI b w (og ++ hp) L) (s : Str)
    (hn : n + s.length ≤ maxLen) (hby : n + s.length ≤ 140737488355328) (ty : TypeId) :
    ∃ A' cap' og' w', (Builtin.append_ #[t, u] ty #[.slice A n cap, str s]).run P w = .ok (.slice A' (n + s.length) cap') w' ∧ Grow e 1 A' (n + s.length) cap' (xs ++ byteV s) og' ∧ WI b w' (og' ++ hp) L := by
  obtain ⟨i, hi, hz, hsz, hb⟩ := el.ti; have hsize : (ByteArray.mk s.toArray).size = s.length := rfl; have hxl : xs.length = n := by simpa using hG.1
  rcases hG with ⟨hl, ⟨rfl, rfl, rfl, rfl⟩ | ⟨g, cur, rfl, rfl, q1, q2, q3, q4⟩⟩
  · -- onto nil
    obtain ⟨v', w', hrun, hown, h3, _⟩ := Lib.run_append_own_string (P := P) w w.heap.size t u ty e i el.tu el.ts hi hz hsz hb (.slice none 0 0) 0 xs ⟨hl, .inl ⟨rfl, rfl⟩⟩ ⟨s.toArray⟩ hn hby (Nat.le_refl _); rw [hsize, xT] at hown; obtain ⟨hl', ⟨rfl, h0⟩ | ⟨g', cap', cur', rfl, hge, hg', hle, hcm, hcs, htk⟩⟩ := hown
    · refine ⟨none, 0, [], w', ?_, ⟨hl', .inl ⟨rfl, h0, rfl, rfl⟩⟩, hw.quiet ⟨h3.os, h3.tape, h3.output, h3.size, fun k hk _ => h3.block k hk (by simp [Value.ownBlock]), Nat.le_refl _⟩⟩
      rw [h0]; exact hrun
    exact ⟨some ⟨g', 0, none⟩, cap', [(g', .cells cur' e (0, 0))], w', hrun, ⟨hl', .inr ⟨g', cur', rfl, rfl, hle, hcm, hcs, htk⟩⟩, qq2 (by simpa using hw) h3.os h3.tape h3.output h3.size (Nat.le_refl _) hge hg' fun k hk _ => h3.block k hk (by simp [Value.ownBlock])⟩
  have hw' : WI b w ((g, .cells cur e (0, 0)) :: hp) L := by simpa using hw
  have hgw : w.heap[g]? = some (.cells cur e (0, 0)) := hw'.own (g, .cells cur e (0, 0)) (by simp); obtain ⟨v', w', hrun, hown, h3, _⟩ := Lib.run_append_own_string (P := P) w 0 t u ty e i el.tu el.ts hi hz hsz hb (.slice (k5 g) n cap) n xs ⟨hl, .inr ⟨g, cap, cur, rfl, Nat.zero_le _, hgw, q1, q2, q3, q4⟩⟩ ⟨s.toArray⟩ hn hby (Nat.zero_le _); rw [hsize, xT] at hown
  by_cases hr : n + s.length ≤ cap
  · have hx := hrun.symm.trans (Lib.run_append_room_string (P := P) w t u ty e i el.tu el.ts hi hsz g n cap cur hgw ⟨s.toArray⟩ hr (by rw [hsize, q3]; omega))
    obtain ⟨rfl, rfl⟩ : v' = _ ∧ w' = _ := by injection hx with e1 e2; exact ⟨e1, e2⟩
    obtain ⟨hl', ⟨h0, _⟩ | ⟨g', cap', cur', e1, _, hg', hle, hcm, hcs, htk⟩⟩ := hown
    · cases h0
    have e2 : g = g' := by injection e1 with e1; injection e1 with e1; injection e1
    have e3 : cap = cap' := by injection e1
    subst e2; subst e3; exact ⟨some ⟨g, 0, none⟩, cap, [(g, .cells cur' e (0, 0))], _, hrun, ⟨hl', .inr ⟨g, cur', rfl, rfl, hle, hcm, hcs, htk⟩⟩, hw'.write (o' := .cells cur' e (0, 0)) ⟨h3.os, h3.tape, h3.output, h3.size, fun k hk hn => h3.block k hk (by simp [Value.ownBlock]; simpa using hn), Nat.le_refl _⟩ hg'⟩
  have holds : ∀ j v, xs[j]? = some v → w.cell? ((⟨g, 0, none⟩ : Addr).add j) = some v := by
    have ho : w.ownsRow 0 e 1 (.slice (k5 g) n cap) n xs := ⟨hl, .inr ⟨g, cap, cur, rfl, Nat.zero_le _, hgw, q1, q2, q3, q4⟩⟩; exact ho.cells (g := g) rfl
  have hm : maxLen ≤ 9223372036854775807 := by unfold maxLen; omega
  have hx := hrun.symm.trans (Lib.run_append_grow_string (P := P) w t u ty e i (.int .u8 0) el.tu el.ts hi hz ⟨g, 0, none⟩ n cap xs (by rw [hsz]; simpa using hxl) holds ⟨s.toArray⟩ (by rw [hsize]; omega) (by rw [hsize]; omega) (by rw [hb, hsize]; exact growslice_fits (by omega) (by omega))); have e0 : v' = .slice (some ⟨w.heap.size, 0, none⟩) (n + s.length) (grownCap w (n + s.length) cap e) := by injection hx
  obtain ⟨hl', ⟨h0, _⟩ | ⟨g', cap', cur', e1, _, hg', hle, hcm, hcs, htk⟩⟩ := hown
  · rw [h0] at e0; cases e0
  have e2 : g' = w.heap.size := by
    have e3 := e1.symm.trans e0
    injection e3 with e3
    injection e3 with e3
    injection e3
  subst e1; refine ⟨some ⟨g', 0, none⟩, cap', [(g', .cells cur' e (0, 0))], w', hrun, ⟨hl', .inr ⟨g', cur', rfl, rfl, hle, hcm, hcs, htk⟩⟩, qq2 (hw'.weak (List.sublist_cons_self _ _) fun _ h => h) h3.os h3.tape h3.output h3.size (Nat.le_refl _) (by omega) hg' fun k hk hor => h3.block k hk ?_⟩; simp only [Value.ownBlock, ne_eq, Option.some.injEq]; rintro rfl
  rcases hor with ⟨p, hp, e⟩ | ⟨F, hF, hk⟩ | ⟨hk1, hk2⟩
  · have := hw'.nd
    simp only [List.map_cons, List.nodup_cons] at this; exact this.1 (List.mem_map.2 ⟨p, hp, e⟩)
  · exact hw'.ap F hF (k, .cells cur e (0, 0)) (by simp) hk
  rcases hw'.s0 (k, .cells cur e (0, 0)) (by simp) with h6 | h6
  · exact hk2 h6
  simp only at h6; omega
end
section
variable {c : Cx} {Q : Exit → Act → World → Prop} {fr : Fr} {hp : Hp} {L : List Fact} {ops : Array Oper} {rest : List Oper}
variable {d : Tmp} {ty : TypeId} {pos : String} {af : Array Edge}
theorem jj1 {t u e : TypeId} {x y : Operand} {n cap : Nat} {A : Option Addr} {xs : List Value} {s : Str} {og hp' : Hp} (n' : Nat) (xs' : List Value) (el : ElS c.P t u e) (hd : Nat.blt d c.n = true)
    (hx : ev fr x = some (.slice A n cap)) (hy : ev fr y = some (str s)) (hG : Grow e 1 A n cap xs og) (hpp : hp.Perm (og ++ hp')) (hn' : n + s.length = n') (hxs : xs ++ byteV s = xs') (hn : n' ≤ 140737488355328)
    (k : ∀ A' cap' og', Grow e 1 A' n' cap' xs' og' → HL c ops Q rest ((d, .slice A' n' cap') :: fr) (og' ++ hp') L) :
    HL c ops Q (⟨some d, .call ⟨.builtin .append, #[x, y], #[t, u]⟩, ty, pos, af, none⟩ :: rest) fr hp L :=
  tP rfl rfl hd fun a w ha hw => by
    subst hn'; subst hxs; obtain ⟨A', cap', og', w', hrun, hG', hw'⟩ := cx9 el hG (hw.perm hpp) s (by unfold maxLen; omega) hn ty; refine ⟨_, w', _, L, ?_, hw', k A' cap' og' hG'⟩; simp only [execOp, resolve, invoke, builtin, Sem.run_bind, Sem.run_pure, Result.andThen_ok, List.map_toArray, List.map_cons, List.map_nil, ha.ev hx, ha.ev hy, hrun]
theorem lz3 {s t te e : TypeId} {x : Operand} {g : Nat} {cs : Array Value} {fz : Nat × Nat} (hd : Nat.blt d c.n = true) (hs : c.P.underlying s = some (.pointer te)) (ht : c.P.underlying t = some .unsafePointer) (hi : (c.P.info? te).map (·.size) = some cs.size) (h0 : 0 < cs.size)
    (hx : ev fr x = some (.pointer (k5 g))) (hm : (g, Obj.cells cs e fz) ∈ hp) (k : HL c ops Q rest ((d, .pointer (k5 g)) :: fr) hp L) : HL c ops Q (⟨some d, .convert s t x, ty, pos, af, none⟩ :: rest) fr hp L :=
  u5 _ rfl rfl hd (fun a w ha hw => by
    obtain ⟨j, hj, hjs⟩ := Option.map_eq_some_iff.1 hi; have hg : w.heap[g]? = some (.cells cs e fz) := hw.own _ hm; have hrun := Lib.run_to_unsafe w ⟨g, 0, none⟩ hs ht hj (by omega) (e := e) (cells := cs.size) (by simp [World.shape?, hg]) h0
    simp only [execOp, ha.ev hx, Sem.run_bind, hrun, Result.andThen_ok, Sem.run_pure]) k
theorem iz9 {s t te e : TypeId} {x : Operand} {g : Nat} {cs : Array Value} {fz : Nat × Nat} (hd : Nat.blt d c.n = true) (hs : c.P.underlying s = some .unsafePointer) (ht : c.P.underlying t = some (.pointer te)) (hi : (c.P.info? te).map (·.size) = some cs.size) (hl : liesAt c.P c.P.depth e (cs.size / c.P.cellsOf e) 0 te 1 = true)
    (hx : ev fr x = some (.pointer (k5 g))) (hm : (g, Obj.cells cs e fz) ∈ hp) (k : HL c ops Q rest ((d, .pointer (k5 g)) :: fr) hp L) : HL c ops Q (⟨some d, .convert s t x, ty, pos, af, none⟩ :: rest) fr hp L :=
  u5 _ rfl rfl hd (fun a w ha hw => by
    obtain ⟨j, hj, hjs⟩ := Option.map_eq_some_iff.1 hi; have hg : w.heap[g]? = some (.cells cs e fz) := hw.own _ hm; have hrun := Lib.run_from_unsafe w ⟨g, 0, none⟩ hs ht hj (e := e) (cells := cs.size) (by simp [World.shape?, hg]) hl
    simp only [execOp, ha.ev hx, Sem.run_bind, hrun, Result.andThen_ok, Sem.run_pure]) k
theorem kq8 {t te yt : TypeId} {x y : Operand} {p : Addr} (hd : Nat.blt d c.n = true) (ht : c.P.underlying t = some (.pointer te)) (hi : (c.P.info? te).isSome = true) (hx : ev fr x = some (.pointer (some p))) (hy : ev fr y = some (.pointer (some p)))
    (k : HL c ops Q rest ((d, .bool false) :: fr) hp L) : HL c ops Q (⟨some d, .binOp .neq t x y yt, ty, pos, af, none⟩ :: rest) fr hp L :=
  u5 _ rfl rfl hd (fun a' w ha _ => by
    obtain ⟨j, hj⟩ := Option.isSome_iff_exists.1 hi
    exact M9 (ha.ev hx) (ha.ev hy) rfl (Lib.run_neq_ptr_same w p ht hj)) k
theorem mq1 {P : Program} {w : World} {tp te : TypeId} {p : Option Addr} (hp : P.underlying tp = some (.pointer te)) : (binOp .eql tp (.pointer p) (.pointer none)).run P w = .ok (.bool (p == none)) w := by
  have h : ∀ d : Nat, (Op.equalIn (d + 1) tp (.pointer p) (.pointer none)).run P w = .ok (p == none) w := fun d => by
    cases p <;> simp [Op.equalIn, run_underlying hp]
  simp only [binOp]
  simp [Op.equal, Op.maxDepth, h 9999]
theorem hz7 {t te yt : TypeId} {x y : Operand} {p : Option Addr} (hd : Nat.blt d c.n = true) (ht : c.P.underlying t = some (.pointer te)) (hx : ev fr x = some (.pointer p)) (hy : ev fr y = some (.pointer none))
    (k : HL c ops Q rest ((d, .bool (p == none)) :: fr) hp L) : HL c ops Q (⟨some d, .binOp .eql t x y yt, ty, pos, af, none⟩ :: rest) fr hp L :=
  u5 _ rfl rfl hd (fun a' w ha _ => M9 (ha.ev hx) (ha.ev hy) rfl (mq1 ht)) k
theorem kq6 {t pt : TypeId} {x : Operand} {A : Addr} {n cap : Nat} (hd : Nat.blt d c.n = true) (hx : ev fr x = some (.slice (some A) n cap)) (hc : cap ≠ 0) (k : HL c ops Q rest ((d, .pointer (some A)) :: fr) hp L) :
    HL c ops Q (⟨some d, .call ⟨.builtin .unsafeSliceData, #[x], #[t]⟩, ty, pos, af, none⟩ :: rest) fr hp L :=
  u5 _ rfl rfl hd (fun a w ha hw => by
    simp only [execOp, resolve, invoke, builtin, Sem.run_bind, Sem.run_pure, Result.andThen_ok, List.map_toArray, List.map_cons, List.map_nil, ha.ev hx, Lib.run_unsafeSliceData_row _ _ _ _ _ _ hc]) k
theorem dq3 {pt it e : TypeId} {x y : Operand} {g cap : Nat} {s : Str} {og hp' : Hp} (hd : Nat.blt d c.n = true) (hp0 : c.P.underlying pt = some (.pointer e)) (hc : c.P.cellsOf e = 1) (h0 : s ≠ [])
    (hx : ev fr x = some (.pointer (k5 g))) (hy : ev fr y = some (int s.length)) (hG : Grow e 1 (k5 g) s.length cap (byteV s) og) (hpp : hp.Perm (og ++ hp'))
    (k : HL c ops Q rest ((d, str s) :: fr) hp' L) : HL c ops Q (⟨some d, .call ⟨.builtin .unsafeString, #[x, y], #[pt, it]⟩, ty, pos, af, none⟩ :: rest) fr hp L :=
  tP rfl rfl hd fun a w ha hw => by
    have hw1 := hw.perm hpp
    rcases hG with ⟨hl, ⟨h, _⟩ | ⟨g', cur, e1, rfl, q1, q2, q3, q4⟩⟩
    · cases h
    obtain rfl : g = g' := by injection e1 with e1; injection e1
    have hw2 : WI c.b w ((g, .cells cur e (0, 0)) :: hp') L := by simpa using hw1
    have hg : w.heap[g]? = some (.cells cur e (0, 0)) := hw2.own (g, .cells cur e (0, 0)) (by simp); have ho : w.ownsRow 0 e 1 (.slice (k5 g) s.length cap) s.length (byteV s) := ⟨hl, .inr ⟨g, cap, cur, rfl, Nat.zero_le _, hg, q1, q2, q3, q4⟩⟩; have hm : maxLen ≤ 9223372036854775807 := by unfold maxLen; omega
    have hrun := Lib.run_unsafeString_row (P := c.P) w pt it ty e hp0 hc g cur.size (by simp [World.shape?, hg]) s h0 (by omega) (by omega) (fun j x hx => ho.cells (g := g) rfl j (.int .u8 x.toNat) (by simp [byteV, hx])); refine ⟨str s, w.freeze ⟨g, 0, none⟩ s.length, hp', L, ?_, ?_, k⟩
    · simp only [execOp, resolve, invoke, builtin, Sem.run_bind, Sem.run_pure, Result.andThen_ok, List.map_toArray, List.map_cons, List.map_nil, ha.ev hx, ha.ev hy]
      exact congrArg (fun r => Result.andThen r _) hrun
    have hl0 : s.length ≠ 0 := by simpa using h0
    have hget : ∀ k, (w.freeze ⟨g, 0, none⟩ s.length).heap[k]? = if g = k then some (.cells cur e (0, s.length)) else w.heap[k]? := fun k => by
      unfold World.freeze; rw [if_neg hl0]; simp only [Array.getElem?_modify]
      split
      · rename_i e1
        subst e1
        simp [hg]
      rfl
    have hsame : (w.freeze ⟨g, 0, none⟩ s.length).os = w.os ∧ (w.freeze ⟨g, 0, none⟩ s.length).tape = w.tape ∧ (w.freeze ⟨g, 0, none⟩ s.length).output = w.output ∧ w.heap.size ≤ (w.freeze ⟨g, 0, none⟩ s.length).heap.size ∧ w.drawn ≤ (w.freeze ⟨g, 0, none⟩ s.length).drawn := by
      unfold World.freeze; rw [if_neg hl0]; exact ⟨rfl, rfl, rfl, by simp, Nat.le_refl _⟩
    exact (hw2.write (o' := .cells cur e (0, s.length)) ⟨hsame.1, hsame.2.1, hsame.2.2.1, hsame.2.2.2.1, fun k hk hn => by rw [hget, if_neg (fun e => hn (by simp [e]))], Nat.le_refl _⟩ (by rw [hget, if_pos rfl])).weak (List.sublist_cons_self _ _) fun _ h => h
end
end Go.W
end
section
namespace Go.Proofs.YtpfbbggmcbhboaaGreatDoor
open Go Go.W Tryz T F
set_option maxRecDepth 20000
attribute [local irreducible] HL HC HQ HB Row Rows2 Blk Facts
theorem el_str : ElS prog qF z3 kj2 := ElS.of underlying89 l7 n5
abbrev bldO (g : Nat) (P : Option Addr) (A : Option Addr) (n cap : Nat) : Nat × Obj := (g, Obj.cells #[.pointer P, .slice A n cap] vZ (0, 0))
theorem jj3 (v : Value) (w : World) : (callFunc 93 [v].toArray).run prog w = .ok (.value v) w := by
  show (callFunc 93 #[v]).run prog w = _; rw [run_callFunc_extern func93 n5 n5 n5 (e := Extern.AbiNoEscape.same) n5]
  rfl
theorem gz9 (v : Value) (w : World) : ∀ e ∈ (callFunc 93 [v].toArray).events prog w #[], Go.W.Calm e :=
  bx3 func93 n5 n5 n5 (e := Extern.AbiNoEscape.same) n5 #[v] (show Quiet (pure v) from tK) w
theorem bj0 (g : Nat) (A : Option Addr) (n cap : Nat) : Meets prog B8 [.pointer (k5 g)] { hpI := [bldO g none A n cap], hpO := fun _ => [bldO g (k5 g) A n cap], val := fun _ : Unit => .tuple #[] } := by
 refine i3 R8 rfl q6 fun w0 => ?_; refine c7 (b7 rfl (n0 rfl rfl ?_)); refine b3 ⟨g, 0, none⟩ rfl rfl J4 rfl (b6 (v := .pointer none) rfl N7 rfl (i5 m0 rfl) (hz7 rfl underlying91 rfl rfl (b8 (c_t rfl sx6 ?_)))); refine i4 (b7 rfl (b7 rfl ?_)); refine lz3 (cs := #[.pointer none, .slice A n cap]) rfl underlying91 underlying161 n5 (show 0 < 2 by decide) rfl m0 (ij3 rfl rfl (jj3 _) (gz9 _) (iz9 (cs := #[.pointer none, .slice A n cap]) rfl underlying161 underlying91 n5 n5 rfl m0 (n0 rfl rfl (b3 ⟨g, 0, none⟩ rfl rfl J4 rfl (A4 rfl rfl (.refl _) nD (by rfl) (by rfl) (d6 ?_)))))); exact ret0n () rfl rfl rfl tK (.refl _) tK
theorem az9 (g : Nat) (A : Option Addr) (n cap : Nat) : Meets prog B8 [.pointer (k5 g)] { hpI := [bldO g (k5 g) A n cap], hpO := fun _ => [bldO g (k5 g) A n cap], val := fun _ : Unit => .tuple #[] } := by
 refine i3 R8 rfl q6 fun w0 => ?_; refine c7 (b7 rfl (n0 rfl rfl ?_)); refine b3 ⟨g, 0, none⟩ rfl rfl J4 rfl (b6 (v := .pointer (k5 g)) rfl N7 rfl (i5 m0 rfl) (hz7 rfl underlying91 rfl rfl (b8 (c_f rfl gq7 ?_)))); refine c7 (b7 rfl (n0 rfl rfl ?_)); refine b3 ⟨g, 0, none⟩ rfl rfl J4 rfl (b6 (v := .pointer (k5 g)) rfl N7 rfl (i5 m0 rfl) (b7 rfl (kq8 rfl underlying91 n5 rfl rfl (b8 (c_f rfl gq7 (d8 ?_)))))); exact ret0n () rfl rfl rfl tK (.refl _) tK
theorem cx8 (g : Nat) (P A : Option Addr) (n cap : Nat) (h : P = none ∨ P = some ⟨g, 0, none⟩) : Meets prog B8 [.pointer (k5 g)] { hpI := [bldO g P A n cap], hpO := fun _ => [bldO g (k5 g) A n cap], val := fun _ : Unit => .tuple #[] } := by
  rcases h with rfl | rfl
  · exact bj0 g A n cap
  exact az9 g A n cap
structure Bld (g : Nat) (s : Str) (P A : Option Addr) (cap : Nat) (og : Hp) : Prop where
  p : P = none ∨ P = some ⟨g, 0, none⟩
  g : Grow kj2 1 A s.length cap (byteV s) og
theorem Bld.new (g : Nat) : Bld g [] none none 0 [] := ⟨.inl rfl, Grow.nil _ _⟩
abbrev BSt := Option Addr × Nat × Hp
abbrev bldH (g : Nat) (s : Str) (P : Option Addr) (x : BSt) : Hp := bldO g P x.1 s.length x.2.1 :: x.2.2
theorem Y0 (g : Nat) (s t : Str) (P : Option Addr) (x : BSt) (hb : Bld g s P x.1 x.2.1 x.2.2) (hl : s.length + t.length ≤ 140737488355328) : Meets prog H8 [.pointer (k5 g), str t] { hpI := bldH g s P x, inv := fun y : BSt => Bld g (s ++ t) (k5 g) y.1 y.2.1 y.2.2, hpO := fun y => bldH g (s ++ t) (k5 g) y, val := fun _ => .tuple #[int t.length, .nilIface] } := by
 obtain ⟨A, cap, og⟩ := x; obtain ⟨hP, hG⟩ := hb; simp only at hG; refine i3 cW rfl q6 fun w0 => ?_; refine c7 (c3 rfl (c3 rfl (n7 (b7 rfl ?_)))); refine d5 dK rfl rfl (cx8 g P A s.length cap hP) l6 tK fun _ _ => ?_; refine n7 (b7 rfl (b7 rfl (n0 rfl rfl ?_))); refine b3 ⟨g, 1, none⟩ rfl rfl C5 rfl (b6 (v := .slice A s.length cap) rfl V8 rfl (i5 m0 rfl) (b7 rfl ?_)); refine jj1 (hp' := [bldO g (k5 g) A s.length cap]) (s ++ t).length (byteV (s ++ t)) el_str rfl rfl rfl hG (List.perm_append_comm (l₁ := [_])) List.length_append.symm (jx4 _ _).symm (by rw [List.length_append]; exact hl) fun A2 c2 o2 hG2 => ?_; refine n0 rfl rfl (b3 ⟨g, 1, none⟩ rfl rfl C5 rfl (A4 (hp' := o2) rfl rfl (List.perm_append_comm (l₂ := [_])) gx6 (by rfl) (by rfl) ?_)); refine n7 (b7 rfl ?_); refine A7 rfl l7 rfl ?_; refine c3 rfl (c3 rfl (b8 (l4 ?_))); exact ret2 (A2, c2, o2) rfl rfl rfl rfl rfl ⟨.inr rfl, hG2⟩ (.refl _) tK
theorem jx8 (g : Nat) (s : Str) (P : Option Addr) (x : BSt) (hb : Bld g s P x.1 x.2.1 x.2.2) (h0 : s ≠ []) : Meets prog G8 [.pointer (k5 g)] { hpI := bldH g s P x, val := fun _ : Unit => str s } := by
 obtain ⟨A, cap, og⟩ := x; obtain ⟨hP, hG⟩ := hb; simp only at hG; have hle := hG.le; have hs0 : s.length ≠ 0 := by simpa using h0
 obtain ⟨gb, rfl⟩ : ∃ gb : Nat, A = some ⟨gb, 0, none⟩ := by
   rcases hG.2 with ⟨_, h, _⟩ | ⟨gb, _, h, _⟩
   · exact absurd h hs0
   exact ⟨gb, h⟩
 refine i3 X6 rfl q6 fun w0 => ?_; refine c7 (c3 rfl (b8 (c8 (O6 ?_)))); refine V3 10 mixed (by decide) (by decide) rfl rfl (v0 rfl (u9 (fun w1 => n0 rfl rfl (q_z rfl)) (u9 (fun w1 => b3 ⟨g, 1, none⟩ rfl rfl C5 rfl (q_z rfl)) (u9 (fun w1 => b6 (v := .slice (k5 gb) s.length cap) rfl V8 rfl (j4 (List.mem_append_right _ List.mem_cons_self) rfl) (q_z rfl)) (u9 (fun w1 => kq6 (pt := lx3) rfl rfl (by omega) (q_z rfl)) (v0 rfl (u9 (fun w1 => n0 rfl rfl (q_z rfl)) (u9 (fun w1 => b3 ⟨g, 1, none⟩ rfl rfl C5 rfl (q_z rfl)) (u9 (fun w1 => b6 (v := .slice (k5 gb) s.length cap) rfl V8 rfl (j4 (List.mem_append_right _ List.mem_cons_self) rfl) (q_z rfl)) (u9 (fun w1 => l8 rfl A5 rfl (q_z rfl)) ?_)))))))))); refine E8 ⟨rfl, ?_⟩; refine dq3 (hp' := []) rfl underlying137 n5 h0 rfl rfl hG (by show List.Perm ([] ++ og) (og ++ []); rw [List.append_nil, List.nil_append]) ?_; refine c3 rfl (b8 (l4 ?_)); exact ret1 () rfl rfl rfl tK nK tK
section
variable {c : Cx} {Q : Exit → Act → World → Prop} {fr : Fr} {hp : Hp} {L : List Fact} {ops : Array Oper} {rest : List Oper} {d : Tmp} {ty : TypeId} {pos : String} {af : Array Edge}
theorem iz7 {t : TypeId} {x : Operand} {n cap : Nat} (hd : Nat.blt d c.n = true) (hx : ev fr x = some (.slice none n cap)) (k : HL c ops Q rest ((d, .pointer none) :: fr) hp L) :
    HL c ops Q (⟨some d, .call ⟨.builtin .unsafeSliceData, #[x], #[t]⟩, ty, pos, af, none⟩ :: rest) fr hp L :=
  u5 _ rfl rfl hd (fun a w ha hw => by
    simp only [execOp, resolve, invoke, builtin, Sem.run_bind, Sem.run_pure, Result.andThen_ok, List.map_toArray, List.map_cons, List.map_nil, ha.ev hx]
    rfl) k
theorem bz6 {pt it : TypeId} {x y : Operand} (hd : Nat.blt d c.n = true) (hx : ev fr x = some (.pointer none)) (hy : ev fr y = some (int (0 : Nat))) (k : HL c ops Q rest ((d, str []) :: fr) hp L) :
    HL c ops Q (⟨some d, .call ⟨.builtin .unsafeString, #[x, y], #[pt, it]⟩, ty, pos, af, none⟩ :: rest) fr hp L :=
  u5 _ rfl rfl hd (fun a w ha hw => by
    simp only [execOp, resolve, invoke, builtin, Sem.run_bind, Sem.run_pure, Result.andThen_ok, List.map_toArray, List.map_cons, List.map_nil, ha.ev hx, ha.ev hy]
    rfl) k
end
theorem hj9 (g : Nat) : Meets prog G8 [.pointer (k5 g)] { hpI := [bldO g none none 0 0], val := fun _ : Unit => str [] } := by
 refine i3 X6 rfl q6 fun w0 => ?_; refine c7 (c3 rfl (b8 (c8 (O6 ?_)))); refine V3 10 mixed (by decide) (by decide) rfl rfl (v0 rfl (u9 (fun w1 => n0 rfl rfl (q_z rfl)) (u9 (fun w1 => b3 ⟨g, 1, none⟩ rfl rfl C5 rfl (q_z rfl)) (u9 (fun w1 => b6 (v := .slice none 0 0) rfl V8 rfl (j4 m0 rfl) (q_z rfl)) (u9 (fun w1 => iz7 rfl rfl (q_z rfl)) (v0 rfl (u9 (fun w1 => n0 rfl rfl (q_z rfl)) (u9 (fun w1 => b3 ⟨g, 1, none⟩ rfl rfl C5 rfl (q_z rfl)) (u9 (fun w1 => b6 (v := .slice none 0 0) rfl V8 rfl (j4 m0 rfl) (q_z rfl)) (u9 (fun w1 => l8 rfl A5 rfl (q_z rfl)) ?_)))))))))); refine E8 ⟨rfl, ?_⟩; refine bz6 rfl rfl rfl (c3 rfl (b8 (l4 ?_))); exact ret1 () rfl rfl rfl tK nK tK
def kindS (k : Int) : Str := (K4.drop k.toNat).take (k.toNat + 1 - k.toNat)
def wrM (m : Mk) : Str := ((kindS m.1 ++ itoaZ m.2.1) ++ (if m.1 = 3 then [] else [32] ++ m.2.2)) ++ [47]
def wrS (l : List Mk) : Str := (l.map wrM).flatten
def wErr (m : Mk) : Int := if m.1 < 1 ∨ 3 < m.1 then 8 else if m.2.1 < 0 ∨ 99 < m.2.1 then 1 else textErr m
def wE (l : List Mk) : Int := if 12 < l.length then 6 else firstErr wErr l
theorem jz3 {l : List Mk} {k : Nat} (hk : k < l.length) : wrS (l.take (k + 1)) = wrS (l.take k) ++ wrM l[k] := by
  unfold wrS; rw [List.take_succ_eq_append_getElem hk, List.map_append, List.flatten_append]
  simp
theorem kz4 (k : Int) : (kindS k).length ≤ 1 := by
  unfold kindS; rw [List.length_take]; omega
theorem kj4 {m : Mk} (h : textErr m = 0) : m.2.2.length ≤ 10 := by
  unfold textErr at h
  split at h
  · unfold lineErr at h
    split at h
    · cases h
    split at h
    · cases h
    omega
  split at h
  · cases h
  rename_i h1
  simp only [Decidable.not_not] at h1; rw [h1]; simp
theorem wErr_ok {m : Mk} (h : wErr m = 0) : (1 ≤ m.1 ∧ m.1 ≤ 3) ∧ (0 ≤ m.2.1 ∧ m.2.1 < 100) ∧ textErr m = 0 := by
  unfold wErr at h
  split at h
  · cases h
  split at h
  · cases h
  exact ⟨by omega, by omega, h⟩
theorem wrM_len {m : Mk} (h : wErr m = 0) : (wrM m).length ≤ 15 := by
  have h1 := kz4 m.1; have h2 := kz5 m.2.1; have h3 := kj4 (wErr_ok h).2.2; unfold wrM; simp only [List.length_append, List.length_cons, List.length_nil]
  split <;> simp only [List.length_append, List.length_cons, List.length_nil] <;> omega
theorem wrS_len {l : List Mk} (h : firstErr wErr l = 0) : (wrS l).length ≤ 15 * l.length := by
  have h1 := W8 h; unfold wrS; clear h
  induction l with
  | nil => simp
  | cons m l ih =>
    have := ih fun a ha => h1 a (List.mem_cons_of_mem _ ha); have h2 := wrM_len (h1 m List.mem_cons_self); simp only [List.map_cons, List.flatten_cons, List.length_append, List.length_cons]
    omega
theorem wrM_ne (m : Mk) : wrM m ≠ [] := by unfold wrM; simp
theorem wrS_ne {l : List Mk} (h : l ≠ []) : wrS l ≠ [] := by
  cases l with
  | nil => exact absurd rfl h
  | cons m l => unfold wrS; simp [wrM_ne]
set_option maxHeartbeats 2000000 in
theorem xZ {A : Option Addr} {ca : Nat} (l : List Mk) (hl : l.length ≤ 1000000) : Meets prog dB [.slice A l.length ca] { LI := [Row A (rows l)], val := fun _ : Unit => .tuple #[str (if wE l = 0 then wrS l else []), int (wE l)] } := by
 refine i3 ax5 rfl q6 fun w0 => ?_; refine c7 (c3 rfl (c3 rfl (b8 (c8 (c7 (b7 rfl ?_)))))); refine l8 rfl l9 rfl ?_; refine M5 rfl rfl rfl (b8 ?_)
 first | refine k8 rfl (fun hb1 => ?_) (fun hb1 => ?_) | refine d9 rfl (fun hb1 => ?_) (fun hb1 => ?_)
 ·have hb1' := hb1; try simp at hb1'
  have hE : wE l = 6 := by rw [wE, if_pos (by omega)]
  refine c7 (c3 rfl (c3 rfl (b8 (D4 ?_)))); exact ret2 () rfl rfl rfl (by rw [hE]; rfl) rfl tK nK tK
 have hb1' := hb1; try simp at hb1'
 have hE : wE l = firstErr wErr l := by rw [wE, if_neg (by omega)]
 refine d8 (d4 (c7 ?_)); refine y9 rfl (fun _ => sE _) fun g => ?_; refine b8 (c8 (c7 (b7 rfl ?_))); refine l8 rfl l9 rfl ?_; refine b7 rfl (b8 (k6 ?_)); refine y6 (β := Nat × Option Addr × BSt) ⟨fun z : Nat × Option Addr × BSt => z.1 ≤ l.length ∧ firstErr wErr (l.take z.1) = 0 ∧ Bld g (wrS (l.take z.1)) z.2.1 z.2.2.1 z.2.2.2.1 z.2.2.2.2 ∧ (z.1 = 0 → z.2 = (none, none, 0, [])), fun z => [(4, .pointer (k5 g)), (11, .slice A l.length ca), (12, int l.length), (13, int z.1)], fun z => bldH g (wrS (l.take z.1)) z.2.1 z.2.2, fun _ => [Row A (rows l)]⟩ (fun z => l.length - z.1) (0, none, none, 0, []) ⟨Nat.zero_le _, rfl, Bld.new g, fun _ => rfl⟩ mC (.refl _) mC fun z hz => ?_; obtain ⟨k, P, x⟩ := z; obtain ⟨hkl, ht, hb, h00⟩ := hz; simp only at hkl ht hb h00; have hwl := wrS_len ht; rw [List.length_take] at hwl; have hl12 : l.length ≤ 12 := by omega
 refine c7 (z8 rfl rfl rfl (b8 (c8 ?_)))
 first | refine k8 rfl (fun hb2 => ?_) (fun hb2 => ?_) | refine d9 rfl (fun hb2 => ?_) (fun hb2 => ?_)
 ·have hb2' := hb2; try simp at hb2'
  simp only at hb2; have hk : k < l.length := by omega
  have hm1 : l.getD k default = l[k] := N1 hk; refine d8 (d4 (c8 (k6 (c7 ?_)))); refine z5 (α := Mk) _ _ rfl l9 c6 rfl rfl rfl mB rfl (by omega) (by decide) (u3 rfl j0 c6 rfl rfl (q8 mB (s6 hk)) ?_); rw [hm1]; refine y9 rfl (fun _ => r7 _) fun gm => u0 (cs := #[int l[k].1, int l[k].2.1, str l[k].2.2]) rfl rfl (.refl _) c6 (by rfl) (by rfl) ?_; refine b8 (yR (O6 (i4 ?_)))
  first | refine b3 ⟨_, 0, none⟩ rfl rfl j9 rfl ?_ | refine b3 _ rfl rfl j9 rfl ?_
  refine b6 (v := int l[k].1) rfl a9 rfl (j4 mB rfl) ?_; refine z8 rfl rfl rfl (b7 rfl ?_); refine n6 rfl rfl ?_ ?_
  ·intro hg1; have hg1' := hg1; try simp at hg1'
   refine k9 hg1 ?_
   first | refine b3 ⟨_, 0, none⟩ rfl rfl j9 rfl ?_ | refine b3 _ rfl rfl j9 rfl ?_
   refine k9 hg1 (b6 (v := int l[k].1) rfl a9 rfl (j4 mB rfl) ?_); refine k9 hg1 (M5 rfl rfl rfl ?_); refine p_f rfl rfl (bf1 hg1) rfl (b8 ?_)
   first | refine k8 rfl (fun hb3 => ?_) (fun hb3 => ?_) | refine d9 rfl (fun hb3 => ?_) (fun hb3 => ?_)
   ·have hb3' := hb3; try simp at hb3'
    refine c7 (c3 rfl (c3 rfl (b8 (D4 (C7 (r9 (P3 ?_))))))); refine r9 ?_; have hE2 : wE l = 8 := by rw [hE, aA hk ht (by rw [show wErr l[k] = 8 from if_pos (by omega)]; decide)]; exact if_pos (by omega)
    exact ret2 () rfl rfl rfl (by rw [hE2]; rfl) rfl tK nK tK
   have hb3' := hb3; try simp at hb3'
   refine d8 (d4 (c8 (c7 ?_)))
   first | refine b3 ⟨_, 1, none⟩ rfl rfl i8 rfl ?_ | refine b3 _ rfl rfl i8 rfl ?_
   refine b6 (v := int l[k].2.1) rfl a9 rfl (j4 mB rfl) ?_; refine z8 rfl rfl rfl (b7 rfl ?_); refine n6 rfl rfl ?_ ?_
   ·intro hg2; have hg2' := hg2; try simp at hg2'
    refine k9 hg2 ?_
    first | refine b3 ⟨_, 1, none⟩ rfl rfl i8 rfl ?_ | refine b3 _ rfl rfl i8 rfl ?_
    refine k9 hg2 (b6 (v := int l[k].2.1) rfl a9 rfl (j4 mB rfl) ?_); refine k9 hg2 (M5 rfl rfl rfl ?_); refine p_f rfl rfl (bf1 hg2) rfl (b8 ?_)
    first | refine k8 rfl (fun hb4 => ?_) (fun hb4 => ?_) | refine d9 rfl (fun hb4 => ?_) (fun hb4 => ?_)
    ·have hb4' := hb4; try simp at hb4'
     refine c7 (c3 rfl (c3 rfl (b8 (D4 (C7 (r9 (P3 ?_))))))); refine r9 ?_; have hE2 : wE l = 1 := by rw [hE, aA hk ht (by rw [show wErr l[k] = 1 from (if_neg (by omega)).trans (if_pos (by omega))]; decide)]; exact (if_neg (by omega)).trans (if_pos (by omega))
     exact ret2 () rfl rfl rfl (by rw [hE2]; rfl) rfl tK nK tK
    have hb4' := hb4; try simp at hb4'
    refine d8 (d4 (c8 (c7 ?_))); refine D6 rfl j0 c6 rfl (cs := #[int l[k].1, int l[k].2.1, str l[k].2.2]) mB (by rfl) (d5 N2 rfl rfl (N0 l[k]) (hpR := bldH g (wrS (l.take k)) P x) (.refl _) tK fun _ _ => ?_); refine c3 rfl (n7 (b7 rfl (y5 rfl rfl rfl (b8 ?_))))
    first | refine k8 rfl (fun hb5 => ?_) (fun hb5 => ?_) | refine d9 rfl (fun hb5 => ?_) (fun hb5 => ?_)
    ·have hb5' := hb5; try simp at hb5'
     refine c7 (b7 rfl (c3 rfl (c3 rfl (b8 (D4 (C7 (r9 ?_))))))); refine C7 ?_; have hw : wErr l[k] = textErr l[k] := (if_neg (by omega)).trans (if_neg (by omega)); have hE2 : wE l = textErr l[k] := by rw [hE, aA hk ht (by rw [hw]; exact hb5), hw]
     exact ret2 () rfl rfl rfl (by rw [hE2, if_neg hb5]; rfl) rfl tK nK tK
    have hb5' := hb5; try simp at hb5'
    have hte : textErr l[k] = 0 := by simpa using hb5
    have hw : wErr l[k] = 0 := ((if_neg (by omega)).trans (if_neg (by omega))).trans hte; have he1 : firstErr wErr (l.take (k + 1)) = 0 := by rw [mX hk ht]; exact hw
    have hkd := kz4 l[k].1; have hit := kz5 l[k].2.1; have htx := kj4 hte; refine d8 (d4 (c8 ?_)); refine V3 9 mixed (by decide) (by decide) rfl rfl ?_
    apply q9 _ rfl rfl rfl
    ·intro w1
     first | refine b3 ⟨_, 0, none⟩ rfl rfl j9 rfl ?_ | refine b3 _ rfl rfl j9 rfl ?_
     refine d6 ?_; exact l3 rfl
    refine u9 (fun w1 => b6 (v := int l[k].1) rfl a9 rfl (j4 (List.mem_append_right _ List.mem_cons_self) rfl) (q_z rfl)) ?_
    apply q9 _ rfl rfl rfl
    ·intro w1
     first | refine b3 ⟨_, 0, none⟩ rfl rfl j9 rfl ?_ | refine b3 _ rfl rfl j9 rfl ?_
     refine d6 ?_; exact l3 rfl
    refine u9 (fun w1 => b6 (v := int l[k].1) rfl a9 rfl (j4 (List.mem_append_right _ List.mem_cons_self) rfl) (q_z rfl)) (u9 (fun w1 => v6 _ rfl rfl rfl rfl r6 (q_z rfl)) ?_); refine u9 (fun w1 => tC (s := K4) l[k].1.toNat (l[k].1.toNat + 1) rfl l7 rfl rfl (by omega) rfl (by omega) (Nat.le_succ _) (by show l[k].1.toNat + 1 ≤ 4; omega) (q_z rfl)) ?_
    apply q9 _ rfl rfl rfl
    ·intro w1
     first | refine b3 ⟨_, 1, none⟩ rfl rfl i8 rfl ?_ | refine b3 _ rfl rfl i8 rfl ?_
     refine d6 ?_; exact l3 rfl
    refine u9 (fun w1 => b6 (v := int l[k].2.1) rfl a9 rfl (j4 (List.mem_append_right _ List.mem_cons_self) rfl) (q_z rfl)) ?_; refine u9 (fun w1 => d5 wQ rfl rfl (mj6 l[k].2.1 ⟨by omega, by omega⟩) l6 tK fun _ _ => (q_z rfl)) ?_; refine E8 ⟨rfl, ?_⟩; refine qz9 (x' := kindS l[k].1) (y' := itoaZ l[k].2.1) rfl rfl rfl (by omega) ?_; refine d5 C1 rfl rfl (Y0 g (wrS (l.take k)) (kindS l[k].1 ++ itoaZ l[k].2.1) P x hb (by simp only [List.length_append, List.length_cons, List.length_nil]; omega)) (show List.Perm (bldH g (wrS (l.take k)) P x) (bldH g (wrS (l.take k)) P x ++ []) from by rw [List.append_nil]) tK fun y1 hy1 => ?_; refine cz9 (hp' := bldH g ((wrS (l.take k)) ++ (kindS l[k].1 ++ itoaZ l[k].2.1)) (k5 g) y1) (show List.Perm (bldH g ((wrS (l.take k)) ++ (kindS l[k].1 ++ itoaZ l[k].2.1)) (k5 g) y1 ++ []) (bldH g ((wrS (l.take k)) ++ (kindS l[k].1 ++ itoaZ l[k].2.1)) (k5 g) y1) from by rw [List.append_nil]) ?_; refine b8 (c8 (c7 ?_))
    first | refine b3 ⟨_, 0, none⟩ rfl rfl j9 rfl ?_ | refine b3 _ rfl rfl j9 rfl ?_
    refine b6 (v := int l[k].1) rfl a9 rfl (j4 mB rfl) ?_; refine y5 rfl rfl rfl (b8 ?_)
    first | refine k8 rfl (fun hb6 => ?_) (fun hb6 => ?_) | refine d9 rfl (fun hb6 => ?_) (fun hb6 => ?_)
    ·have hb6' := hb6; try simp at hb6'
     refine i4 ?_
     first | refine b3 ⟨_, 2, none⟩ rfl rfl q7 rfl ?_ | refine b3 _ rfl rfl q7 rfl ?_
     refine b6 (v := str l[k].2.2) rfl j5 rfl (j4 mB rfl) ?_; refine qz9 (x' := [32]) (y' := l[k].2.2) rfl rfl rfl (by simp only [List.length_cons, List.length_nil]; omega) ?_; refine d5 C1 rfl rfl (Y0 g ((wrS (l.take k)) ++ (kindS l[k].1 ++ itoaZ l[k].2.1)) ([32] ++ l[k].2.2) (k5 g) y1 hy1 (by simp only [List.length_append, List.length_cons, List.length_nil]; omega)) (show List.Perm (bldH g ((wrS (l.take k)) ++ (kindS l[k].1 ++ itoaZ l[k].2.1)) (k5 g) y1) (bldH g ((wrS (l.take k)) ++ (kindS l[k].1 ++ itoaZ l[k].2.1)) (k5 g) y1 ++ []) from by rw [List.append_nil]) tK fun y2 hy2 => ?_; refine cz9 (hp' := bldH g (((wrS (l.take k)) ++ (kindS l[k].1 ++ itoaZ l[k].2.1)) ++ ([32] ++ l[k].2.2)) (k5 g) y2) (show List.Perm (bldH g (((wrS (l.take k)) ++ (kindS l[k].1 ++ itoaZ l[k].2.1)) ++ ([32] ++ l[k].2.2)) (k5 g) y2 ++ []) (bldH g (((wrS (l.take k)) ++ (kindS l[k].1 ++ itoaZ l[k].2.1)) ++ ([32] ++ l[k].2.2)) (k5 g) y2) from by rw [List.append_nil]) ?_; refine b8 (i4 ?_); refine d5 C1 rfl rfl (Y0 g (((wrS (l.take k)) ++ (kindS l[k].1 ++ itoaZ l[k].2.1)) ++ ([32] ++ l[k].2.2)) ([47]) (k5 g) y2 hy2 (by simp only [List.length_append, List.length_cons, List.length_nil]; omega)) (show List.Perm (bldH g (((wrS (l.take k)) ++ (kindS l[k].1 ++ itoaZ l[k].2.1)) ++ ([32] ++ l[k].2.2)) (k5 g) y2) (bldH g (((wrS (l.take k)) ++ (kindS l[k].1 ++ itoaZ l[k].2.1)) ++ ([32] ++ l[k].2.2)) (k5 g) y2 ++ []) from by rw [List.append_nil]) tK fun y3 hy3 => ?_; refine cz9 (hp' := bldH g ((((wrS (l.take k)) ++ (kindS l[k].1 ++ itoaZ l[k].2.1)) ++ ([32] ++ l[k].2.2)) ++ ([47])) (k5 g) y3) (show List.Perm (bldH g ((((wrS (l.take k)) ++ (kindS l[k].1 ++ itoaZ l[k].2.1)) ++ ([32] ++ l[k].2.2)) ++ ([47])) (k5 g) y3 ++ []) (bldH g ((((wrS (l.take k)) ++ (kindS l[k].1 ++ itoaZ l[k].2.1)) ++ ([32] ++ l[k].2.2)) ++ ([47])) (k5 g) y3) from by rw [List.append_nil]) ?_; refine d6 (u7 (d4 (i4 ?_))); refine v6 _ rfl rfl rfl rfl r6 ?_; refine b7 rfl (d6 ?_); have hsn : ((((wrS (l.take k)) ++ (kindS l[k].1 ++ itoaZ l[k].2.1)) ++ ([32] ++ l[k].2.2)) ++ [47]) = wrS (l.take (k + 1)) := by rw [jz3 hk, wrM, if_neg hb6]; simp only [List.append_assoc, List.append_nil, List.nil_append]
     rw [hsn] at hy3 ⊢; exact again _ (k + 1, some ⟨g, 0, none⟩, y3) ⟨by show k + 1 ≤ l.length; omega, he1, hy3, fun h => absurd h (by show ¬ k + 1 = 0; omega)⟩ (D5 (by omega)) mC (.refl _) mC
    have hb6' := hb6; try simp at hb6'
    refine d8 (d4 (i4 ?_)); refine d5 C1 rfl rfl (Y0 g ((wrS (l.take k)) ++ (kindS l[k].1 ++ itoaZ l[k].2.1)) ([47]) (k5 g) y1 hy1 (by simp only [List.length_append, List.length_cons, List.length_nil]; omega)) (show List.Perm (bldH g ((wrS (l.take k)) ++ (kindS l[k].1 ++ itoaZ l[k].2.1)) (k5 g) y1) (bldH g ((wrS (l.take k)) ++ (kindS l[k].1 ++ itoaZ l[k].2.1)) (k5 g) y1 ++ []) from by rw [List.append_nil]) tK fun y3 hy3 => ?_; refine cz9 (hp' := bldH g (((wrS (l.take k)) ++ (kindS l[k].1 ++ itoaZ l[k].2.1)) ++ ([47])) (k5 g) y3) (show List.Perm (bldH g (((wrS (l.take k)) ++ (kindS l[k].1 ++ itoaZ l[k].2.1)) ++ ([47])) (k5 g) y3 ++ []) (bldH g (((wrS (l.take k)) ++ (kindS l[k].1 ++ itoaZ l[k].2.1)) ++ ([47])) (k5 g) y3) from by rw [List.append_nil]) ?_; refine d6 (u7 (d4 (i4 ?_))); refine v6 _ rfl rfl rfl rfl r6 ?_; refine b7 rfl (d6 ?_); have hsn : (((wrS (l.take k)) ++ (kindS l[k].1 ++ itoaZ l[k].2.1)) ++ [47]) = wrS (l.take (k + 1)) := by rw [jz3 hk, wrM, if_pos (by omega)]; simp only [List.append_assoc, List.append_nil, List.nil_append]
    rw [hsn] at hy3 ⊢; exact again _ (k + 1, some ⟨g, 0, none⟩, y3) ⟨by show k + 1 ≤ l.length; omega, he1, hy3, fun h => absurd h (by show ¬ k + 1 = 0; omega)⟩ (D5 (by omega)) mC (.refl _) mC
   intro hg2; have hg2' := hg2; try simp at hg2'
   refine u2 hg2 (u2 hg2 (u2 hg2 ?_)); refine p_t rfl rfl (bt2 hg2) rfl ?_; refine b8 (c_t rfl rfl (c7 (c3 rfl (c3 rfl (b8 (D4 (P3 ?_))))))); refine tr_tr (C7 ?_); have hE2 : wE l = 1 := by rw [hE, aA hk ht (by rw [show wErr l[k] = 1 from (if_neg (by omega)).trans (if_pos (by omega))]; decide)]; exact (if_neg (by omega)).trans (if_pos (by omega))
   exact ret2 () rfl rfl rfl (by rw [hE2]; rfl) rfl tK nK tK
  intro hg1; have hg1' := hg1; try simp at hg1'
  refine u2 hg1 (u2 hg1 (u2 hg1 ?_)); refine p_t rfl rfl (bt2 hg1) rfl ?_; refine b8 (c_t rfl rfl (c7 (c3 rfl (c3 rfl (b8 (D4 (P3 ?_))))))); refine tr_tr (C7 ?_); have hE2 : wE l = 8 := by rw [hE, aA hk ht (by rw [show wErr l[k] = 8 from if_pos (by omega)]; decide)]; exact if_pos (by omega)
  exact ret2 () rfl rfl rfl (by rw [hE2]; rfl) rfl tK nK tK
 have hb2' := hb2; try simp at hb2'
 simp only at hb2; have hk : k = l.length := by omega
 refine s9 (E4 (u6 (d4 (c7 ?_)))); have he : firstErr wErr l = 0 := by rw [hk, List.take_length] at ht; exact ht
 have hEz : wE l = 0 := by rw [hE, he]
 rw [hk, List.take_length] at hb
 by_cases hl0 : l = []
 ·subst hl0; obtain ⟨rfl, rfl⟩ : P = none ∧ x = (none, 0, []) := by have := h00 (by rw [hk]; rfl); injection this with a b; exact ⟨a, b⟩
  refine d5 W1 rfl rfl (hj9 g) (hpR := []) (by subst hk; exact .refl _) tK fun _ _ => ?_; refine c3 rfl (c3 rfl (b8 (l4 ?_))); exact ret2 () rfl rfl rfl (by rw [hEz, if_pos rfl]; rfl) rfl tK nK tK
 refine d5 W1 rfl rfl (jx8 g (wrS l) P x hb (wrS_ne hl0)) (hpR := []) (show List.Perm (bldH g (wrS (l.take k)) P x) (bldH g (wrS l) P x ++ []) from by rw [hk, List.take_length, List.append_nil]) tK fun _ _ => ?_; refine c3 rfl (c3 rfl (b8 (l4 ?_))); exact ret2 () rfl rfl rfl (by rw [hEz, if_pos rfl]) rfl tK nK tK
abbrev q1A : Str := [97]
abbrev q1B : Str := [98]
abbrev q1C : Str := [99]
abbrev q1X : Str := [120]
abbrev q1Y : Str := [121]
abbrev c1L : List Mk := [(2, 2, sCid)]
abbrev d1L : List Mk := [(3, 0, [])]
abbrev mkL : List Mk := [(1, 0, sAbe), (3, 1, []), (3, 2, [])]
abbrev pg1 : List Str := [sAnna, sBen, sDan]
abbrev pg2 : List Str := [sAnna, sAnna]
abbrev pk1 : List Str := [sAnna, sCyd, sDan]
abbrev pk2 : List Str := [sAnna, sDan]
abbrev pk3 : List Str := [sAnna, sCid, sDan]
theorem yN : pageErr folkL = 0 ∧ pageErr [[]] = 7 ∧ pageErr [[65, 110, 110, 97]] = 2 ∧ pageErr [[32, 98, 101, 110]] = 2 := by decide +kernel
theorem pq4 : applyP folkL d1L = ([sBen, sCyd], 0) := by decide +kernel
theorem pq3 : applyP folkL [(2, 1, q1X), (2, 1, q1Y)] = ([], 4) := by decide +kernel
theorem pq2 : applyP folkL [(2, 1, q1X), (1, 1, q1Y)] = ([], 5) := by decide +kernel
theorem pq1 : applyP folkL [(3, 3, [])] = ([], 3) := by decide +kernel
theorem rx7 : costR folkL slipL = (2, 0) := by decide +kernel
theorem rx6 : costR folkL d1L = (0, 0) := by decide +kernel
theorem pj5 : mergeP folkL c1L slipL = (slipL, 0) := by decide +kernel
theorem pj4 : mergeP folkL c1L [(3, 2, [])] = ([], 9) := by decide +kernel
theorem rx5 : diffE [q1A, q1B] [q1B] (diffP [q1A, q1B] [q1B] 0 0).2 = (d1L, 0) := by rw [← uG _ _ 10 0 0 (by decide)]; decide +kernel
theorem rx4 : diffE [q1A, q1B] [q1C] (diffP [q1A, q1B] [q1C] 0 0).2 = ([(2, 0, q1C), (3, 1, [])], 0) := by rw [← uG _ _ 10 0 0 (by decide)]; decide +kernel
theorem pj3 : stepsP folkL mkL 4 = ([0, 1, 2], 0) := by decide +kernel
theorem pj2 : stepsP folkL mkL 2 = ([], 12) := by decide +kernel
theorem kx_back (a b : Option Addr) : backE [⟨a, 2, [sAnna, sBen]⟩, ⟨b, 2, [sAnna, sCyd]⟩] pg1 = ([1], 0) := n5
theorem pj7 (a b : Option Addr) : freshE [⟨a, 2, [sAnna, sBen]⟩, ⟨b, 2, [sAnna, sCyd]⟩] pg1 = 1 := n5
theorem pj6 (a b : Option Addr) : freshE [⟨a, 2, [sAnna, sBen]⟩, ⟨b, 2, [sAnna, sCyd]⟩] pg2 = 1 := n5
theorem pj9 (a b : Option Addr) : askedErr (years [⟨a, 2, [sAnna, sBen]⟩, ⟨b, 2, [sAnna, sCyd]⟩]) pg1 = 0 := n5
theorem pj8 (a b : Option Addr) : askedErr (years [⟨a, 2, [sAnna, sBen]⟩, ⟨b, 2, [sAnna, sCyd]⟩]) pg2 = 0 := n5
theorem kz2 (a b : Option Addr) : yearsErr (years [⟨a, 2, [sAnna, sBen]⟩, ⟨b, 2, [sAnna, sCyd]⟩]) = 0 := n5
theorem kz3 : wE slipL = 0 ∧ wrS slipL = [43, 49, 32, 98, 101, 97, 47, 61, 50, 32, 99, 105, 100, 47] := by decide +kernel
theorem rx3 : ((readE [43, 49, 32, 98, 101, 97, 47, 45, 50, 32, 120, 47]).2) = (1, 2) := by decide +kernel
theorem rx2 : ((readE [45, 49]).2) = (0, 2) := by decide +kernel
theorem pq0 : applyP [sAnna, sCyd] [(1, 2, sDan)] = ([sAnna, sCyd, sDan], 0) := by decide +kernel
def pkL (k : Nat) : List Str := if k = 0 then pk1 else if k = 1 then pk2 else pk3
def flL : List (Int × Int) := [(0, 0), (1, 1), (3, 1)]
theorem kx_look (a b : Option Addr) {k : Nat} (hk : k < 3) : lookP [⟨a, 2, [sAnna, sBen]⟩, ⟨b, 2, [sAnna, sCyd]⟩] [(1, 2, sDan)] (pkL k) = (flL.getD k default, 0) := by
  have e1 := kz2 a b; have e2 : (lastP [⟨a, 2, [sAnna, sBen]⟩, ⟨b, 2, [sAnna, sCyd]⟩]).l = [sAnna, sCyd] := rfl
  have e4 : pageErr (pkL k) = 0 := by
    rcases (show k = 0 ∨ k = 1 ∨ k = 2 by omega) with rfl | rfl | rfl <;> decide +kernel
  have e5 : (diffP [sAnna, sCyd, sDan] (pkL k) 0 0).2 = if k = 0 then [] else if k = 1 then [(3, 1, [])] else [(2, 1, sCid)] := by
    rcases (show k = 0 ∨ k = 1 ∨ k = 2 by omega) with rfl | rfl | rfl <;> (rw [← uG _ _ 10 0 0 (by decide)]; decide +kernel)
  unfold lookP; rw [e1, e2, pq0, e4, e5]
  rcases (show k = 0 ∨ k = 1 ∨ k = 2 by omega) with rfl | rfl | rfl <;> rfl
theorem rx1 (a b : Option Addr) : StockIs [⟨a, 2, [sAnna, sBen]⟩, ⟨b, 2, [sAnna, sCyd]⟩] [(sAnna, 1), (sBen, 1), (sCyd, 1)] := by
  refine ⟨?_, fun s n => ?_⟩
  · decide +kernel
  have h : 0 < stockN [⟨a, 2, [sAnna, sBen]⟩, ⟨b, 2, [sAnna, sCyd]⟩] s ↔ s = sAnna ∨ s = sBen ∨ s = sCyd := by
    rw [aj5]; simp only [List.mem_cons, List.not_mem_nil, or_false]
    constructor
    · rintro ⟨p, rfl | rfl, h⟩
      · simp only [List.mem_cons, List.not_mem_nil, or_false] at h; rcases h with h | h <;> simp [h]
      simp only [List.mem_cons, List.not_mem_nil, or_false] at h; rcases h with h | h <;> simp [h]
    rintro (rfl | rfl | rfl)
    · exact ⟨_, .inl rfl, by simp⟩
    · exact ⟨_, .inl rfl, by simp⟩
    exact ⟨_, .inr rfl, by simp⟩
  have h1 : stockN [⟨a, 2, [sAnna, sBen]⟩, ⟨b, 2, [sAnna, sCyd]⟩] sAnna = 1 := n5
  have h2 : stockN [⟨a, 2, [sAnna, sBen]⟩, ⟨b, 2, [sAnna, sCyd]⟩] sBen = 1 := n5
  have h3 : stockN [⟨a, 2, [sAnna, sBen]⟩, ⟨b, 2, [sAnna, sCyd]⟩] sCyd = 1 := n5
  rw [h]; simp only [List.mem_cons, List.not_mem_nil, or_false, Prod.mk.injEq]
  constructor
  · rintro (⟨rfl, rfl⟩ | ⟨rfl, rfl⟩ | ⟨rfl, rfl⟩)
    · exact ⟨.inl rfl, by rw [h1]; rfl⟩
    · exact ⟨.inr (.inl rfl), by rw [h2]; rfl⟩
    exact ⟨.inr (.inr rfl), by rw [h3]; rfl⟩
  rintro ⟨rfl | rfl | rfl, e⟩
  · exact .inl ⟨rfl, by rw [e, h1]; rfl⟩
  · exact .inr (.inl ⟨rfl, by rw [e, h2]; rfl⟩)
  exact .inr (.inr ⟨rfl, by rw [e, h3]; rfl⟩)
theorem cj6 {A B : Option Addr} {ca cb : Nat} (hc : 3 ≤ ca) : Meets prog I8 [.slice A 3 ca, .slice B 1 cb] { outErr (([sBen, sCyd] : List Str), (0 : Int)) with LI := [Row A (rows folkL), Row B (rows (d1L : List Mk))] } := by
  have h := J6 (A := A) (B := B) (ca := ca) (cb := cb) folkL d1L hc; rw [pq4] at h; exact h
theorem cj5 {A B : Option Addr} {ca cb : Nat} (hc : 3 ≤ ca) : Meets prog I8 [.slice A 3 ca, .slice B 2 cb] { outErr (([] : List Str), (4 : Int)) with LI := [Row A (rows folkL), Row B (rows ([(2, 1, q1X), (2, 1, q1Y)] : List Mk))] } := by
  have h := J6 (A := A) (B := B) (ca := ca) (cb := cb) folkL [(2, 1, q1X), (2, 1, q1Y)] hc; rw [pq3] at h; exact h
theorem cj4 {A B : Option Addr} {ca cb : Nat} (hc : 3 ≤ ca) : Meets prog I8 [.slice A 3 ca, .slice B 2 cb] { outErr (([] : List Str), (5 : Int)) with LI := [Row A (rows folkL), Row B (rows ([(2, 1, q1X), (1, 1, q1Y)] : List Mk))] } := by
  have h := J6 (A := A) (B := B) (ca := ca) (cb := cb) folkL [(2, 1, q1X), (1, 1, q1Y)] hc; rw [pq2] at h; exact h
theorem cj3 {A B : Option Addr} {ca cb : Nat} (hc : 3 ≤ ca) : Meets prog I8 [.slice A 3 ca, .slice B 1 cb] { outErr (([] : List Str), (3 : Int)) with LI := [Row A (rows folkL), Row B (rows ([(3, 3, [])] : List Mk))] } := by
  have h := J6 (A := A) (B := B) (ca := ca) (cb := cb) folkL [(3, 3, [])] hc; rw [pq1] at h; exact h
theorem dz1 {A B : Option Addr} {ca cb : Nat} : Meets prog bA [.slice A 3 ca, .slice B 2 cb] { LI := [Row A (rows folkL), Row B (rows (slipL : List Mk))], val := fun _ : Unit => .tuple #[int 2, int 0] } := by
  have h := nV (A := A) (B := B) (ca := ca) (cb := cb) folkL slipL; rw [rx7] at h; exact h
theorem dz0 {A B : Option Addr} {ca cb : Nat} : Meets prog bA [.slice A 3 ca, .slice B 1 cb] { LI := [Row A (rows folkL), Row B (rows (d1L : List Mk))], val := fun _ : Unit => .tuple #[int 0, int 0] } := by
  have h := nV (A := A) (B := B) (ca := ca) (cb := cb) folkL d1L; rw [rx6] at h; exact h
theorem cj0 {A B C : Option Addr} {ca cb cc : Nat} : Meets prog Z7 [.slice A 3 ca, .slice B 1 cb, .slice C 2 cc] { outErr ((slipL : List Mk), (0 : Int)) with LI := [Row A (rows folkL), Row B (rows (c1L : List Mk)), Row C (rows (slipL : List Mk))] } := by
  have h := lQ (A := A) (B := B) (C := C) (ca := ca) (cb := cb) (cc := cc) folkL c1L slipL; rw [pj5] at h; exact h
theorem bz9 {A B C : Option Addr} {ca cb cc : Nat} : Meets prog Z7 [.slice A 3 ca, .slice B 1 cb, .slice C 1 cc] { outErr (([] : List Mk), (9 : Int)) with LI := [Row A (rows folkL), Row B (rows (c1L : List Mk)), Row C (rows ([(3, 2, [])] : List Mk))] } := by
  have h := lQ (A := A) (B := B) (C := C) (ca := ca) (cb := cb) (cc := cc) folkL c1L [(3, 2, [])]; rw [pj4] at h; exact h
theorem dx9 {A B : Option Addr} {ca cb : Nat} : Meets prog W7 [.slice A 2 ca, .slice B 1 cb] { outE ((d1L : List Mk), (0 : Int)) with LI := [Row A (rows ([q1A, q1B] : List Str)), Row B (rows ([q1B] : List Str))] } := by
  have h := gC (A := A) (B := B) (ca := ca) (cb := cb) [q1A, q1B] [q1B]; rw [rx5] at h; exact h
theorem dx8 {A B : Option Addr} {ca cb : Nat} : Meets prog W7 [.slice A 2 ca, .slice B 1 cb] { outE (([(2, 0, q1C), (3, 1, [])] : List Mk), (0 : Int)) with LI := [Row A (rows ([q1A, q1B] : List Str)), Row B (rows ([q1C] : List Str))] } := by
  have h := gC (A := A) (B := B) (ca := ca) (cb := cb) [q1A, q1B] [q1C]; rw [rx4] at h; exact h
theorem bz8 {A B : Option Addr} {ca cb : Nat} : Meets prog S6 [.slice A 3 ca, .slice B 3 cb, int 4] { outE (([0, 1, 2] : List Int), (0 : Int)) with LI := [Row A (rows folkL), Row B (rows mkL)] } := by
  have h := cR (A := A) (B := B) (ca := ca) (cb := cb) folkL mkL 4; rw [pj3] at h; exact h
theorem bz7 {A B : Option Addr} {ca cb : Nat} : Meets prog S6 [.slice A 3 ca, .slice B 3 cb, int 2] { outE (([] : List Int), (12 : Int)) with LI := [Row A (rows folkL), Row B (rows mkL)] } := by
  have h := cR (A := A) (B := B) (ca := ca) (cb := cb) folkL mkL 2; rw [pj2] at h; exact h
theorem hj4 {B : Option Addr} {cb : Nat} (y : OutC × Option Addr × Option Addr) : Meets prog gY [.slice y.1.1 2 y.1.2, .slice B 3 cb] { outE (([1] : List Int), (0 : Int)) with LI := [Rows2 y.1.1 (agesP y), Row B (rows pg1)] } := by
  have h := aq0 (A := y.1.1) (B := B) (ca := y.1.2) (cb := cb) (agesP y) pg1; rw [agesP, kx_back] at h; exact h
theorem dx5 (y : OutC × Option Addr × Option Addr) : Meets prog dC [.slice y.1.1 2 y.1.2] { LI := [Rows2 y.1.1 (agesP y)], val := fun x : OutC => .tuple #[.slice x.1 3 x.2, int 0], LO := fun x => [Row x.1 (rows ([(sAnna, 1), (sBen, 1), (sCyd, 1)] : List Ty))] } := by
  intro w hw; refine CallsB.mono (yA (A := y.1.1) (c := y.1.2) (agesP y) (kz2 _ _) (show 4 ≤ 12 by decide) w hw) fun e w' hp => ?_; obtain ⟨x, rfl, h1, h2⟩ := hp; have hx := h1.uniq (rx1 _ _); obtain ⟨ts, o⟩ := x; simp only at hx; subst hx; exact ⟨o, rfl, tK, h2⟩
theorem cj2 {B : Option Addr} {cb : Nat} (y : OutC × Option Addr × Option Addr) : Meets prog Z8 [.slice y.1.1 2 y.1.2, .slice B 3 cb] { LI := [Rows2 y.1.1 (agesP y), Row B (rows pg1)], val := fun _ : Unit => .tuple #[int 1, int 0] } := by
  have h := lR (A := y.1.1) (B := B) (ca := y.1.2) (cb := cb) (agesP y) pg1; rw [agesP, pj7, pj9] at h; exact h
theorem cj1 {B : Option Addr} {cb : Nat} (y : OutC × Option Addr × Option Addr) : Meets prog Z8 [.slice y.1.1 2 y.1.2, .slice B 2 cb] { LI := [Rows2 y.1.1 (agesP y), Row B (rows pg2)], val := fun _ : Unit => .tuple #[int 1, int 0] } := by
  have h := lR (A := y.1.1) (B := B) (ca := y.1.2) (cb := cb) (agesP y) pg2; rw [agesP, pj6, pj8] at h; exact h
theorem hj1 {B C : Option Addr} {cb cc : Nat} (y : OutC × Option Addr × Option Addr) (hy : 2 ≤ y.1.2) {k : Nat} (hk : k < 3) : Meets prog aZ [.slice y.1.1 2 y.1.2, .slice B 1 cb, .slice C (pkL k).length cc] { LI := [Rows2 y.1.1 (agesP y), Row B (rows [((1, 2, sDan) : Mk)]), Row C (rows (pkL k))], val := fun _ : Unit => .tuple #[.agg #[int (flL.getD k default).1, int (flL.getD k default).2], int 0] } := by
  have h := nU (A := y.1.1) (B := B) (C := C) (ca := y.1.2) (cb := cb) (cc := cc) (agesP y) [(1, 2, sDan)] (pkL k) hy (by intro q hq; simp [agesP] at hq; rcases hq with rfl | rfl <;> simp); rw [agesP, kx_look _ _ hk] at h; exact h
theorem dx4 {A : Option Addr} {ca : Nat} : Meets prog dB [.slice A 2 ca] { LI := [Row A (rows slipL)], val := fun _ : Unit => .tuple #[str [43, 49, 32, 98, 101, 97, 47, 61, 50, 32, 99, 105, 100, 47], int 0] } := by
  have h := xZ (A := A) (ca := ca) slipL (by decide); rw [kz3.1, if_pos rfl, kz3.2] at h; exact h
theorem dx7 : Meets prog aY [str [43, 49, 32, 98, 101, 97, 47, 45, 50, 32, 120, 47]] { val := fun y : OutC => .tuple #[.slice y.1 (readE [43, 49, 32, 98, 101, 97, 47, 45, 50, 32, 120, 47]).1.length y.2, int 1, int 2], LO := fun y => [Row y.1 (rows (readE [43, 49, 32, 98, 101, 97, 47, 45, 50, 32, 120, 47]).1)] } := by
  have h := nT [43, 49, 32, 98, 101, 97, 47, 45, 50, 32, 120, 47] (by decide); rw [rx3] at h; exact h
theorem dx6 : Meets prog aY [str [45, 49]] { val := fun y : OutC => .tuple #[.slice y.1 (readE [45, 49]).1.length y.2, int 0, int 2], LO := fun y => [Row y.1 (rows (readE [45, 49]).1)] } := by
  have h := nT [45, 49] (by decide); rw [rx2] at h; exact h
end Go.Proofs.YtpfbbggmcbhboaaGreatDoor
end
