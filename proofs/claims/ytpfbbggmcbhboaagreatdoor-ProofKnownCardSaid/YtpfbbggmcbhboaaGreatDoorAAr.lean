/- Texts. -/
import Derived.ProofKit
import Derived.OpenShut
import Derived.ShutString
import Derived.ChangeOld
import Derived.Below
import Derived.SliceStrings
import Derived.ChangeSlices
import Derived.Deep.Slices
import Derived.Conc.LeavingOf
import Derived.Test.YtpfbbggmcbhboaaGreatDoorAAq
import Derived.Test.YtpfbbggmcbhboaaGreatDoorAAi
import Derived.Test.YtpfbbggmcbhboaaGreatDoorAAa
set_option linter.unusedVariables false
set_option linter.unusedSimpArgs false
section
namespace Go.Proofs.YtpfbbggmcbhboaaGreatDoor
open Go Go.W Tryz T F
set_option maxRecDepth 20000
attribute [local irreducible] HL HC HQ HB Row Rows2 Blk Facts
theorem yO {A B : Option Addr} {ca cb : Nat} (a b : List Ty) (ha : a.length ≤ 9223372036854775806) :
    Meets prog kW [.slice A a.length ca, .slice B b.length cb] { LI := [Row A (rows a), Row B (rows b)], val := fun _ : Unit => .bool (decide (a = b)) } := by
 refine i3 az3 rfl q6 fun w0 => ?_; refine c7 (c3 rfl (b8 (c8 (c7 (b7 rfl ?_))))); refine l8 rfl A6 rfl (b7 rfl (l8 rfl A6 rfl ?_)); refine y5 rfl rfl rfl (b8 ?_)
 first | refine k8 rfl (fun hb1 => ?_) (fun hb1 => ?_) | refine d9 rfl (fun hb1 => ?_) (fun hb1 => ?_)
 ·have hb1' := hb1; try simp at hb1'
  have hb1 : ¬ a = b := fun e => by subst e; exact hb1 rfl
  refine c7 (c3 rfl (b8 (D4 ?_))); exact ret1 () rfl (by rw [decide_eq_false hb1]; rfl) rfl tK (.refl _) tK
 have hb1' := hb1; try simp at hb1'
 have hb1 : a.length = b.length := by omega
 refine d8 (d4 (c8 (c7 (c3 rfl (b8 (k6 ?_)))))); refine y6 (β := Nat) ⟨fun k => k ≤ a.length ∧ a.take k = b.take k, fun k => [(0, .slice A a.length ca), (1, .slice B b.length cb), (5, int k)], fun _ => [], fun _ => [Row A (rows a), Row B (rows b)]⟩ (fun k => a.length - k) 0 ⟨Nat.zero_le _, rfl⟩ mC (.refl _) ⟨m0, m1, tK⟩ fun k hk => ?_; obtain ⟨hk, ht⟩ := hk; refine c8 (c7 (b7 rfl (b7 rfl ?_))); refine l8 rfl A6 rfl ?_; refine z8 rfl rfl rfl (b8 ?_)
 first | refine k8 rfl (fun hb2 => ?_) (fun hb2 => ?_) | refine d9 rfl (fun hb2 => ?_) (fun hb2 => ?_)
 ·have hb2' := hb2; try simp at hb2'
  have hb2 : k < a.length := by omega
  refine d8 (d4 (c8 (k6 (c8 ?_)))); refine V3 8 mixed (by decide) (by decide) rfl rfl (v0 rfl (v0 rfl (u9 (fun w1 => z5 (α := Ty) _ _ rfl A6 y4 rfl rfl rfl mB rfl (by omega) (by decide) (q_z rfl)) (u9 (fun w1 => u3 rfl O3 y4 rfl rfl (q8 mB (s6 (by omega))) (q_z rfl)) (v0 rfl (v0 rfl (u9 (fun w1 => z5 (α := Ty) _ _ rfl A6 y4 rfl rfl rfl mB rfl (by omega) (by decide) (q_z rfl)) (u9 (fun w1 => u3 rfl O3 y4 rfl rfl (q8 mB (s6 (by omega))) (q_z rfl)) ?_)))))))); refine E8 ⟨rfl, ?_⟩; refine vS _ rfl rfl rfl (fun _ => bz2 ..) (fun _ => bx7 ..) (b8 ?_)
  first | refine k8 rfl (fun hb3 => ?_) (fun hb3 => ?_) | refine d9 rfl (fun hb3 => ?_) (fun hb3 => ?_)
  ·have hb3' := hb3; try simp at hb3'
   have hb3 : ¬ a = b := nj1 (a := a) (b := b) (k := k) hb3; refine c7 (c3 rfl (b8 (l4 (C7 (r9 (C7 ?_)))))); exact ret1 () rfl (by rw [decide_eq_false hb3]; rfl) rfl tK (.refl _) tK
  have hb3' := hb3; try simp at hb3'
  have hb3 : a.getD k default = b.getD k default := Classical.not_not.1 hb3; refine d8 (u7 (d4 (i4 (b7 rfl ?_)))); refine v6 _ rfl rfl rfl rfl r6 ?_; refine c3 rfl (d6 ?_); exact again _ (k + 1) ⟨by omega, by rw [v7 a k hb2, v7 b k (by omega), ht, hb3]⟩ (by first | omega | (simp only; omega)) mC (.refl _) ⟨m0, m1, tK⟩
 have hb2' := hb2; try simp at hb2'
 have hb2 : k = a.length := by omega
 refine s9 (E4 (u6 (d4 (c7 (c3 rfl (b8 (l4 ?_))))))); exact ret1 () rfl (by rw [decide_eq_true (mA ht (by omega) (by omega))]; rfl) rfl tK (.refl _) tK
instance : El (Int × Int) where
  default := (0, 0)
  cells x := [int x.1, int x.2]
  sz := 2
  len _ := rfl
  one a u h := by simp at h; rcases h with h | h <;> subst h <;> rfl
theorem jq1 {A : Option Addr} {c : Nat} : Meets prog M8 [.slice A 3 c] { LI := [Row A (rows (folkL : List Str))], val := fun _ : Unit => int 0 } := by
  have h := B3 (A := A) (c := c) folkL; rw [yN.1] at h; exact h
theorem jq0 {A : Option Addr} {c : Nat} : Meets prog M8 [.slice A 1 c] { LI := [Row A (rows ([[]] : List Str))], val := fun _ : Unit => int 7 } := by
  have h := B3 (A := A) (c := c) [[]]; rw [yN.2.1] at h; exact h
theorem jj9 {A : Option Addr} {c : Nat} : Meets prog M8 [.slice A 1 c] { LI := [Row A (rows ([[65, 110, 110, 97]] : List Str))], val := fun _ : Unit => int 2 } := by
  have h := B3 (A := A) (c := c) [[65, 110, 110, 97]]; rw [yN.2.2.1] at h; exact h
theorem jj8 {A : Option Addr} {c : Nat} : Meets prog M8 [.slice A 1 c] { LI := [Row A (rows ([[32, 98, 101, 110]] : List Str))], val := fun _ : Unit => int 2 } := by
  have h := B3 (A := A) (c := c) [[32, 98, 101, 110]]; rw [yN.2.2.2] at h; exact h
set_option maxHeartbeats 8000000 in
theorem qU : Meets prog iX [] { val := fun _ : Unit => .bool true } := by
 refine i3 sO rfl q6 fun w0 => ?_; refine c7 (c3 rfl (b8 (c8 (c7 ?_)))); refine d5 rK rfl rfl (qT) l6 tK fun _ _ => ?_; refine cO rfl rfl (b7 rfl ?_); refine n6 rfl rfl ?_ ?_
 ·intro hg1; have hg1' := hg1; try simp at hg1'
  refine k9 hg1 (d5 w8 rfl rfl (w7) l6 tK fun x1 hx1 => k9 hg1 (d5 B4 rfl rfl (jq1) l6 mC fun _ _ => ?_)); refine k9 hg1 (y5 rfl rfl rfl ?_); refine p_f rfl rfl (bf1 hg1) rfl (b7 rfl ?_); refine n6 rfl rfl ?_ ?_
  ·intro hg2; have hg2' := hg2; try simp at hg2'
   refine k9 hg2 (j8 _ rfl rfl (fun _ => U4 ..) fun gS => k9 hg2 (v8 (rows ([[]] : List Str)) (List.prefix_refl _) (d5 B4 rfl rfl (jq0) l6 mC fun _ _ => ?_))); refine k9 hg2 (y5 rfl rfl rfl ?_); refine p_f rfl rfl (bf1 hg2) rfl (b7 rfl ?_); refine n6 rfl rfl ?_ ?_
   ·intro hg3; have hg3' := hg3; try simp at hg3'
    refine k9 hg3 (j8 _ rfl rfl (fun _ => U4 ..) fun gS => k9 hg3 (v8 (rows ([[65, 110, 110, 97]] : List Str)) (List.prefix_refl _) (d5 B4 rfl rfl (jj9) l6 mC fun _ _ => ?_))); refine k9 hg3 (y5 rfl rfl rfl ?_); refine p_f rfl rfl (bf1 hg3) rfl (b7 rfl ?_); refine n6 rfl rfl ?_ ?_
    ·intro hg4; have hg4' := hg4; try simp at hg4'
     refine k9 hg4 (j8 _ rfl rfl (fun _ => U4 ..) fun gS => k9 hg4 (v8 (rows ([[32, 98, 101, 110]] : List Str)) (List.prefix_refl _) (d5 B4 rfl rfl (jj8) l6 mC fun _ _ => ?_))); refine k9 hg4 (y5 rfl rfl rfl ?_); refine p_f rfl rfl (bf1 hg4) rfl (b8 ?_)
     first | refine k8 rfl (fun hb1 => ?_) (fun hb1 => ?_) | refine d9 rfl (fun hb1 => ?_) (fun hb1 => ?_)
     ·have hb1' := hb1; try simp at hb1'
     have hb1' := hb1; try simp at hb1'
     refine d8 (d4 (c7 ?_)); refine d5 w8 rfl rfl (w7) l6 tK fun x3 hx3 => d5 D3 rfl rfl (D2 0) l6 tK fun _ _ => j8 _ rfl rfl (fun _ => r8 ..) fun gS => v8 (rows (d1L : List Mk)) (List.prefix_refl _) (d5 J7 rfl rfl (cj6 hx3) l6 mC fun _ _ => ?_); refine b7 rfl (j6 rfl rfl rfl (j6 rfl rfl rfl (c3 rfl (c3 rfl (n7 ?_))))); refine d5 w8 rfl rfl (w7) l6 tK fun x4 hx4 => d5 K1 rfl rfl (J9 1 q1X) l6 tK fun _ _ => d5 K1 rfl rfl (J9 1 q1Y) l6 tK fun _ _ => j8 _ rfl rfl (fun _ => U5 ..) fun gS => v8 (rows ([(2, 1, q1X), (2, 1, q1Y)] : List Mk)) (List.prefix_refl _) (d5 J7 rfl rfl (cj5 hx4) l6 mC fun _ _ => ?_); refine b7 rfl (j6 rfl rfl rfl (j6 rfl rfl rfl (c3 rfl (c3 rfl (n7 ?_))))); refine d5 w8 rfl rfl (w7) l6 tK fun x5 hx5 => d5 K1 rfl rfl (J9 1 q1X) l6 tK fun _ _ => d5 S7 rfl rfl (R4 1 q1Y) l6 tK fun _ _ => j8 _ rfl rfl (fun _ => U5 ..) fun gS => v8 (rows ([(2, 1, q1X), (1, 1, q1Y)] : List Mk)) (List.prefix_refl _) (d5 J7 rfl rfl (cj4 hx5) l6 mC fun _ _ => ?_); refine b7 rfl (j6 rfl rfl rfl (j6 rfl rfl rfl (c3 rfl (c3 rfl (n7 ?_))))); refine d5 w8 rfl rfl (w7) l6 tK fun x6 hx6 => d5 D3 rfl rfl (D2 3) l6 tK fun _ _ => j8 _ rfl rfl (fun _ => r8 ..) fun gS => v8 (rows ([(3, 3, [])] : List Mk)) (List.prefix_refl _) (d5 J7 rfl rfl (cj3 hx6) l6 mC fun _ _ => ?_); refine b7 rfl (j6 rfl rfl rfl (j6 rfl rfl rfl (c3 rfl (c3 rfl (n7 ?_))))); refine d5 w8 rfl rfl (w7) l6 tK fun x7 hx7 => d5 M1 rfl rfl (L9) l6 tK fun _ _ => d5 pQ rfl rfl (dz1) l6 mC fun _ _ => ?_; refine b7 rfl (j6 rfl rfl rfl (j6 rfl rfl rfl (c3 rfl (c3 rfl (n7 ?_))))); refine d5 w8 rfl rfl (w7) l6 tK fun x8 hx8 => d5 D3 rfl rfl (D2 0) l6 tK fun _ _ => j8 _ rfl rfl (fun _ => r8 ..) fun gS => v8 (rows (d1L : List Mk)) (List.prefix_refl _) (d5 pQ rfl rfl (dz0) l6 mC fun _ _ => ?_); refine b7 rfl (j6 rfl rfl rfl (j6 rfl rfl rfl (c3 rfl (c3 rfl (b8 (c8 (c7 (b7 rfl (y5 rfl rfl rfl ?_))))))))); refine b7 rfl ?_; refine n6 rfl rfl ?_ ?_
     ·intro hg5; have hg5' := hg5; try simp at hg5'
      refine k9 hg5 (b7 rfl (k9 hg5 (y5 rfl rfl rfl ?_))); refine p_f rfl rfl (bf1 hg5) rfl (b7 rfl ?_); refine n6 rfl rfl ?_ ?_
      ·intro hg6; have hg6' := hg6; try simp at hg6'
       refine k9 hg6 (b7 rfl (k9 hg6 (y5 rfl rfl rfl ?_))); refine p_f rfl rfl (bf1 hg6) rfl (b7 rfl ?_); refine n6 rfl rfl ?_ ?_
       ·intro hg7; have hg7' := hg7; try simp at hg7'
        refine k9 hg7 (b7 rfl (k9 hg7 (y5 rfl rfl rfl ?_))); refine p_f rfl rfl (bf1 hg7) rfl (b7 rfl ?_); refine n6 rfl rfl ?_ ?_
        ·intro hg8; have hg8' := hg8; try simp at hg8'
         refine k9 hg8 (b7 rfl (k9 hg8 (y5 rfl rfl rfl ?_))); refine p_f rfl rfl (bf1 hg8) rfl (b7 rfl ?_); refine n6 rfl rfl ?_ ?_
         ·intro hg9; have hg9' := hg9; try simp at hg9'
          refine k9 hg9 (b7 rfl (k9 hg9 (y5 rfl rfl rfl ?_))); refine p_f rfl rfl (bf1 hg9) rfl (b7 rfl ?_); refine n6 rfl rfl ?_ ?_
          ·intro hg10; have hg10' := hg10; try simp at hg10'
           refine k9 hg10 (b7 rfl (k9 hg10 (y5 rfl rfl rfl ?_))); refine p_f rfl rfl (bf1 hg10) rfl (b7 rfl ?_); refine n6 rfl rfl ?_ ?_
           ·intro hg11; have hg11' := hg11; try simp at hg11'
            refine k9 hg11 (b7 rfl (k9 hg11 (y5 rfl rfl rfl ?_))); refine p_f rfl rfl (bf1 hg11) rfl (b7 rfl ?_); refine n6 rfl rfl ?_ ?_
            ·intro hg12; have hg12' := hg12; try simp at hg12'
             refine k9 hg12 (b7 rfl (k9 hg12 ?_)); refine j8 _ rfl rfl (fun _ => U3 ..) fun gS => k9 hg12 (v8 (rows ([sBen, sCyd] : List Str)) (List.prefix_refl _) (d5 iY rfl rfl (iW [sBen, sCyd] [sBen, sCyd] (by decide)) l6 mC fun _ _ => ?_)); refine k9 hg12 (cO rfl rfl ?_); refine p_f rfl rfl (bf1 hg12) rfl (b8 ?_)
             first | refine k8 rfl (fun hb2 => ?_) (fun hb2 => ?_) | refine d9 rfl (fun hb2 => ?_) (fun hb2 => ?_)
             ·have hb2' := hb2; try simp at hb2'
             have hb2' := hb2; try simp at hb2'
             refine d8 (d4 (c7 ?_)); refine d5 w8 rfl rfl (w7) l6 tK fun x11 hx11 => d5 K1 rfl rfl (J9 2 sCid) l6 tK fun _ _ => j8 _ rfl rfl (fun _ => r8 ..) fun gS => v8 (rows (c1L : List Mk)) (List.prefix_refl _) (d5 M1 rfl rfl (L9) l6 tK fun _ _ => d5 lX rfl rfl (cj0) l6 mC fun _ _ => ?_); refine b7 rfl (j6 rfl rfl rfl (j6 rfl rfl rfl (c3 rfl (c3 rfl (n7 ?_))))); refine d5 w8 rfl rfl (w7) l6 tK fun x12 hx12 => d5 K1 rfl rfl (J9 2 sCid) l6 tK fun _ _ => j8 _ rfl rfl (fun _ => r8 ..) fun gS => v8 (rows (c1L : List Mk)) (List.prefix_refl _) (d5 D3 rfl rfl (D2 2) l6 tK fun _ _ => j8 _ rfl rfl (fun _ => r8 ..) fun gS => v8 (rows ([(3, 2, [])] : List Mk)) (List.prefix_refl _) (d5 lX rfl rfl (bz9) l6 mC fun _ _ => ?_)); refine b7 rfl (j6 rfl rfl rfl (j6 rfl rfl rfl (c3 rfl (n7 ?_)))); refine j8 _ rfl rfl (fun _ => U3 ..) fun gS => v8 (rows ([q1A, q1B] : List Str)) (List.prefix_refl _) (j8 _ rfl rfl (fun _ => U4 ..) fun gS => v8 (rows ([q1B] : List Str)) (List.prefix_refl _) (d5 gK rfl rfl (dx9) l6 mC fun _ _ => ?_)); refine b7 rfl (j6 rfl rfl rfl (j6 rfl rfl rfl (c3 rfl (c3 rfl (n7 ?_))))); refine j8 _ rfl rfl (fun _ => U3 ..) fun gS => v8 (rows ([q1A, q1B] : List Str)) (List.prefix_refl _) (j8 _ rfl rfl (fun _ => U4 ..) fun gS => v8 (rows ([q1C] : List Str)) (List.prefix_refl _) (d5 gK rfl rfl (dx8) l6 mC fun _ _ => ?_)); refine b7 rfl (j6 rfl rfl rfl (j6 rfl rfl rfl (c3 rfl (c3 rfl (b8 (c8 (c7 (b7 rfl (y5 rfl rfl rfl ?_))))))))); refine b7 rfl ?_; refine n6 rfl rfl ?_ ?_
             ·intro hg13; have hg13' := hg13; try simp at hg13'
              refine k9 hg13 (b7 rfl (k9 hg13 (y5 rfl rfl rfl ?_))); refine p_f rfl rfl (bf1 hg13) rfl (b7 rfl ?_); refine n6 rfl rfl ?_ ?_
              ·intro hg14; have hg14' := hg14; try simp at hg14'
               refine k9 hg14 (b7 rfl (k9 hg14 (y5 rfl rfl rfl ?_))); refine p_f rfl rfl (bf1 hg14) rfl (b7 rfl ?_); refine n6 rfl rfl ?_ ?_
               ·intro hg15; have hg15' := hg15; try simp at hg15'
                refine k9 hg15 (b7 rfl (k9 hg15 (y5 rfl rfl rfl ?_))); refine p_f rfl rfl (bf1 hg15) rfl (b7 rfl ?_); refine n6 rfl rfl ?_ ?_
                ·intro hg16; have hg16' := hg16; try simp at hg16'
                 refine k9 hg16 (b7 rfl (k9 hg16 ?_)); refine d5 M1 rfl rfl (L9) l6 tK fun _ _ => k9 hg16 (d5 X8 rfl rfl (X4 slipL slipL (by decide)) l6 mC fun _ _ => ?_); refine k9 hg16 (cO rfl rfl ?_); refine p_f rfl rfl (bf1 hg16) rfl (b7 rfl ?_); refine n6 rfl rfl ?_ ?_
                 ·intro hg17; have hg17' := hg17; try simp at hg17'
                  refine k9 hg17 (b7 rfl (k9 hg17 ?_)); refine d5 D3 rfl rfl (D2 0) l6 tK fun _ _ => k9 hg17 (j8 _ rfl rfl (fun _ => r8 ..) fun gS => k9 hg17 (v8 (rows (d1L : List Mk)) (List.prefix_refl _) (d5 X8 rfl rfl (X4 d1L d1L (by decide)) l6 mC fun _ _ => ?_))); refine k9 hg17 (cO rfl rfl ?_); refine p_f rfl rfl (bf1 hg17) rfl (b7 rfl ?_); refine n6 rfl rfl ?_ ?_
                  ·intro hg18; have hg18' := hg18; try simp at hg18'
                   refine k9 hg18 (b7 rfl (k9 hg18 ?_)); refine d5 K1 rfl rfl (J9 0 q1C) l6 tK fun _ _ => k9 hg18 (d5 D3 rfl rfl (D2 1) l6 tK fun _ _ => k9 hg18 (j8 _ rfl rfl (fun _ => U5 ..) fun gS => k9 hg18 (v8 (rows ([(2, 0, q1C), (3, 1, [])] : List Mk)) (List.prefix_refl _) (d5 X8 rfl rfl (X4 [(2, 0, q1C), (3, 1, [])] [(2, 0, q1C), (3, 1, [])] (by decide)) l6 mC fun _ _ => ?_)))); refine k9 hg18 (cO rfl rfl ?_); refine p_f rfl rfl (bf1 hg18) rfl (b8 ?_)
                   first | refine k8 rfl (fun hb3 => ?_) (fun hb3 => ?_) | refine d9 rfl (fun hb3 => ?_) (fun hb3 => ?_)
                   ·have hb3' := hb3; try simp at hb3'
                   have hb3' := hb3; try simp at hb3'
                   refine d8 (d4 (c7 ?_)); refine d5 S7 rfl rfl (R4 0 sAbe) l6 tK fun _ _ => d5 D3 rfl rfl (D2 1) l6 tK fun _ _ => d5 D3 rfl rfl (D2 2) l6 tK fun _ _ => j8 _ rfl rfl (fun _ => jW ..) fun gS => v8 (rows (mkL : List Mk)) (List.prefix_refl _) ?_; refine c3 rfl (n7 ?_); refine d5 w8 rfl rfl (w7) l6 tK fun x18 hx18 => b7 rfl (d5 dD rfl rfl (bz8) l6 mC fun _ _ => ?_); refine b7 rfl (j6 rfl rfl rfl (j6 rfl rfl rfl (c3 rfl (c3 rfl (n7 ?_))))); refine d5 w8 rfl rfl (w7) l6 tK fun x19 hx19 => b7 rfl (d5 dD rfl rfl (bz7) l6 mC fun _ _ => ?_); refine b7 rfl (j6 rfl rfl rfl (j6 rfl rfl rfl (c3 rfl (n7 ?_)))); refine d5 I0 rfl rfl (H7) l6 tK fun y20 hy20 => j8 _ rfl rfl (fun _ => aE ..) fun gS => v8 (rows (pg1 : List Str)) (List.prefix_refl _) (d5 az1 rfl rfl (hj4 y20) l6 mC fun _ _ => ?_); refine b7 rfl (j6 rfl rfl rfl (j6 rfl rfl rfl (c3 rfl (c3 rfl (n7 ?_))))); refine d5 I0 rfl rfl (H7) l6 tK fun y21 hy21 => d5 zH rfl rfl (dx5 y21) l6 mC fun _ _ => ?_; refine b7 rfl (j6 rfl rfl rfl (j6 rfl rfl rfl (c3 rfl (c3 rfl (n7 ?_))))); refine d5 I0 rfl rfl (H7) l6 tK fun y22 hy22 => j8 _ rfl rfl (fun _ => aE ..) fun gS => v8 (rows (pg1 : List Str)) (List.prefix_refl _) (d5 lY rfl rfl (cj2 y22) l6 mC fun _ _ => ?_); refine b7 rfl (j6 rfl rfl rfl (j6 rfl rfl rfl (c3 rfl (c3 rfl (n7 ?_))))); refine d5 I0 rfl rfl (H7) l6 tK fun y23 hy23 => j8 _ rfl rfl (fun _ => U3 ..) fun gS => v8 (rows (pg2 : List Str)) (List.prefix_refl _) (d5 lY rfl rfl (cj1 y23) l6 mC fun _ _ => ?_); refine b7 rfl (j6 rfl rfl rfl (j6 rfl rfl rfl (c3 rfl (c3 rfl (b8 (c8 (c7 (b7 rfl (y5 rfl rfl rfl ?_))))))))); refine b7 rfl ?_; refine n6 rfl rfl ?_ ?_
                   ·intro hg19; have hg19' := hg19; try simp at hg19'
                    refine k9 hg19 (b7 rfl (k9 hg19 (y5 rfl rfl rfl ?_))); refine p_f rfl rfl (bf1 hg19) rfl (b7 rfl ?_); refine n6 rfl rfl ?_ ?_
                    ·intro hg20; have hg20' := hg20; try simp at hg20'
                     refine k9 hg20 (b7 rfl (k9 hg20 (y5 rfl rfl rfl ?_))); refine p_f rfl rfl (bf1 hg20) rfl (b7 rfl ?_); refine n6 rfl rfl ?_ ?_
                     ·intro hg21; have hg21' := hg21; try simp at hg21'
                      refine k9 hg21 (b7 rfl (k9 hg21 (y5 rfl rfl rfl ?_))); refine p_f rfl rfl (bf1 hg21) rfl (b7 rfl ?_); refine n6 rfl rfl ?_ ?_
                      ·intro hg22; have hg22' := hg22; try simp at hg22'
                       refine k9 hg22 (b7 rfl (k9 hg22 (y5 rfl rfl rfl ?_))); refine p_f rfl rfl (bf1 hg22) rfl (b7 rfl ?_); refine n6 rfl rfl ?_ ?_
                       ·intro hg23; have hg23' := hg23; try simp at hg23'
                        refine k9 hg23 (b7 rfl (k9 hg23 (y5 rfl rfl rfl ?_))); refine p_f rfl rfl (bf1 hg23) rfl (b7 rfl ?_); refine n6 rfl rfl ?_ ?_
                        ·intro hg24; have hg24' := hg24; try simp at hg24'
                         refine k9 hg24 (b7 rfl (k9 hg24 (y5 rfl rfl rfl ?_))); refine p_f rfl rfl (bf1 hg24) rfl (b7 rfl ?_); refine n6 rfl rfl ?_ ?_
                         ·intro hg25; have hg25' := hg25; try simp at hg25'
                          refine k9 hg25 (b7 rfl (k9 hg25 (y5 rfl rfl rfl ?_))); refine p_f rfl rfl (bf1 hg25) rfl (b7 rfl ?_); refine n6 rfl rfl ?_ ?_
                          ·intro hg26; have hg26' := hg26; try simp at hg26'
                           refine k9 hg26 (b7 rfl (k9 hg26 ?_)); refine j8 _ rfl rfl (fun _ => cM ..) fun gS => k9 hg26 (v8 (rows ([0, 1, 2] : List Int)) (List.prefix_refl _) (d5 aI rfl rfl (aG [0, 1, 2] [0, 1, 2] (by decide)) l6 mC fun _ _ => ?_)); refine k9 hg26 (cO rfl rfl ?_); refine p_f rfl rfl (bf1 hg26) rfl (b7 rfl ?_); refine n6 rfl rfl ?_ ?_
                           ·intro hg27; have hg27' := hg27; try simp at hg27'
                            refine k9 hg27 (b7 rfl (k9 hg27 ?_)); refine j8 _ rfl rfl (fun _ => jB ..) fun gS => k9 hg27 (v8 (rows ([1] : List Int)) (List.prefix_refl _) (d5 aI rfl rfl (aG [1] [1] (by decide)) l6 mC fun _ _ => ?_)); refine k9 hg27 (cO rfl rfl ?_); refine p_f rfl rfl (bf1 hg27) rfl (b7 rfl ?_); refine n6 rfl rfl ?_ ?_
                            ·intro hg28; have hg28' := hg28; try simp at hg28'
                             refine k9 hg28 (b7 rfl (k9 hg28 ?_)); refine A9 _ rfl rfl (fun _ => U7 ..) (k9 hg28 (A9 _ rfl rfl (fun _ => U7 ..) (k9 hg28 (A9 _ rfl rfl (fun _ => U7 ..) (k9 hg28 (j8 _ rfl rfl (fun _ => wA ..) fun gS => k9 hg28 (v8 (rows ([(sAnna, 1), (sBen, 1), (sCyd, 1)] : List Ty)) (List.prefix_refl _) (d5 zJ rfl rfl (yO [(sAnna, 1), (sBen, 1), (sCyd, 1)] [(sAnna, 1), (sBen, 1), (sCyd, 1)] (by decide)) l6 mC fun _ _ => ?_)))))))); refine k9 hg28 (cO rfl rfl ?_); refine p_f rfl rfl (bf1 hg28) rfl (b8 ?_)
                             first | refine k8 rfl (fun hb4 => ?_) (fun hb4 => ?_) | refine d9 rfl (fun hb4 => ?_) (fun hb4 => ?_)
                             ·have hb4' := hb4; try simp at hb4'
                             have hb4' := hb4; try simp at hb4'
                             refine d8 (d4 (c7 ?_)); refine j8 _ rfl rfl (fun _ => aE ..) fun g1 => ?_; refine j8 _ rfl rfl (fun _ => U3 ..) fun g2 => ?_; refine j8 _ rfl rfl (fun _ => aE ..) fun g3 => ?_; refine j8 _ rfl rfl (fun _ => gx7 ..) fun g4 => ?_; refine A9 _ rfl rfl (fun _ => O4 ..) ?_; refine A9 _ rfl rfl (fun _ => E5 ..) ?_; refine A9 _ rfl rfl (fun _ => E5 ..) ?_; refine j8 _ rfl rfl (fun _ => wC ..) fun g5 => ?_; refine c3 rfl (c3 rfl (b8 (yR ?_))); refine tQ (rows flL) (List.prefix_refl _) ?_; refine tQ (rows [(⟨some ⟨g1, 0, none⟩, 3, pk1⟩ : Sl Str), ⟨some ⟨g2, 0, none⟩, 2, pk2⟩, ⟨some ⟨g3, 0, none⟩, 3, pk3⟩]) (List.prefix_refl _) ?_; refine tQ (rows pk3) (List.prefix_refl _) ?_; refine tQ (rows pk2) (List.prefix_refl _) ?_; refine tQ (rows pk1) (List.prefix_refl _) ?_; refine rz7 (A := (k5 g4)) (ps := [(⟨some ⟨g1, 0, none⟩, 3, pk1⟩ : Sl Str), ⟨some ⟨g2, 0, none⟩, 2, pk2⟩, ⟨some ⟨g3, 0, none⟩, 3, pk3⟩]) mB (by intro w hw; simp only [List.mem_cons, List.not_mem_nil, or_false] at hw; rcases hw with rfl | rfl | rfl <;> repeat constructor) ?_
                             have htl : ∀ k, k < 3 → ([(⟨some ⟨g1, 0, none⟩, 3, pk1⟩ : Sl Str), ⟨some ⟨g2, 0, none⟩, 2, pk2⟩, ⟨some ⟨g3, 0, none⟩, 3, pk3⟩].getD k default).l = pkL k := by
                               intro k hk
                               rcases (show k = 0 ∨ k = 1 ∨ k = 2 by omega) with rfl | rfl | rfl <;> rfl
                             have h3 : [(⟨some ⟨g1, 0, none⟩, 3, pk1⟩ : Sl Str), ⟨some ⟨g2, 0, none⟩, 2, pk2⟩, ⟨some ⟨g3, 0, none⟩, 3, pk3⟩].length = 3 := rfl; generalize [(⟨some ⟨g1, 0, none⟩, 3, pk1⟩ : Sl Str), ⟨some ⟨g2, 0, none⟩, 2, pk2⟩, ⟨some ⟨g3, 0, none⟩, 3, pk3⟩] = tL at *; refine i4 (c3 rfl (b8 (k6 ?_))); refine y6 (β := Nat) ⟨fun k => k ≤ 3, fun k => [(20, .slice (k5 g4) 3 3), (21, .slice (k5 g5) 3 3), (22, int k)], fun _ => [], fun _ => [Row (k5 g4) (rows tL), Rows2 (k5 g4) tL, Row (k5 g5) (rows flL)]⟩ (fun k => 3 - k) 0 (Nat.zero_le _) mC nK mC fun k hk => ?_; simp only at hk; refine c8 (c7 (b7 rfl (b7 rfl ?_))); refine l8 rfl G2 rfl ?_; refine z8 rfl rfl rfl (b8 ?_)
                             first | refine k8 rfl (fun hb5 => ?_) (fun hb5 => ?_) | refine d9 rfl (fun hb5 => ?_) (fun hb5 => ?_)
                             ·have hb5' := hb5; try simp at hb5'
                              have hk2 : k < 3 := by omega
                              have hpk := htl k hk2; have hmp : (tL.getD k default) ∈ tL := W0 (by omega); refine d8 (d4 (c8 (k6 (c8 ?_)))); refine R6 ([]) (_) (.refl _) 13 [12, 11] mixed (by decide) (by decide) (by decide) rfl rfl rfl ?_; refine lT ⟨OutC × Option Addr × Option Addr, fun x => 2 ≤ x.1.2, fun x => .slice x.1.1 2 x.1.2, fun x => [Rows2 x.1.1 (agesP x)]⟩ rfl rfl rfl ?_ ?_
                              ·intro w1; refine d5 I0 rfl rfl (H7) l6 tK fun y hy => d6 ?_; exact X3 y hy rfl ⟨m0, tK⟩
                              refine u9 (fun w1 => d5 S7 rfl rfl (R4 2 sDan) l6 tK fun _ _ => (q_z rfl)) ?_; refine lT ⟨Nat, fun _ => True, fun g => .slice (k5 g) 1 1, fun g => [Row (k5 g) (rows [((1, 2, sDan) : Mk)])]⟩ rfl rfl rfl ?_ ?_
                              ·intro w1; refine j8 _ rfl rfl (fun _ => r8 ..) fun gS => d6 (R5 (rows [((1, 2, sDan) : Mk)]) (List.prefix_refl _) ?_); exact X3 gS tK rfl ⟨m0, tK⟩
                              refine v0 rfl (v0 rfl (u9 (fun w1 => z5 (α := Sl Str) tL k rfl G2 U1 rfl rfl rfl mB h3.symm (by omega) (by decide) (q_z rfl)) (u9 (fun w1 => b6 rfl j1 rfl (i9 mB (d7 (by omega) rfl)) (q_z rfl)) ?_)))
                              apply q9 _ rfl rfl rfl
                              ·intro y0 hy0 g2 _; intro w1; refine tO (A := (k5 g4)) (ps := tL) (p := (tL.getD k default)) mB hmp ?_; have hlk := hj1 (B := some ⟨g2, 0, none⟩) (cb := 1) (C := (tL.getD k default).a) (cc := (tL.getD k default).c) y0 hy0 hk2; rw [← hpk] at hlk; refine d5 pP rfl rfl (hlk) l6 mC fun _ _ => d6 ?_; exact l3 rfl
                              refine v0 rfl (u9 (fun w1 => j6 rfl rfl rfl (q_z rfl)) (u9 (fun w1 => j6 rfl rfl rfl (q_z rfl)) ?_)); refine sB ⟨Nat, fun _ => True, fun g => .pointer (k5 g), fun _ => [], fun g => [(g, .cells #[int 0, int 0] lJ (0, 0))]⟩ rfl rfl rfl ?_ ?_
                              ·intro w1; refine y9 rfl (fun _ => jZ _) fun gA => d6 ?_; exact X2 gA tK (fun _ => rfl) (.refl _) tK
                              refine hb_stL ⟨Nat, fun _ => True, fun _ => undef, fun _ => [], fun g => [(g, .cells #[int (flL.getD k default).1, int (flL.getD k default).2] lJ (0, 0))]⟩ [(23, 0)] rfl rfl rfl ?_ ?_
                              ·intro ρ; intro x11 hx11 hr11 _; intro w1; refine u0 rfl rfl M6 n8 (by rfl) (by rfl) (d6 ?_); exact ql_done x11 tK (fun h => by cases h) (fun p hp => by simp at hp; subst hp; exact hr11 rfl) (.refl _) tK
                              refine E8 ⟨rfl, ?_⟩; intro y hy g2 _ x11 hx11 x12 hx12 hl12; obtain rfl : x11 = x12 := ptr_inj (hl12 (23, 0) (by simp) rfl _ rfl); refine c3 rfl (b8 (c8 ?_)); refine V3 8 mixed (by decide) (by decide) rfl rfl (v0 rfl (u9 (fun w1 => y5 rfl rfl rfl (q_z rfl)) (v0 rfl ?_))); refine yV (t := 308) (want := false) rfl ?_ ?_
                              ·intro hg29; have hg29' := hg29; try simp at hg29'
                               apply q9 _ rfl rfl rfl
                               ·intro w1; refine k9 hg29 ?_
                                first | refine C8 rfl v5 n8 rfl mB (by rfl) ?_ | refine D6 rfl v5 n8 rfl mB (by rfl) ?_ | refine u3 rfl v5 n8 rfl rfl (q8 mB (s6 (by omega))) ?_
                                refine d6 ?_; exact l3 rfl
                               apply q9 _ rfl rfl rfl
                               ·intro w1; refine k9 hg29 (b7 rfl (d6 ?_)); exact l3 rfl
                               apply q9 _ rfl rfl rfl
                               ·intro w1; refine k9 hg29 (b7 rfl (d6 ?_)); exact l3 rfl
                               apply q9 _ rfl rfl rfl
                               ·intro w1; refine k9 hg29 (z5 (α := Int × Int) flL k rfl bx6 n8 rfl rfl rfl mB rfl (show k < 3 from hk2) (by decide) (d6 ?_)); exact l3 rfl
                               apply q9 _ rfl rfl rfl
                               ·intro w1; refine k9 hg29 (u3 rfl v5 n8 rfl rfl (q8 mB (s6 (l := flL) (i := k) (show k < 3 from hk2))) (d6 ?_)); exact l3 rfl
                               refine E8 ⟨rfl, ?_⟩; refine k9 hg29 (vS _ rfl rfl rfl (fun _ => rV ..) (fun _ => bx8 ..) (p_f rfl rfl (bf1 hg29) rfl (b8 ?_)))
                               first | refine k8 rfl (fun hb6 => ?_) (fun hb6 => ?_) | refine d9 rfl (fun hb6 => ?_) (fun hb6 => ?_)
                               ·have hb6' := hb6; try simp at hb6'
                               have hb6' := hb6; try simp at hb6'
                               refine d8 (u7 (d4 (i4 (b7 rfl ?_)))); refine v6 _ rfl rfl rfl rfl r6 ?_; refine c3 rfl (d6 ?_); exact again _ (k + 1) (by show k + 1 ≤ 3; omega) (D5 (by omega)) mC nK mC
                              intro hg29; have hg29' := hg29; try simp at hg29'
                             have hb5' := hb5; try simp at hb5'
                             refine s9 (E4 (u6 (d4 (c7 ?_)))); refine d5 M1 rfl rfl (L9) l6 tK fun _ _ => d5 zG rfl rfl (dx4) l6 mC fun _ _ => ?_; refine b7 rfl (j6 rfl rfl rfl (j6 rfl rfl rfl (c3 rfl (c3 rfl (n7 ?_))))); refine d5 pO rfl rfl (dx7) l6 tK fun _ _ => ?_; refine b7 rfl (j6 rfl rfl rfl (j6 rfl rfl rfl (j6 rfl rfl rfl (c3 rfl (c3 rfl (n7 ?_)))))); refine d5 pO rfl rfl (dx6) l6 tK fun _ _ => ?_; refine b7 rfl (j6 rfl rfl rfl (j6 rfl rfl rfl (j6 rfl rfl rfl (c3 rfl (c3 rfl (n7 (b7 rfl (E3 rfl rfl rfl ?_)))))))); refine b7 rfl ?_; refine n6 rfl rfl ?_ ?_
                             ·intro hg30; have hg30' := hg30; try simp at hg30'
                              refine k9 hg30 (b7 rfl (k9 hg30 (E3 rfl rfl rfl ?_))); refine p_t rfl rfl (bt1 hg30) rfl (b7 rfl ?_); refine n6 rfl rfl ?_ ?_
                              ·intro hg31; have hg31' := hg31; try simp at hg31'
                               refine k9 hg31 (b7 rfl (k9 hg31 (E3 rfl rfl rfl ?_))); refine p_t rfl rfl (bt1 hg31) rfl (b7 rfl ?_); refine n6 rfl rfl ?_ ?_
                               ·intro hg32; have hg32' := hg32; try simp at hg32'
                                refine k9 hg32 (b7 rfl (k9 hg32 (E3 rfl rfl rfl ?_))); refine p_t rfl rfl (bt1 hg32) rfl (b7 rfl ?_); refine n6 rfl rfl ?_ ?_
                                ·intro hg33; have hg33' := hg33; try simp at hg33'
                                 refine k9 hg33 (b7 rfl (k9 hg33 (E3 rfl rfl rfl ?_))); refine p_t rfl rfl (bt1 hg33) rfl (b7 rfl ?_); refine n6 rfl rfl ?_ ?_
                                 ·intro hg34; have hg34' := hg34; try simp at hg34'
                                  refine k9 hg34 (b7 rfl (k9 hg34 (mF rfl rfl rfl ?_))); refine p_t rfl rfl (bt1 hg34) rfl ?_; refine c3 rfl (b8 (l4 ?_))
                                  first | exact ret1 () rfl rfl rfl tK nK tK | exact ret1 () rfl (congrArg (fun b => some (Value.bool b)) (by decide +kernel)) rfl tK nK tK
                                 intro hg34; have hg34' := hg34; try simp at hg34'
                                intro hg33; have hg33' := hg33; try simp at hg33'
                               intro hg32; have hg32' := hg32; try simp at hg32'
                              intro hg31; have hg31' := hg31; try simp at hg31'
                             intro hg30; have hg30' := hg30; try simp at hg30'
                            intro hg28; have hg28' := hg28; try simp at hg28'
                           intro hg27; have hg27' := hg27; try simp at hg27'
                          intro hg26; have hg26' := hg26; try simp at hg26'
                         intro hg25; have hg25' := hg25; try simp at hg25'
                        intro hg24; have hg24' := hg24; try simp at hg24'
                       intro hg23; have hg23' := hg23; try simp at hg23'
                      intro hg22; have hg22' := hg22; try simp at hg22'
                     intro hg21; have hg21' := hg21; try simp at hg21'
                    intro hg20; have hg20' := hg20; try simp at hg20'
                   intro hg19; have hg19' := hg19; try simp at hg19'
                  intro hg18; have hg18' := hg18; try simp at hg18'
                 intro hg17; have hg17' := hg17; try simp at hg17'
                intro hg16; have hg16' := hg16; try simp at hg16'
               intro hg15; have hg15' := hg15; try simp at hg15'
              intro hg14; have hg14' := hg14; try simp at hg14'
             intro hg13; have hg13' := hg13; try simp at hg13'
            intro hg12; have hg12' := hg12; try simp at hg12'
           intro hg11; have hg11' := hg11; try simp at hg11'
          intro hg10; have hg10' := hg10; try simp at hg10'
         intro hg9; have hg9' := hg9; try simp at hg9'
        intro hg8; have hg8' := hg8; try simp at hg8'
       intro hg7; have hg7' := hg7; try simp at hg7'
      intro hg6; have hg6' := hg6; try simp at hg6'
     intro hg5; have hg5' := hg5; try simp at hg5'
    intro hg4; have hg4' := hg4; try simp at hg4'
   intro hg3; have hg3' := hg3; try simp at hg3'
  intro hg2; have hg2' := hg2; try simp at hg2'
 intro hg1; have hg1' := hg1; try simp at hg1'
end Go.Proofs.YtpfbbggmcbhboaaGreatDoor
end
section
namespace Go.W
open Go Go.RowKit Go.ChangeShapes Go.WideShapes
section
variable {H : Type} {enc : TypeId × Value → H} {P : Program} {w : World} {base : Nat} {spare : Nat → Bool} {held : Bool}
theorem pj1 {f : Nat} {args : List Value} {LI : List Fact} (h : Meets P f args ({ LI := LI, val := fun _ : Unit => .bool true } : Con Unit)) (hL : ∀ F ∈ LI, F.P w) : CallsB P f args.toArray w fun v w' => v = .bool true ∧ Below w.heap.size w w' := by
  refine (h w ⟨Ext.refl _ _, by simp, by simp, by simp, hL, by simp, fun F hF k hk => .inr (.inr ⟨F, hF, hk⟩)⟩).mono fun v w' hp => ?_; obtain ⟨_, rfl, _, hwi⟩ := hp; exact ⟨rfl, hwi.ext.below⟩
end
end Go.W
end
section
namespace Go.W
open Go Go.Conc
theorem Lv.at {P : Program} {fr : Frame} {w : World} {v : Value} (h : Lv P fr w v) (d : Nat) : Lv P fr (w.at d) v :=
  ⟨h.1, h.2.1, h.2.2.1, h.2.2.2.elim fun fn x => ⟨fn, x.1, fun d' => x.2 d'⟩⟩
theorem run_of {P : Program} {f : FuncId} {fn : Func} {t : Tmp} {args : Array Value} {W : World} {R : Value → World → Prop} (hf : P.funcs[f]? = some fn) (hres : fn.results = #[.tmp t]) (hin : P.inits.idxOf? f = none)
    (h : CallsB P f args W R) (hat : ∀ v w d, R v w → R v (w.at d)) :
    ∃ M last o w' t', runNT P (M + 1) (solo (G (Frame.enter P f args .normal) []) W) #[] = (.ended o w', t') ∧ runN P M (solo (G (Frame.enter P f args .normal) []) W) = .next last ∧ step P last = .ended o w' ∧ Conc.Good P R last o w' t' := by
  have hco := h [] (fun g w => ∃ v fr, g = G fr [] ∧ fr.fn = f ∧ Lv P fr w v ∧ R v w) (fun fr v w' hfr hR hl => co_done fun d => ⟨v, fr, rfl, hfr, hl.at d, hat _ _ _ hR⟩); obtain ⟨N, gs, g, w, sl, t0, q, B, r, h0, hL, hP, v, fr, rfl, hfr, hl, hR⟩ := hco W.drawn #[G (Frame.enter P f args .normal) []] none #[] (fun _ => 0) 0 rfl (leavers_one P _) past_nil
  have hG : Goes P true AtRel (fun _ _ es => ∀ e ∈ es, EvL noS B e) (AtEnd P noS B R) 0 (G fr []) w := by
    rintro w₁ ⟨d, rfl⟩; refine ⟨rfl, v, #[], ?_, by simp, hat _ _ _ hR⟩; obtain ⟨hm, hd, hn, fn', hf', hr⟩ := hl.at d; rw [hfr, hf] at hf'; obtain rfl := Option.some.inj hf'; have hf2 : P.funcs[fr.fn]? = some fn := by rw [hfr]; exact hf
    have hin2 : P.inits.idxOf? fr.fn = none := by rw [hfr]; exact hin
    have he : (results fn fr.tmps).events P (w.at d) #[] = #[] := events_results_tmp hres _ _; have hr0 : (results fn fr.tmps).run P (w.at d) = .ok v (w.at d) := hr d
    simp [G, stepG, unwind, doReturn, hn, hd, hm, hf2, hr0, he, hin2, GStep.after, seen]
  obtain ⟨M, last, o, w', t', e1, e2, e3, e4⟩ := beside_ends (P := P) (Post := R) (sl := sl) (fun _ _ _ h => h) h0 hL hP hG; have hrun : runNT P N (solo (G (Frame.enter P f args .normal) []) W) #[] = (.next (crowd gs w sl), t0) := r; refine ⟨N + M, last, o, w', t', ?_, ?_, e3, e4⟩
  · rw [Nat.add_assoc, hz3 hrun]; exact e1
  rw [runN_add, ← runNT_fst P _ _ #[], hrun]; exact e2
end Go.W
end
