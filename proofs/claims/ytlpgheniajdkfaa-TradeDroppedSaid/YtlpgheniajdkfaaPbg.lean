/- Follow, as the statements want it. -/
import Derived.Test.YtlpgheniajdkfaaPbf
namespace Go.Proofs.Ytlpgheniajdkfaa
open Go Go.W
set_option linter.unusedVariables false
set_option linter.unusedSimpArgs false
set_option maxRecDepth 20000
attribute [local irreducible] HL HC HQ HB Row Rows2 Blk Facts

theorem ask_one {t : Tr} {h : Int} (h0 : checkT t = 0) (h1 : 0 ≤ h ∧ h ≤ (t.hs.length : Int) - 1) : askE t [h] = 0 := by
  unfold askE
  rw [if_neg (by rw [Classical.not_not]; exact h0)]
  simp [h1]
theorem follow_no {t : Tr} {h : Int} (h0 : checkT t = 0) (h1 : 0 ≤ h ∧ h ≤ (t.hs.length : Int) - 1) (h2 : followT t h = none) : followE t h = (0, 0, 9) := by
  unfold followE
  rw [if_neg (by rw [Classical.not_not]; exact ask_one h0 h1), if_pos (by rw [h2]; rfl)]
theorem follow_is {t : Tr} {h e m : Int} (h0 : checkT t = 0) (h1 : 0 ≤ h ∧ h ≤ (t.hs.length : Int) - 1) (h2 : followT t h = some (e, m)) : followE t h = (e, m, 0) := by
  unfold followE
  rw [if_neg (by rw [Classical.not_not]; exact ask_one h0 h1), if_neg (by rw [h2]; simp), h2]
  rfl
theorem mayE_ok {t : Tr} (h : checkT t = 0) (b : Str) : mayE t b = (mayT t b, 0) := by
  unfold mayE
  rw [if_neg (by rw [Classical.not_not]; exact h)]
theorem may_len (t : Tr) (b : Str) : (mayT t b).length ≤ t.hs.length := by
  unfold mayT
  rw [List.length_map]
  exact Nat.le_trans (List.length_filter_le _ _) (by simp)
/-- May, of lists that are valid. -/
theorem may_is {A B : Option Addr} {ca cb : Nat} (cs : List Cl) (hs : List Hd) (s : Str) (hca : cs.length ≤ ca) (hcb : hs.length ≤ cb) (ha : ∀ h ∈ hs, h.2.2.2.l.length ≤ 1000000) (h0 : checkT (trOf cs hs) = 0) : Meets Try.prog F.trade_May [.agg #[.slice A cs.length ca, .slice B hs.length cb], str s] { LI := [Row A (rows cs), RowsF B hs Hd.row], inv := fun x : OutC => (mayT (trOf cs hs) s).length ≤ x.2, val := fun x => .tuple #[.slice x.1 (mayT (trOf cs hs) s).length x.2, int 0], LO := fun x => [Row x.1 (rows (mayT (trOf cs hs) s))] } := by
  have h := trade_May_meets (A := A) (B := B) (ca := ca) (cb := cb) cs hs s hca hcb ha
  rw [mayE_ok h0] at h
  exact h
theorem hd_12 {cs : List Cl} {hs : List Hd} (hok : TrOK (trOf cs hs)) {i : Nat} (hi : i < hs.length) : (hs.getD i default).1.length ≤ 12 := by
  have h := word_12 ((hok.h i (by rw [hs_len]; exact hi)).w)
  rw [show (trOf cs hs).hs.getD i default = (hs.getD i default).p from hd_get hi] at h
  exact h
theorem see_at {cs : List Cl} {hs : List Hd} (hok : TrOK (trOf cs hs)) {i : Nat} (hi : i < hs.length) : -1 ≤ (hs.getD i default).2.2.1 ∧ (hs.getD i default).2.2.1 < (hs.length : Int) ∧ ((hs.map Hd.p).getD i default).2.2.1 = (hs.getD i default).2.2.1 := by
  have hh := (hok.h i (by rw [hs_len]; exact hi)).s
  have e : (trOf cs hs).hs.getD i default = (hs.getD i default).p := hd_get hi
  rw [e, hs_len] at hh
  exact ⟨hh.1, hh.2.1, by rw [hd_get hi]; rfl⟩

end Go.Proofs.Ytlpgheniajdkfaa
