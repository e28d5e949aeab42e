/- Texts. -/

import Derived.Test.YtpihanmcnmlodaaGreatDoorBAi
import Derived.Test.YtpihanmcnmlodaaGreatDoorBAe
import Derived.Test.YtpihanmcnmlodaaGreatDoorBAh
set_option linter.unusedVariables false
set_option linter.unusedSimpArgs false
section
namespace Go.Proofs.YtpihanmcnmlodaaGreatDoor
open Go Go.W Tryz T F
set_option maxRecDepth 20000
attribute [local irreducible] HL HC HQ HB Row Rows2 Blk Facts
theorem rN : Meets prog y1 [.int .u64 1, .int .u64 0] { val := fun _ : Unit => .tuple #[.int .u64 0, .int .u64 0] } := by
 refine d3 A7 rfl n2 fun w0 => ?_; refine d4 (b6 rfl (b6 rfl (j4 (b4 rfl ?_)))); refine l1 _ rfl rfl rfl (fun _ => rfl) (fun _ => rfl) ?_; refine b6 rfl (j4 (b4 rfl ?_)); refine l1 _ rfl rfl rfl (fun _ => rfl) (fun _ => rfl) ?_; refine b6 rfl (j4 (b4 rfl ?_)); refine l1 _ rfl rfl rfl (fun _ => rfl) (fun _ => rfl) ?_; refine b6 rfl (j4 (b4 rfl ?_)); refine l1 _ rfl rfl rfl (fun _ => rfl) (fun _ => rfl) ?_; refine b6 rfl (j4 (b4 rfl (b4 rfl ?_))); refine l1 _ rfl rfl rfl (fun _ => rfl) (fun _ => rfl) ?_; refine b6 rfl (j4 (b4 rfl (b4 rfl ?_))); refine l1 _ rfl rfl rfl (fun _ => rfl) (fun _ => rfl) (b4 rfl (l1 _ rfl rfl rfl (fun _ => rfl) (fun _ => rfl) (l1 _ rfl rfl rfl (fun _ => rfl) (fun _ => rfl) ?_))); refine b6 rfl (j4 (b4 rfl ?_)); refine l1 _ rfl rfl rfl (fun _ => rfl) (fun _ => rfl) ?_; refine b6 rfl (j4 (b4 rfl ?_)); refine l1 _ rfl rfl rfl (fun _ => rfl) (fun _ => rfl) ?_; refine b6 rfl (j4 (b4 rfl (b4 rfl (b4 rfl ?_)))); refine l1 _ rfl rfl rfl (fun _ => rfl) (fun _ => rfl) (l1 _ rfl rfl rfl (fun _ => rfl) (fun _ => rfl) ?_); refine b6 rfl (j4 (b4 rfl (b4 rfl ?_))); refine l1 _ rfl rfl rfl (fun _ => rfl) (fun _ => rfl) (b4 rfl (l1 _ rfl rfl rfl (fun _ => rfl) (fun _ => rfl) (b4 rfl (l1 _ rfl rfl rfl (fun _ => rfl) (fun _ => rfl) (l1 _ rfl rfl rfl (fun _ => rfl) (fun _ => rfl) ?_))))); refine b6 rfl (j4 (b4 rfl (b4 rfl ?_))); refine l1 _ rfl rfl rfl (fun _ => rfl) (fun _ => rfl) ?_; refine b6 rfl (c3 (j6 ?_)); exact ret2 () rfl rfl rfl rfl rfl tK nK tK
theorem rM : Meets prog y1 [.int .u64 1, .int .u64 1] { val := fun _ : Unit => .tuple #[.int .u64 0, .int .u64 1] } := by
 refine d3 A7 rfl n2 fun w0 => ?_; refine d4 (b6 rfl (b6 rfl (j4 (b4 rfl ?_)))); refine l1 _ rfl rfl rfl (fun _ => rfl) (fun _ => rfl) ?_; refine b6 rfl (j4 (b4 rfl ?_)); refine l1 _ rfl rfl rfl (fun _ => rfl) (fun _ => rfl) ?_; refine b6 rfl (j4 (b4 rfl ?_)); refine l1 _ rfl rfl rfl (fun _ => rfl) (fun _ => rfl) ?_; refine b6 rfl (j4 (b4 rfl ?_)); refine l1 _ rfl rfl rfl (fun _ => rfl) (fun _ => rfl) ?_; refine b6 rfl (j4 (b4 rfl (b4 rfl ?_))); refine l1 _ rfl rfl rfl (fun _ => rfl) (fun _ => rfl) ?_; refine b6 rfl (j4 (b4 rfl (b4 rfl ?_))); refine l1 _ rfl rfl rfl (fun _ => rfl) (fun _ => rfl) (b4 rfl (l1 _ rfl rfl rfl (fun _ => rfl) (fun _ => rfl) (l1 _ rfl rfl rfl (fun _ => rfl) (fun _ => rfl) ?_))); refine b6 rfl (j4 (b4 rfl ?_)); refine l1 _ rfl rfl rfl (fun _ => rfl) (fun _ => rfl) ?_; refine b6 rfl (j4 (b4 rfl ?_)); refine l1 _ rfl rfl rfl (fun _ => rfl) (fun _ => rfl) ?_; refine b6 rfl (j4 (b4 rfl (b4 rfl (b4 rfl ?_)))); refine l1 _ rfl rfl rfl (fun _ => rfl) (fun _ => rfl) (l1 _ rfl rfl rfl (fun _ => rfl) (fun _ => rfl) ?_); refine b6 rfl (j4 (b4 rfl (b4 rfl ?_))); refine l1 _ rfl rfl rfl (fun _ => rfl) (fun _ => rfl) (b4 rfl (l1 _ rfl rfl rfl (fun _ => rfl) (fun _ => rfl) (b4 rfl (l1 _ rfl rfl rfl (fun _ => rfl) (fun _ => rfl) (l1 _ rfl rfl rfl (fun _ => rfl) (fun _ => rfl) ?_))))); refine b6 rfl (j4 (b4 rfl (b4 rfl ?_))); refine l1 _ rfl rfl rfl (fun _ => rfl) (fun _ => rfl) ?_; refine b6 rfl (c3 (j6 ?_)); exact ret2 () rfl rfl rfl rfl rfl tK nK tK
theorem rL : Meets prog y1 [.int .u64 1, .int .u64 2] { val := fun _ : Unit => .tuple #[.int .u64 0, .int .u64 2] } := by
 refine d3 A7 rfl n2 fun w0 => ?_; refine d4 (b6 rfl (b6 rfl (j4 (b4 rfl ?_)))); refine l1 _ rfl rfl rfl (fun _ => rfl) (fun _ => rfl) ?_; refine b6 rfl (j4 (b4 rfl ?_)); refine l1 _ rfl rfl rfl (fun _ => rfl) (fun _ => rfl) ?_; refine b6 rfl (j4 (b4 rfl ?_)); refine l1 _ rfl rfl rfl (fun _ => rfl) (fun _ => rfl) ?_; refine b6 rfl (j4 (b4 rfl ?_)); refine l1 _ rfl rfl rfl (fun _ => rfl) (fun _ => rfl) ?_; refine b6 rfl (j4 (b4 rfl (b4 rfl ?_))); refine l1 _ rfl rfl rfl (fun _ => rfl) (fun _ => rfl) ?_; refine b6 rfl (j4 (b4 rfl (b4 rfl ?_))); refine l1 _ rfl rfl rfl (fun _ => rfl) (fun _ => rfl) (b4 rfl (l1 _ rfl rfl rfl (fun _ => rfl) (fun _ => rfl) (l1 _ rfl rfl rfl (fun _ => rfl) (fun _ => rfl) ?_))); refine b6 rfl (j4 (b4 rfl ?_)); refine l1 _ rfl rfl rfl (fun _ => rfl) (fun _ => rfl) ?_; refine b6 rfl (j4 (b4 rfl ?_)); refine l1 _ rfl rfl rfl (fun _ => rfl) (fun _ => rfl) ?_; refine b6 rfl (j4 (b4 rfl (b4 rfl (b4 rfl ?_)))); refine l1 _ rfl rfl rfl (fun _ => rfl) (fun _ => rfl) (l1 _ rfl rfl rfl (fun _ => rfl) (fun _ => rfl) ?_); refine b6 rfl (j4 (b4 rfl (b4 rfl ?_))); refine l1 _ rfl rfl rfl (fun _ => rfl) (fun _ => rfl) (b4 rfl (l1 _ rfl rfl rfl (fun _ => rfl) (fun _ => rfl) (b4 rfl (l1 _ rfl rfl rfl (fun _ => rfl) (fun _ => rfl) (l1 _ rfl rfl rfl (fun _ => rfl) (fun _ => rfl) ?_))))); refine b6 rfl (j4 (b4 rfl (b4 rfl ?_))); refine l1 _ rfl rfl rfl (fun _ => rfl) (fun _ => rfl) ?_; refine b6 rfl (c3 (j6 ?_)); exact ret2 () rfl rfl rfl rfl rfl tK nK tK
theorem rK : Meets prog y1 [.int .u64 1, .int .u64 3] { val := fun _ : Unit => .tuple #[.int .u64 0, .int .u64 3] } := by
 refine d3 A7 rfl n2 fun w0 => ?_; refine d4 (b6 rfl (b6 rfl (j4 (b4 rfl ?_)))); refine l1 _ rfl rfl rfl (fun _ => rfl) (fun _ => rfl) ?_; refine b6 rfl (j4 (b4 rfl ?_)); refine l1 _ rfl rfl rfl (fun _ => rfl) (fun _ => rfl) ?_; refine b6 rfl (j4 (b4 rfl ?_)); refine l1 _ rfl rfl rfl (fun _ => rfl) (fun _ => rfl) ?_; refine b6 rfl (j4 (b4 rfl ?_)); refine l1 _ rfl rfl rfl (fun _ => rfl) (fun _ => rfl) ?_; refine b6 rfl (j4 (b4 rfl (b4 rfl ?_))); refine l1 _ rfl rfl rfl (fun _ => rfl) (fun _ => rfl) ?_; refine b6 rfl (j4 (b4 rfl (b4 rfl ?_))); refine l1 _ rfl rfl rfl (fun _ => rfl) (fun _ => rfl) (b4 rfl (l1 _ rfl rfl rfl (fun _ => rfl) (fun _ => rfl) (l1 _ rfl rfl rfl (fun _ => rfl) (fun _ => rfl) ?_))); refine b6 rfl (j4 (b4 rfl ?_)); refine l1 _ rfl rfl rfl (fun _ => rfl) (fun _ => rfl) ?_; refine b6 rfl (j4 (b4 rfl ?_)); refine l1 _ rfl rfl rfl (fun _ => rfl) (fun _ => rfl) ?_; refine b6 rfl (j4 (b4 rfl (b4 rfl (b4 rfl ?_)))); refine l1 _ rfl rfl rfl (fun _ => rfl) (fun _ => rfl) (l1 _ rfl rfl rfl (fun _ => rfl) (fun _ => rfl) ?_); refine b6 rfl (j4 (b4 rfl (b4 rfl ?_))); refine l1 _ rfl rfl rfl (fun _ => rfl) (fun _ => rfl) (b4 rfl (l1 _ rfl rfl rfl (fun _ => rfl) (fun _ => rfl) (b4 rfl (l1 _ rfl rfl rfl (fun _ => rfl) (fun _ => rfl) (l1 _ rfl rfl rfl (fun _ => rfl) (fun _ => rfl) ?_))))); refine b6 rfl (j4 (b4 rfl (b4 rfl ?_))); refine l1 _ rfl rfl rfl (fun _ => rfl) (fun _ => rfl) ?_; refine b6 rfl (c3 (j6 ?_)); exact ret2 () rfl rfl rfl rfl rfl tK nK tK
theorem rJ : Meets prog y1 [.int .u64 1, .int .u64 4] { val := fun _ : Unit => .tuple #[.int .u64 0, .int .u64 4] } := by
 refine d3 A7 rfl n2 fun w0 => ?_; refine d4 (b6 rfl (b6 rfl (j4 (b4 rfl ?_)))); refine l1 _ rfl rfl rfl (fun _ => rfl) (fun _ => rfl) ?_; refine b6 rfl (j4 (b4 rfl ?_)); refine l1 _ rfl rfl rfl (fun _ => rfl) (fun _ => rfl) ?_; refine b6 rfl (j4 (b4 rfl ?_)); refine l1 _ rfl rfl rfl (fun _ => rfl) (fun _ => rfl) ?_; refine b6 rfl (j4 (b4 rfl ?_)); refine l1 _ rfl rfl rfl (fun _ => rfl) (fun _ => rfl) ?_; refine b6 rfl (j4 (b4 rfl (b4 rfl ?_))); refine l1 _ rfl rfl rfl (fun _ => rfl) (fun _ => rfl) ?_; refine b6 rfl (j4 (b4 rfl (b4 rfl ?_))); refine l1 _ rfl rfl rfl (fun _ => rfl) (fun _ => rfl) (b4 rfl (l1 _ rfl rfl rfl (fun _ => rfl) (fun _ => rfl) (l1 _ rfl rfl rfl (fun _ => rfl) (fun _ => rfl) ?_))); refine b6 rfl (j4 (b4 rfl ?_)); refine l1 _ rfl rfl rfl (fun _ => rfl) (fun _ => rfl) ?_; refine b6 rfl (j4 (b4 rfl ?_)); refine l1 _ rfl rfl rfl (fun _ => rfl) (fun _ => rfl) ?_; refine b6 rfl (j4 (b4 rfl (b4 rfl (b4 rfl ?_)))); refine l1 _ rfl rfl rfl (fun _ => rfl) (fun _ => rfl) (l1 _ rfl rfl rfl (fun _ => rfl) (fun _ => rfl) ?_); refine b6 rfl (j4 (b4 rfl (b4 rfl ?_))); refine l1 _ rfl rfl rfl (fun _ => rfl) (fun _ => rfl) (b4 rfl (l1 _ rfl rfl rfl (fun _ => rfl) (fun _ => rfl) (b4 rfl (l1 _ rfl rfl rfl (fun _ => rfl) (fun _ => rfl) (l1 _ rfl rfl rfl (fun _ => rfl) (fun _ => rfl) ?_))))); refine b6 rfl (j4 (b4 rfl (b4 rfl ?_))); refine l1 _ rfl rfl rfl (fun _ => rfl) (fun _ => rfl) ?_; refine b6 rfl (c3 (j6 ?_)); exact ret2 () rfl rfl rfl rfl rfl tK nK tK
theorem rI : Meets prog y1 [.int .u64 1, .int .u64 5] { val := fun _ : Unit => .tuple #[.int .u64 0, .int .u64 5] } := by
 refine d3 A7 rfl n2 fun w0 => ?_; refine d4 (b6 rfl (b6 rfl (j4 (b4 rfl ?_)))); refine l1 _ rfl rfl rfl (fun _ => rfl) (fun _ => rfl) ?_; refine b6 rfl (j4 (b4 rfl ?_)); refine l1 _ rfl rfl rfl (fun _ => rfl) (fun _ => rfl) ?_; refine b6 rfl (j4 (b4 rfl ?_)); refine l1 _ rfl rfl rfl (fun _ => rfl) (fun _ => rfl) ?_; refine b6 rfl (j4 (b4 rfl ?_)); refine l1 _ rfl rfl rfl (fun _ => rfl) (fun _ => rfl) ?_; refine b6 rfl (j4 (b4 rfl (b4 rfl ?_))); refine l1 _ rfl rfl rfl (fun _ => rfl) (fun _ => rfl) ?_; refine b6 rfl (j4 (b4 rfl (b4 rfl ?_))); refine l1 _ rfl rfl rfl (fun _ => rfl) (fun _ => rfl) (b4 rfl (l1 _ rfl rfl rfl (fun _ => rfl) (fun _ => rfl) (l1 _ rfl rfl rfl (fun _ => rfl) (fun _ => rfl) ?_))); refine b6 rfl (j4 (b4 rfl ?_)); refine l1 _ rfl rfl rfl (fun _ => rfl) (fun _ => rfl) ?_; refine b6 rfl (j4 (b4 rfl ?_)); refine l1 _ rfl rfl rfl (fun _ => rfl) (fun _ => rfl) ?_; refine b6 rfl (j4 (b4 rfl (b4 rfl (b4 rfl ?_)))); refine l1 _ rfl rfl rfl (fun _ => rfl) (fun _ => rfl) (l1 _ rfl rfl rfl (fun _ => rfl) (fun _ => rfl) ?_); refine b6 rfl (j4 (b4 rfl (b4 rfl ?_))); refine l1 _ rfl rfl rfl (fun _ => rfl) (fun _ => rfl) (b4 rfl (l1 _ rfl rfl rfl (fun _ => rfl) (fun _ => rfl) (b4 rfl (l1 _ rfl rfl rfl (fun _ => rfl) (fun _ => rfl) (l1 _ rfl rfl rfl (fun _ => rfl) (fun _ => rfl) ?_))))); refine b6 rfl (j4 (b4 rfl (b4 rfl ?_))); refine l1 _ rfl rfl rfl (fun _ => rfl) (fun _ => rfl) ?_; refine b6 rfl (c3 (j6 ?_)); exact ret2 () rfl rfl rfl rfl rfl tK nK tK
theorem rH : Meets prog y1 [.int .u64 1, .int .u64 6] { val := fun _ : Unit => .tuple #[.int .u64 0, .int .u64 6] } := by
 refine d3 A7 rfl n2 fun w0 => ?_; refine d4 (b6 rfl (b6 rfl (j4 (b4 rfl ?_)))); refine l1 _ rfl rfl rfl (fun _ => rfl) (fun _ => rfl) ?_; refine b6 rfl (j4 (b4 rfl ?_)); refine l1 _ rfl rfl rfl (fun _ => rfl) (fun _ => rfl) ?_; refine b6 rfl (j4 (b4 rfl ?_)); refine l1 _ rfl rfl rfl (fun _ => rfl) (fun _ => rfl) ?_; refine b6 rfl (j4 (b4 rfl ?_)); refine l1 _ rfl rfl rfl (fun _ => rfl) (fun _ => rfl) ?_; refine b6 rfl (j4 (b4 rfl (b4 rfl ?_))); refine l1 _ rfl rfl rfl (fun _ => rfl) (fun _ => rfl) ?_; refine b6 rfl (j4 (b4 rfl (b4 rfl ?_))); refine l1 _ rfl rfl rfl (fun _ => rfl) (fun _ => rfl) (b4 rfl (l1 _ rfl rfl rfl (fun _ => rfl) (fun _ => rfl) (l1 _ rfl rfl rfl (fun _ => rfl) (fun _ => rfl) ?_))); refine b6 rfl (j4 (b4 rfl ?_)); refine l1 _ rfl rfl rfl (fun _ => rfl) (fun _ => rfl) ?_; refine b6 rfl (j4 (b4 rfl ?_)); refine l1 _ rfl rfl rfl (fun _ => rfl) (fun _ => rfl) ?_; refine b6 rfl (j4 (b4 rfl (b4 rfl (b4 rfl ?_)))); refine l1 _ rfl rfl rfl (fun _ => rfl) (fun _ => rfl) (l1 _ rfl rfl rfl (fun _ => rfl) (fun _ => rfl) ?_); refine b6 rfl (j4 (b4 rfl (b4 rfl ?_))); refine l1 _ rfl rfl rfl (fun _ => rfl) (fun _ => rfl) (b4 rfl (l1 _ rfl rfl rfl (fun _ => rfl) (fun _ => rfl) (b4 rfl (l1 _ rfl rfl rfl (fun _ => rfl) (fun _ => rfl) (l1 _ rfl rfl rfl (fun _ => rfl) (fun _ => rfl) ?_))))); refine b6 rfl (j4 (b4 rfl (b4 rfl ?_))); refine l1 _ rfl rfl rfl (fun _ => rfl) (fun _ => rfl) ?_; refine b6 rfl (c3 (j6 ?_)); exact ret2 () rfl rfl rfl rfl rfl tK nK tK
theorem mX (n : Nat) (hn : n ≤ 6) : Meets prog y1 [.int .u64 1, .int .u64 (n : Int)] { val := fun _ : Unit => .tuple #[.int .u64 0, .int .u64 (n : Int)] } := by
  match n, hn with
  | 0, _ => exact rN
  | 1, _ => exact rM
  | 2, _ => exact rL
  | 3, _ => exact rK
  | 4, _ => exact rJ
  | 5, _ => exact rI
  | 6, _ => exact rH
theorem wrapu {n : Nat} (h : n ≤ 1000000) : IntKind.u64.wrap (n : Int) = n := IntWalk.u64_in _ (by omega)
theorem wrapi {n : Nat} (h : n ≤ 1000000) : IntKind.i64.wrap (n : Int) = n := IntWalk.i64_in _ (by omega)
theorem kz0 {m k : Nat} {v : Value} {l : List Value} (h : l.take k = List.replicate k v) (hm : k + m ≤ l.length) : (l.take k ++ List.replicate m v ++ l.drop (k + m)).take (k + m) = List.replicate (k + m) v := by
  rw [h, List.replicate_append_replicate]; exact List.take_left' (by simp)
theorem rep_get {k m : Nat} {v : Value} {cu : Array Value} (h : cu.toList.take k = List.replicate k v) (hm : m ≤ k) (i : Nat) (u : Value) (hu : (List.replicate m v)[i]? = some u) : cu[0 + i]? = some u := by
  rw [List.getElem?_replicate] at hu
  split at hu
  · rename_i hi
    cases hu
    have h2 : (cu.toList.take k)[i]? = some v := by rw [h, List.getElem?_replicate, if_pos (by omega)]
    rw [List.getElem?_take, if_pos (by omega)] at h2; rw [Nat.zero_add]
    simpa using h2
  cases hu
theorem cut_k {g n k : Nat} (h : k < n) : cutA (i7 g) n k 1 = some ⟨g, k, none⟩ := by
  rw [cutA, if_neg (by omega)]
  simp [Addr.add]
  omega
theorem dj9 (x : Int) : ∀ n : Nat, rows (List.replicate n x) = List.replicate n (int x)
  | 0 => rfl
  | n + 1 => by
    rw [List.replicate_succ, List.replicate_succ, ← dj9 x n]
    rfl
theorem qK (n : Nat) (hn : n ≤ 6) : Meets prog Z7 [.int .u64 1, .int .u64 (n : Int)] { val := fun _ : Unit => .tuple #[.int .u64 0, .int .u64 (n : Int)] } := by
 refine d3 sD rfl n2 fun w0 => ?_; refine d4 (b6 rfl (b6 rfl (c3 (d1 (c_f rfl rfl (i4 (c7 (d4 ?_)))))))); refine b4 rfl (b4 rfl ?_); refine i5 nM rfl rfl (mX n hn) k8 tK fun _ _ => ?_; refine b4 rfl (k4 rfl rfl rfl (k4 rfl rfl rfl (b6 rfl (b6 rfl (j4 (b4 rfl (b4 rfl (b6 rfl ?_)))))))); refine b6 rfl (c3 (j6 ?_)); exact ret2 () rfl rfl rfl rfl rfl tK nK tK
set_option maxHeartbeats 1000000 in
theorem hU {b0 cb : Nat} (x : Int) (n : Nat) (h0 : 0 < n) (hn : n ≤ 6) : Meets prog M9 [.slice (i7 b0) 1 cb, int n] { LI := [Row (i7 b0) (rows [x])], val := fun g : Nat => .slice (i7 g) n n, hpO := fun g => [(g, .cells (rows (List.replicate n x)).toArray y2 (0, 0))] } := by
 refine d3 jZ rfl n2 fun w0 => ?_; refine d4 (b6 rfl (c3 (d1 (d4 (b4 rfl (u7 rfl rfl rfl (c3 ?_)))))))
 first | refine j9 rfl (fun hb1 => ?_) (fun hb1 => ?_) | refine d6 rfl (fun hb1 => ?_) (fun hb1 => ?_)
 ·exact absurd hb1 (by omega)
 have hb1' := hb1; try simp at hb1'
 refine i4 (c7 (d4 (b4 rfl ?_))); refine k5 rfl j2 rfl (nZ 1 rfl cI vH rfl (wrapu (n := 1) (by decide)) (b4 rfl (nZ (n : Int) rfl cI vH rfl (wrapu (by omega)) (i5 qQ rfl rfl (qK n hn) k8 tK fun _ _ => ?_)))); refine b4 rfl (k4 rfl rfl rfl (k4 rfl rfl rfl (b6 rfl (b6 rfl (c3 (d1 (d4 (b4 rfl (K5 rfl rfl rfl ?_))))))))); refine b4 rfl ?_; refine q6 rfl rfl ?_ ?_
 ·intro hg1; have hg1' := hg1; try simp at hg1'
  refine k7 hg1 (b4 rfl (k7 hg1 (K5 rfl rfl rfl ?_))); refine p_f rfl rfl (bf1 hg1) rfl (c3 ?_)
  first | refine j9 rfl (fun hb2 => ?_) (fun hb2 => ?_) | refine d6 rfl (fun hb2 => ?_) (fun hb2 => ?_)
  ·exact absurd hb2 (by omega)
  have hb2' := hb2; try simp at hb2'
  refine i4 (c7 (d4 (b4 rfl ?_))); refine nZ (n : Int) rfl vH cI rfl (wrapi (by omega)) (r_makeN (n := n) I5 rfl rfl rfl rfl rfl (by omega) (by omega) fun gM cur hcs => ?_); refine b6 rfl (j4 (b4 rfl (b4 rfl ?_))); refine hj4 (cs := [int x]) (off := 0) rfl j2 k6 rfl rfl k8 (show 1 = Nat.min 1 n from (Nat.min_eq_left h0).symm) (w5 (cs := [int x]) (j := 0) mB (fun i u hu => by rw [Nat.zero_add]; exact hu)) (by simp; omega) (by intro v hv; rw [List.mem_singleton.1 hv]; rfl) ?_; refine b6 rfl (c3 (d1 (i8 ?_))); refine p6 (β := Nat × Array Value) ⟨fun y => 1 ≤ y.1 ∧ y.1 ≤ n ∧ y.2.size = n ∧ y.2.toList.take y.1 = List.replicate y.1 (int x), fun y => [(7, .slice (i7 gM) n n), (8, int y.1)], fun y => [(gM, .cells y.2 y2 (0, 0))], fun _ => []⟩ (fun y => n - y.1) (1, _) ⟨Nat.le_refl _, h0, by simp; omega, by simp⟩ mC (List.Sublist.refl _) tK fun y hy => ?_; obtain ⟨k, cu⟩ := y; obtain ⟨h1, hk, hcu, ht⟩ := hy; simp only at h1 hk hcu ht; refine d1 (d4 (b4 rfl (b4 rfl ?_))); refine k5 rfl j2 rfl ?_; refine u7 rfl rfl rfl (c3 ?_)
  first | refine j9 rfl (fun hb3 => ?_) (fun hb3 => ?_) | refine d6 rfl (fun hb3 => ?_) (fun hb3 => ?_)
  ·have hb3' := hb3; try simp at hb3'
   have hk2 : k < n := by omega
   obtain ⟨m, hm, hm1, hm2, hm3⟩ : ∃ m, m = Nat.min k (n - k) ∧ 1 ≤ m ∧ m ≤ k ∧ m ≤ n - k := ⟨min k (n - k), rfl, by omega, by omega, by omega⟩; refine i4 (c7 (i8 ?_)); refine I7 ([(gM, .cells cu y2 (0, 0))]) ([]) k8 8 [7] mixed (by decide) (by decide) (by decide) rfl rfl rfl (p9 rfl (p9 rfl (p9 rfl (m6 (fun w1 => gz6 k rfl j2 k6 rfl rfl rfl (by omega) (q_z rfl)) (p9 rfl (p9 rfl (m6 (fun w1 => rD k rfl j2 k6 rfl rfl rfl (by omega) (q_z rfl)) ?_))))))); refine qU ⟨Array Value, fun c2 => c2.size = n ∧ c2.toList.take (k + m) = List.replicate (k + m) (int x), fun _ => int (m : Int), fun _ => [], fun c2 => [(gM, Obj.cells c2 y2 (0, 0))]⟩ rfl rfl rfl ?_ ?_
   ·intro w1; refine hj4 (g := gM) (off := k) (ad := ⟨gM, 0, none⟩) (cs := List.replicate m (int x)) rfl j2 k6 (show ev _ _ = some (.slice (some ⟨gM, k, none⟩) (n - k) (n - k)) from congrArg (fun A => some (Value.slice A (n - k) (n - k))) (cut_k hk2)) rfl k8 (by rw [List.length_replicate]; exact hm) (wW (List.mem_cons_self ..) (rep_get ht hm2)) (by rw [List.length_replicate]; omega) (by intro v hv; rw [List.eq_of_mem_replicate hv]; rfl) ?_; refine b7 ?_; exact P5 _ ⟨by simp; omega, by rw [List.length_replicate]; exact kz0 ht (by simp; omega)⟩ (fun _ => congrArg (fun z : Nat => some (int (z : Int))) List.length_replicate) (.refl _) tK
   refine y8 ⟨rfl, ?_⟩; intro c2 hc2; refine r4 _ rfl rfl rfl rfl m7 ?_; refine b6 rfl (b7 (q8 ?_)); exact again _ (k + m, c2) ⟨by show 1 ≤ k + m; omega, by show k + m ≤ n; omega, hc2.1, hc2.2⟩ (by show n - (k + m) < n - k; omega) mC (List.Sublist.refl _) tK
  have hb3' := hb3; try simp at hb3'
  obtain rfl : k = n := by omega
  obtain rfl : cu = (rows (List.replicate k x)).toArray := by
    rw [dj9, ← ht, List.take_of_length_le (by simp; omega)]
  refine m4 (v6 (l9 (c7 (d4 (b4 rfl (b6 rfl (c3 (j6 ?_)))))))); exact ret1 gM rfl rfl rfl tK (List.Sublist.refl _) tK
 intro hg1; have hg1' := hg1; try simp at hg1'
attribute [local irreducible] KC KL
theorem zO : ∀ {n : Nat} {l : List Nat}, l.Nodup → (∀ y ∈ l, y < n) → l.length ≤ n
  | 0, [], _, _ => Nat.le_refl _
  | 0, x :: l, _, h => by have := h x (by simp); omega
  | n + 1, l, hnd, h => by
    have h1 := zO (n := n) (hnd.erase n) fun y hy => by
      have h2 := (List.Nodup.mem_erase_iff hnd).1 hy; have h3 := h y h2.2; have := h2.1
      omega
    rw [List.length_erase] at h1
    split at h1 <;> omega
section
variable {n : Nat} {e : Edges} {h : Nat}
abbrev dAt (ds : List Int) (i : Nat) : Int := ds.getD i default
structure Bf (n : Nat) (e : Edges) (h : Nat) (ds : List Int) : Prop where
  len : ds.length = n
  lo : ∀ i, i < n → -1 ≤ dAt ds i
  at_ : ∀ i, i < n → 0 ≤ dAt ds i → reachB n e h (dAt ds i).toNat i = true ∧ ∀ m, m < (dAt ds i).toNat → reachB n e h m i = false
structure Bo (n : Nat) (e : Edges) (h : Nat) (k : Nat) (ds : List Int) (q : List Nat) : Prop where
  b : Bf n e h ds
  nd : q.Nodup
  inq : ∀ y ∈ q, y < n ∧ (dAt ds y = (k : Int) ∨ dAt ds y = (k : Int) + 1)
  srt : q.Pairwise fun a b => dAt ds a ≤ dAt ds b
  pr : ∀ i, i < n → 0 ≤ dAt ds i → i ∉ q → ∀ s, s < n → e i s = true → 0 ≤ dAt ds s
  lv : ∀ i, i < n → reachB n e h k i = true → 0 ≤ dAt ds i
structure Br (n : Nat) (e : Edges) (h : Nat) (k : Nat) (x : Nat) (ds : List Int) (q : List Nat) : Prop where
  b : Bf n e h ds
  hx : x < n
  dx : dAt ds x = (k : Int)
  nd : q.Nodup
  inq : ∀ y ∈ q, y < n ∧ (dAt ds y = (k : Int) ∨ dAt ds y = (k : Int) + 1)
  srt : q.Pairwise fun a b => dAt ds a ≤ dAt ds b
  pr : ∀ i, i < n → 0 ≤ dAt ds i → i ∉ q → i ≠ x → ∀ s, s < n → e i s = true → 0 ≤ dAt ds s
  lv : ∀ i, i < n → reachB n e h k i = true → 0 ≤ dAt ds i
theorem bf_le {ds : List Int} (hb : Bf n e h ds) {i m : Nat} (hi : i < n) (hr : reachB n e h m i = true) (h0 : 0 ≤ dAt ds i) : dAt ds i ≤ (m : Int) := by
  apply Classical.byContradiction
  intro hn; have := (hb.at_ i hi h0).2 m (by omega); rw [hr] at this; cases this
theorem bo_pop {k : Nat} {ds : List Int} {x : Nat} {q : List Nat} (H : Bo n e h k ds (x :: q)) : ∃ k', Br n e h k' x ds q := by
  obtain ⟨hx, hdx⟩ := H.inq x (by simp); have hs := List.pairwise_cons.1 H.srt; have hnd := List.nodup_cons.1 H.nd
  rcases hdx with hdx | hdx
  · refine ⟨k, H.b, hx, hdx, hnd.2, fun y hy => H.inq y (by simp [hy]), hs.2, fun i hi h0 hq hix => H.pr i hi h0 (by simp [hq, hix]), H.lv⟩
  refine ⟨k + 1, H.b, hx, by rw [hdx]; omega, hnd.2, fun y hy => ?_, hs.2, fun i hi h0 hq hix => H.pr i hi h0 (by simp [hq, hix]), fun i hi hr => ?_⟩
  · have h1 := H.inq y (by simp [hy])
    have h2 := hs.1 y hy; refine ⟨h1.1, .inl ?_⟩
    rcases h1.2 with h3 | h3 <;> omega
  rcases Z1.1 hr with h1 | ⟨z, hz, hrz, hez⟩
  · exact H.lv i hi h1
  have hz0 := H.lv z hz hrz; have hzk := bf_le H.b hz hrz hz0; refine H.pr z hz hz0 (fun hm => ?_) i hi hez
  rcases List.mem_cons.1 hm with e1 | hm
  · subst e1; omega
  have := hs.1 z hm
  omega
theorem vA {ds : List Int} {i j : Nat} {v : Int} (hi : i < ds.length) : dAt (ds.set i v) j = if j = i then v else dAt ds j := by
  unfold dAt; rw [List.getD_eq_getElem?_getD, List.getElem?_set, List.getD_eq_getElem?_getD]
  by_cases e1 : i = j
  · subst e1; rw [if_pos rfl, if_pos rfl, if_pos hi]; rfl
  rw [if_neg e1, if_neg (fun e2 => e1 e2.symm)]
theorem br_put {k x i : Nat} {ds : List Int} {q : List Nat} (H : Br n e h k x ds q) (hi : i < n) (hei : e x i = true) (h0 : dAt ds i < 0) : Br n e h k x (ds.set i (dAt ds x + 1)) (q ++ [i]) ∧ q.length < n := by
  have hil : i < ds.length := by rw [H.b.len]; exact hi
  have hg : ∀ j, dAt (ds.set i (dAt ds x + 1)) j = if j = i then dAt ds x + 1 else dAt ds j := fun j => vA hil; have hge : ∀ j, ¬ j = i → dAt (ds.set i (dAt ds x + 1)) j = dAt ds j := fun j hj => by rw [hg, if_neg hj]
  have hgi : dAt (ds.set i (dAt ds x + 1)) i = (k : Int) + 1 := by rw [hg, if_pos rfl, H.dx]
  have hxi : ¬ x = i := fun e1 => by subst e1; have := H.dx; omega
  have hiq : i ∉ q := fun hm => by rcases (H.inq i hm).2 with h1 | h1 <;> omega
  have hqi : ∀ y ∈ q, ¬ y = i := fun y hy e1 => by subst e1; exact hiq hy
  have hnd : (q ++ [i]).Nodup := by
    rw [List.nodup_append]; exact ⟨H.nd, by simp, fun a ha b hb e1 => by rw [List.mem_singleton] at hb; subst hb; subst e1; exact hiq ha⟩
  have hrx := H.b.at_ x H.hx (by rw [H.dx]; omega); rw [H.dx, Int.toNat_natCast] at hrx
  have hni : reachB n e h k i = false := by
    cases hc : reachB n e h k i with
    | false => rfl
    | true => have := H.lv i hi hc; omega
  refine ⟨⟨⟨by rw [List.length_set]; exact H.b.len, fun j hj => ?_, fun j hj hj0 => ?_⟩, H.hx, by rw [hge x hxi]; exact H.dx, hnd, fun y hy => ?_, ?_, fun j hj hj0 hjq hjx s hs hes => ?_, fun j hj hr => ?_⟩, ?_⟩
  · by_cases e1 : j = i
    · subst e1; rw [hgi]; omega
    rw [hge j e1]; exact H.b.lo j hj
  · by_cases e1 : j = i
    · subst e1
      rw [hgi, show ((k : Int) + 1).toNat = k + 1 by omega]; refine ⟨Z1.2 (.inr ⟨x, H.hx, hrx.1, hei⟩), fun m hm => ?_⟩
      cases hc : reachB n e h m j with
      | false => rfl
      | true => rw [Z2 (show m ≤ k by omega) hc] at hni; cases hni
    rw [hge j e1] at hj0 ⊢; exact H.b.at_ j hj hj0
  · rcases List.mem_append.1 hy with hy | hy
    · rw [hge y (hqi y hy)]; exact H.inq y hy
    rw [List.mem_singleton] at hy; subst hy; exact ⟨hi, .inr hgi⟩
  · rw [List.pairwise_append]
    refine ⟨H.srt.imp_of_mem fun {a b} ha hb hab => by rw [hge a (hqi a ha), hge b (hqi b hb)]; exact hab, by simp, fun a ha b hb => ?_⟩; rw [List.mem_singleton] at hb; subst hb; rw [hgi, hge a (hqi a ha)]
    rcases (H.inq a ha).2 with h1 | h1 <;> omega
  · have hji : ¬ j = i := fun e1 => hjq (by simp [e1])
    rw [hge j hji] at hj0; have := H.pr j hj hj0 (fun hm => hjq (by simp [hm])) hjx s hs hes
    by_cases e1 : s = i
    · subst e1; rw [hgi]; omega
    rw [hge s e1]; exact this
  · by_cases e1 : j = i
    · subst e1; rw [hgi]; omega
    rw [hge j e1]; exact H.lv j hj hr
  have h1 : (q ++ [i]).length ≤ n := zO hnd fun y hy => by
    rcases List.mem_append.1 hy with hy | hy
    · exact (H.inq y hy).1
    rw [List.mem_singleton] at hy; subst hy; exact hi
  rw [List.length_append, List.length_singleton] at h1
  omega
theorem br_k {k x : Nat} {ds : List Int} {q : List Nat} (hh : h < n) (H : Br n e h k x ds q) : k ≤ n := by
  have hr := H.b.at_ x H.hx (by rw [H.dx]; omega); rw [H.dx, Int.toNat_natCast] at hr
  apply Classical.byContradiction
  intro hn; have := hr.2 n (by omega); rw [vL hh H.hx hr.1] at this; cases this
theorem br_done {k x : Nat} {ds : List Int} {q : List Nat} (H : Br n e h k x ds q) (hd : ∀ s, s < n → e x s = true → 0 ≤ dAt ds s) : Bo n e h k ds q :=
  ⟨H.b, H.nd, H.inq, H.srt, fun i hi h0 hq s hs hes => by
    by_cases e1 : i = x
    · subst e1; exact hd s hs hes
    exact H.pr i hi h0 hq e1 s hs hes, H.lv⟩
theorem bo_end {k : Nat} {ds : List Int} (hh : h < n) (H : Bo n e h k ds []) (h0 : dAt ds h = 0) : ds = (List.range n).map fun i => distI n e h i := by
  have hall : ∀ m i, i < n → reachB n e h m i = true → 0 ≤ dAt ds i := by
    intro m
    induction m with
    | zero => intro i hi hr; rw [reachB] at hr; rw [of_decide_eq_true hr, h0]; omega
    | succ m ih =>
      intro i hi hr
      rcases Z1.1 hr with h1 | ⟨z, hz, hrz, hez⟩
      · exact ih i hi h1
      exact H.pr z hz (ih z hz hrz) (by simp) i hi hez
  refine List.ext_getElem (by rw [H.b.len, List.length_map, List.length_range]) fun i hi hi2 => ?_; rw [H.b.len] at hi; rw [List.getElem_map, List.getElem_range, ← q7]; have hlo := H.b.lo i hi; unfold distI
  cases hd : distB n e h i with
  | none =>
    have hr := bq5.1 hd; show dAt ds i = -1
    apply Classical.byContradiction
    intro hn; have h1 := (H.b.at_ i hi (by omega)).1; have h2 := hr n (Nat.le_refl _); rw [vL hh hi h1] at h2; cases h2
  | some s =>
    have hr := bq4.1 hd; show dAt ds i = (s : Int); have h1 := hall s i hi hr.2.1; have h2 := bf_le H.b hi hr.2.1 h1; have h3 := (H.b.at_ i hi h1).1
    apply Classical.byContradiction
    intro hn; have h4 := hr.2.2 (dAt ds i).toNat (by omega); rw [h3] at h4; cases h4
theorem mq9 (hh : h < n) : Bo n e h 0 ((List.replicate n (-1 : Int)).set h 0) [h] := by
  have hg : ∀ j, dAt ((List.replicate n (-1 : Int)).set h 0) j = if j = h then 0 else dAt (List.replicate n (-1 : Int)) j := fun j => vA (by rw [List.length_replicate]; exact hh)
  have hm : ∀ j, j < n → ¬ j = h → dAt ((List.replicate n (-1 : Int)).set h 0) j = -1 := fun j hj e1 => by
    rw [hg, if_neg e1]; unfold dAt; rw [List.getD_eq_getElem?_getD, List.getElem?_replicate, if_pos hj]; rfl
  have h0 : dAt ((List.replicate n (-1 : Int)).set h 0) h = 0 := by rw [hg, if_pos rfl]
  refine ⟨⟨by simp, fun j hj => ?_, fun j hj hj0 => ?_⟩, by simp, fun y hy => ?_, by simp, fun i hi hi0 hq => ?_, fun i hi hr => ?_⟩
  · by_cases e1 : j = h
    · subst e1; rw [h0]; omega
    rw [hm j hj e1]; omega
  · by_cases e1 : j = h
    · subst e1; rw [h0]; exact ⟨by simp [reachB], fun m hm => by simp at hm⟩
    rw [hm j hj e1] at hj0; omega
  · rw [List.mem_singleton] at hy; subst hy; exact ⟨hh, .inl h0⟩
  · by_cases e1 : i = h
    · subst e1; exact absurd (List.mem_singleton.2 rfl) hq
    rw [hm i hi e1] at hi0; omega
  rw [reachB] at hr; rw [of_decide_eq_true hr, h0]; omega
end
theorem zv_int (w : World) : (zeroValue y2).run prog w = .ok (int 0) w := n9
theorem ix8 (l : List Int) (k : Nat) (v : Int) : (rows l).toArray.setIfInBounds (0 + k * 1) (int v) = (rows (l.set k v)).toArray := by
  rw [← pV rfl (int v) v rfl]
  simp
theorem vC (l : List Int) : (rows l).toArray.toList.take (l.length * 1) = rows l := by
  have h1 : (rows l).length = l.length := by rw [S1]; exact Nat.mul_one _
  rw [List.take_of_length_le (by simp [h1])]
theorem cnt_set {l : List Int} {i : Nat} {v : Int} (hi : i < l.length) (h : l.getD i default < 0) (hv : 0 ≤ v) : (l.set i v).countP (fun z => decide (z < 0)) + 1 = l.countP fun z => decide (z < 0) := by
  rw [q7 hi] at h; rw [List.countP_set hi]; have h1 : 0 < l.countP fun z => decide (z < 0) := List.countP_pos_iff.2 ⟨l[i], List.getElem_mem hi, by simpa using h⟩; rw [if_pos (by simpa using h), if_neg (by simpa using hv)]
  omega
set_option maxHeartbeats 2000000 in
theorem kQ {A B oa ka : Option Addr} {ca cb oc kc gl : Nat} (cs : List Cl) (hs : List Hd) (h : Nat) (hok : TrOK (trOf cs hs)) (hh : h < hs.length) : Meets prog Q6 [.pointer (i7 gl), int h] { LI := [Row (i7 gl) [.slice A cs.length ca, .slice B hs.length cb, .slice oa cs.length oc, .slice ka hs.length kc], Row ka (rows (kindsN hs hs.length)), RowsF B hs Hd.row], inv := fun x : OutC => (stepsT (trOf cs hs) (h : Int)).length ≤ x.2, val := fun x => .slice x.1 (stepsT (trOf cs hs) (h : Int)).length x.2, LO := fun x => [Row x.1 (rows (stepsT (trOf cs hs) (h : Int)))] } := by
 refine cj5 mY rfl n2 fun w0 => ?_; refine K6 (D3 (b6 rfl (b7 (G2 (K6 ?_))))); have h6h := hok.h6; have hln := y6 cs hs; rw [hln] at h6h; refine D3 (l5 _ rfl rfl (fun _ => w6 ..) fun gS => ?_); refine b4 rfl (l7 rfl rfl ?_)
 first | refine b2 ⟨_, 3, none⟩ rfl rfl l3 rfl ?_ | refine b2 _ rfl rfl l3 rfl ?_
 first | refine b3 rfl d7 rfl (j3 mB rfl) ?_ | refine b3 rfl d7 rfl (d5 mB rfl) ?_ | refine b3 rfl d7 rfl (i1 mB (c5 (by omega) rfl)) ?_ | refine b3 rfl d7 rfl (i3 mB (rows_get (by omega) rfl)) ?_ | refine b3 rfl d7 rfl (j8 mB rfl) ?_
 refine k5 rfl B4 rfl (v8 (rows [(-1 : Int)]) ⟨[], List.append_nil _⟩ (i5 iG rfl rfl (hU (-1) hs.length (by omega) h6h) k8 mC fun g5 _ => ?_)); refine b6 rfl (b7 (G2 (K6 (D3 (b4 rfl (b4 rfl ?_)))))); refine p7 h (0 + h * 1) rfl j2 k6 rfl rfl rfl hh rfl ?_; refine u9 rfl rfl (.refl _) k6 (bz9 rfl (vC (List.replicate hs.length (-1))) (by rw [List.length_replicate]; exact hh) (by omega) rfl) (by rfl) ?_; rw [ix8]; refine b7 (G2 (K6 (D3 (b4 rfl (l7 rfl rfl ?_)))))
 first | refine b2 ⟨_, 3, none⟩ rfl rfl l3 rfl ?_ | refine b2 _ rfl rfl l3 rfl ?_
 first | refine b3 rfl d7 rfl (j3 mB rfl) ?_ | refine b3 rfl d7 rfl (d5 mB rfl) ?_ | refine b3 rfl d7 rfl (i1 mB (c5 (by omega) rfl)) ?_ | refine b3 rfl d7 rfl (i3 mB (rows_get (by omega) rfl)) ?_ | refine b3 rfl d7 rfl (j8 mB rfl) ?_
 refine k5 rfl B4 rfl ?_; obtain ⟨ii, zz, hii, _, _, hby, _⟩ := I5.i; refine hj1 (n := hs.length) rfl underlying213 hii rfl (by omega) (by rw [hby]; omega) fun gC => ?_; refine b6 rfl (b7 (G2 (K6 (cj7 ?_)))); show KL _ _ _ [0, 1, 2] _ _ _; refine tU rfl rfl rfl (tU rfl rfl rfl ?_); refine iq7 (buf := []) rfl rfl rfl k8 (by simp; omega) ?_; refine hq7 (G2 (K6 (K6 (D3 (b6 rfl (b7 (G2 (tY ?_)))))))); refine iq8 (β := Nat × List Int × List Nat × Nat × Nat) ⟨fun x => Bo hs.length (nextB (trOf cs hs)) h x.1 x.2.1 x.2.2.1 ∧ dAt x.2.1 h = 0, fun x => [(0, .pointer (i7 gl)), (5, .slice (i7 g5) hs.length hs.length), (6, .chan (some gC)), (7, int x.2.2.1.length)], fun x => [(gC, chanO hs.length (x.2.2.1.map fun y : Nat => int (y : Int)) x.2.2.2.1 x.2.2.2.2), (g5, Obj.cells (rows x.2.1).toArray y2 (0, 0))], fun _ => [Row (i7 gl) [.slice A cs.length ca, .slice B hs.length cb, .slice oa cs.length oc, .slice ka hs.length kc], Row ka (rows (kindsN hs hs.length)), RowsF B hs Hd.row]⟩ (fun x => 2 * x.2.1.countP (fun z => decide (z < 0)) + x.2.2.1.length) (0, (List.replicate hs.length (-1 : Int)).set h 0, [h], 1, 0) ⟨mq9 hh, by rw [vA (by rw [List.length_replicate]; exact hh), if_pos rfl]⟩ mC (List.Sublist.refl _) mC fun x hx => ?_; obtain ⟨k, ds, q, s, r⟩ := x; obtain ⟨hB, hd0⟩ := hx; simp only at hB hd0; refine K6 (K6 (D3 (b4 rfl (K5 rfl rfl rfl (b7 (G2 ?_))))))
 first | refine lx4 rfl (fun hb1 => ?_) (fun hb1 => ?_) | refine yM rfl (fun hb1 => ?_) (fun hb1 => ?_)
 ·have hb1' := hb1; try simp at hb1'
  obtain ⟨x, q, rfl⟩ : ∃ x q', q = x :: q' := by
    cases q with
    | nil => simp at hb1
    | cons x q => exact ⟨x, q, rfl⟩
  obtain ⟨k, hR⟩ := bo_pop hB; clear hB; have hx := hR.hx; have hin := next_in hok hx; have hnle := lq3 hok hx; have hnb := fun k => dx7 hok hx k; generalize hnl : nextL (hs.getD x default) = nl at hin hnle hnb; refine cj6 (G2 (K6 (tY (K6 (cj7 ?_))))); show KL _ _ _ [0, 1, 2] _ _ _; refine tU rfl rfl rfl ?_; refine kl_recv (v := int x) (buf := q.map fun y : Nat => int (y : Int)) rfl rfl underlying213 zv_int rfl k8 ?_; refine jq8 rfl rfl rfl (hq7 (G2 (K6 (D3 (b4 rfl (l7 rfl rfl ?_))))))
  first | refine b2 ⟨_, 3, none⟩ rfl rfl l3 rfl ?_ | refine b2 _ rfl rfl l3 rfl ?_
  first | refine b3 rfl d7 rfl (j3 mB rfl) ?_ | refine b3 rfl d7 rfl (d5 mB rfl) ?_ | refine b3 rfl d7 rfl (i1 mB (c5 (by omega) rfl)) ?_ | refine b3 rfl d7 rfl (i3 mB (rows_get (by omega) rfl)) ?_ | refine b3 rfl d7 rfl (j8 mB rfl) ?_
  refine b4 rfl ?_; refine p8 (α := Kd) (kindsN hs hs.length) x rfl B4 P0 rfl rfl rfl mB (I4 (Nat.le_refl _)).symm (by rw [I4 (Nat.le_refl _)]; exact hx) (by decide) ?_; refine b3 (v := (kindOf (hs.getD x default)).v) rfl L7 rfl (i1 mB (by rw [← tX hx]; exact c5 (by rw [I4 (Nat.le_refl _)]; exact hx) rfl)) ?_; refine jx2 (p := hs.getD x default) mB (n7 hx) (r_next rfl rfl rfl m0 fun o => ?_); rw [hnl]; refine k5 rfl j2 rfl ?_; refine b4 rfl (b7 (G2 (tY ?_))); refine iq8 (β := Nat × List Int × List Nat × Nat × Nat) ⟨fun y => y.1 ≤ nl.length ∧ Br hs.length (nextB (trOf cs hs)) h k x y.2.1 y.2.2.1 ∧ (∀ i, i < y.1 → 0 ≤ dAt y.2.1 (nl.getD i default).toNat) ∧ dAt y.2.1 h = 0 ∧ 2 * y.2.1.countP (fun z => decide (z < 0)) + y.2.2.1.length < 2 * ds.countP (fun z => decide (z < 0)) + (x :: q).length, fun y => [(0, .pointer (i7 gl)), (5, .slice (i7 g5) hs.length hs.length), (6, .chan (some gC)), (7, int (y.2.2.1.length + 1 : Nat)), (8, int x), (42, .slice o.1 nl.length o.2), (43, int nl.length), (44, int y.1)], fun y => [(gC, chanO hs.length (y.2.2.1.map fun y : Nat => int (y : Int)) y.2.2.2.1 y.2.2.2.2), (g5, Obj.cells (rows y.2.1).toArray y2 (0, 0))], fun _ => Row o.1 (rows nl) :: [Row (i7 gl) [.slice A cs.length ca, .slice B hs.length cb, .slice oa cs.length oc, .slice ka hs.length kc], Row ka (rows (kindsN hs hs.length)), RowsF B hs Hd.row]⟩ (fun y => nl.length - y.1) (0, ds, q, s, r + 1) ⟨Nat.zero_le _, hR, fun i hi => by omega, hd0, by show 2 * ds.countP (fun z => decide (z < 0)) + q.length < 2 * ds.countP (fun z => decide (z < 0)) + (x :: q).length; rw [List.length_cons]; omega⟩ mC (List.Sublist.refl _) mC fun y hy => ?_; generalize 2 * ds.countP (fun z => decide (z < 0)) + (x :: q).length = M at hy ⊢; clear hR hd0; obtain ⟨j, ds, q, s, r⟩ := y; obtain ⟨hj, hR, hdn, hd0, hM⟩ := hy; simp only at hj hR hdn hd0 hM; have hdl := hR.b.len; have hqn := zO hR.nd fun y hy => (hR.inq y hy).1; have hdx := hR.dx; have hkn := br_k hh hR; refine K6 (D3 (u7 rfl rfl rfl (b7 (G2 (K6 ?_)))))
  first | refine lx4 rfl (fun hb2 => ?_) (fun hb2 => ?_) | refine yM rfl (fun hb2 => ?_) (fun hb2 => ?_)
  ·have hb2' := hb2; try simp at hb2'
   have hj2 : j < nl.length := by omega
   have hij := hin _ (n7 hj2); obtain ⟨i, hi⟩ := Int.eq_ofNat_of_zero_le hij.1; have hil : i < hs.length := by omega
   refine cj6 (G2 (K6 (tY (K6 (D3 ?_))))); refine p8 (α := Int) nl j rfl j2 k6 rfl rfl rfl mB rfl hj2 (by decide) ?_; refine b3 (v := int (i : Int)) rfl b5 rfl (i1 mB (c5 hj2 (by rw [← hi]; rfl))) ?_; refine b6 rfl (b7 (G2 (K6 (D3 (b4 rfl (b4 rfl ?_)))))); refine p7 i (0 + i * 1) rfl j2 k6 rfl rfl rfl hil rfl ?_; refine b3 (v := int (dAt ds i)) rfl b5 rfl (j3 mB (bz9 rfl (vC ds) (by rw [hdl]; exact hil) (by omega) rfl)) ?_; refine u7 rfl rfl rfl (b7 (G2 ?_))
   first | refine lx4 rfl (fun hb3 => ?_) (fun hb3 => ?_) | refine yM rfl (fun hb3 => ?_) (fun hb3 => ?_)
   ·have hb3' := hb3; try simp at hb3'
    obtain ⟨hR2, hql⟩ := br_put hR hil (by rw [hnb i, decide_eq_true_eq, ← hi]; exact n7 hj2) hb3; have hc2 := cnt_set (v := dAt ds x + 1) (by rw [hdl]; exact hil) hb3 (by rw [hdx]; omega); refine K6 (D3 (b4 rfl (b4 rfl (b4 rfl (b4 rfl ?_))))); refine p7 x (0 + x * 1) rfl j2 k6 rfl rfl rfl hx rfl ?_; refine b3 (v := int (dAt ds x)) rfl b5 rfl (j3 mB (bz9 rfl (vC ds) (by rw [hdl]; exact hx) (by omega) rfl)) ?_; refine r4 _ rfl rfl rfl rfl m7 (p7 i (0 + i * 1) rfl j2 k6 rfl rfl rfl hil rfl ?_); refine u9 rfl rfl (.swap _ _ _) k6 (bz9 rfl (vC ds) (by rw [hdl]; exact hil) (by omega) rfl) (by rfl) ?_; rw [ix8]; refine b7 (G2 (K6 (cj7 ?_))); show KL _ _ _ [0, 1, 2] _ _ _; refine tU rfl rfl rfl (tU rfl rfl rfl ?_); refine iq7 (buf := q.map fun y : Nat => int (y : Int)) rfl rfl rfl (.swap _ _ _) (by rw [List.length_map]; exact hql) ?_; refine hq7 (G2 (D3 (b4 rfl ?_))); refine r4 ((q.length : Int) + 2) rfl rfl rfl (by show ((q.length + 1 : Nat) : Int) + 1 = _; omega) m7 ?_; refine b6 rfl (b7 (q8 (G2 (D3 ?_)))); refine r4 _ rfl rfl rfl rfl m7 ?_; refine b4 rfl (b7 ?_); exact again _ (j + 1, ds.set i (dAt ds x + 1), q ++ [i], s + 1, r) ⟨by show j + 1 ≤ nl.length; omega, hR2, fun p hp => by show 0 ≤ dAt (ds.set i (dAt ds x + 1)) _; rw [vA (by rw [hdl]; exact hil)]; split; omega; exact hdn p (by rename_i hne; rcases Nat.lt_or_ge p j with h1 | h1; exact h1; exact absurd (by rw [show p = j by omega, hi]; rfl) hne), by show dAt (ds.set i (dAt ds x + 1)) h = 0; rw [vA (by rw [hdl]; exact hil), if_neg (fun e1 => by subst e1; omega)]; exact hd0, by show 2 * (ds.set i (dAt ds x + 1)).countP (fun z => decide (z < 0)) + (q ++ [i]).length < M; rw [List.length_append, List.length_singleton]; omega⟩ (r9 (by omega)) ⟨rfl, rfl, rfl, congrArg (fun z : Int => some (int z)) (by show (q.length : Int) + 2 = (((q ++ [i]).length + 1 : Nat) : Int); rw [List.length_append, List.length_singleton]; omega), rfl, rfl, rfl, rfl, tK⟩ (by show List.Sublist [(gC, chanO hs.length ((q ++ [i]).map fun y : Nat => int (y : Int)) (s + 1) r), (g5, Obj.cells (rows (ds.set i (dAt ds x + 1))).toArray y2 (0, 0))] _; rw [List.map_append]; exact List.Sublist.refl _) mC
   have hb3' := hb3; try simp at hb3'
   skip
   refine cj6 (q8 (G2 (D3 ?_))); refine r4 _ rfl rfl rfl rfl m7 ?_; refine b4 rfl (b7 ?_); exact again _ (j + 1, ds, q, s, r) ⟨by show j + 1 ≤ nl.length; omega, hR, fun p hp => by rcases Nat.lt_or_ge p j with h1 | h1; exact hdn p h1; rw [show p = j by omega, hi]; exact Int.not_lt.1 hb3, hd0, hM⟩ (r9 (by omega)) mC (List.Sublist.refl _) mC
  have hb2' := hb2; try simp at hb2'
  obtain rfl : j = nl.length := by omega
  have hB := br_done hR fun t ht het => by
    rw [hnb t, decide_eq_true_eq] at het; obtain ⟨p, hp, he⟩ := List.getElem_of_mem het; have h1 := hdn p hp; rw [q7 hp, he, Int.toNat_natCast] at h1; exact h1
  refine iq9 (v6 (l9 (q8 (G2 (D3 (b4 rfl ?_)))))); refine H3 (q.length : Int) rfl rfl rfl (by show ((q.length + 1 : Nat) : Int) - 1 = _; omega) m7 ?_; refine b6 rfl (b7 ?_); exact again _ (k, ds, q, s, r) ⟨hB, hd0⟩ hM mC (List.Sublist.refl _) mC
 have hb1' := hb1; try simp at hb1'
 have hq0 : q = [] := by
   cases q with
   | nil => rfl
   | cons x q => exact absurd hb1 (by simp)
 subst hq0; have hE := bo_end hh hB hd0; refine iq9 (v6 (l9 (G2 (K6 (D3 (b4 rfl (b6 rfl (b7 (G2 (kc_ret ?_)))))))))); have hE2 : ds = (stepsT (trOf cs hs) (h : Int)) := by rw [hE]; unfold stepsT; rw [hln]; try rfl
 have hle : (stepsT (trOf cs hs) (h : Int)).length = hs.length := by rw [← hE2]; exact hB.b.len
 refine bY (.swap _ _ _) (J7 (rows ds) ⟨[], List.append_nil _⟩ ?_); exact ret1 (some ⟨g5, 0, none⟩, hs.length) rfl (by show some (Value.slice _ hs.length hs.length) = some (Value.slice _ (stepsT (trOf cs hs) (h : Int)).length hs.length); rw [hle]) rfl (by show (stepsT (trOf cs hs) (h : Int)).length ≤ hs.length; rw [hle]; exact Nat.le_refl _) nK (by rw [← hE2]; exact ⟨m0, tK⟩)
def stepsE (t : Tr) (h : Int) : List Int × Int := if ¬ askE t [h] = 0 then ([], askE t [h]) else (stepsT t h, 0)
def hiB (t : Tr) (h s : Int) (i : Nat) : Bool := isTrB t (i : Int) && !decide (0 ≤ (stepsT t h).getD i default ∧ (stepsT t h).getD i default ≤ s)
def hiK (t : Tr) (h s : Int) (k : Nat) : List Int := ((List.range k).filter (hiB t h s)).map fun i : Nat => (i : Int)
def hiddenT (t : Tr) (h s : Int) : List Int := hiK t h s t.hs.length
def hiddenE (t : Tr) (h s : Int) : List Int × Int := if ¬ askE t [h] = 0 then ([], askE t [h]) else if 0 ≤ s ∧ s ≤ 6 then (hiddenT t h s, 0) else ([], 1)
theorem vK (t : Tr) (h : Int) : (stepsT t h).length = t.hs.length := by unfold stepsT; rw [List.length_map, List.length_range]
theorem tA {A B : Option Addr} {ca cb : Nat} (cs : List Cl) (hs : List Hd) (h : Int) (hca : cs.length ≤ ca) (hcb : hs.length ≤ cb) (ha : ∀ h ∈ hs, h.2.2.2.l.length ≤ 1000000) : Meets prog dB [.agg #[.slice A cs.length ca, .slice B hs.length cb], int h] { LI := [Row A (rows cs), RowsF B hs Hd.row], inv := fun x : OutC => (stepsE (trOf cs hs) h).1.length ≤ x.2, val := fun x => .tuple #[.slice x.1 (stepsE (trOf cs hs) h).1.length x.2, int (stepsE (trOf cs hs) h).2], LO := fun x => [Row x.1 (rows (stepsE (trOf cs hs) h).1)] } := by
 refine d3 wG rfl n2 fun w0 => d4 (B7 rfl rfl fun gB => ?_); refine b6 rfl (b6 rfl (c3 ?_)); refine M6 ⟨fun _ : Nat × OutC × OutC => True, fun x => [(1, int h), (2, .pointer (i7 gB)), (6, if askE (trOf cs hs) [h] = 0 then .pointer (some ⟨x.1, 0, none⟩) else .pointer none), (7, int (askE (trOf cs hs) [h]))], fun _ => [(gB, .cells #[.slice A cs.length ca, .slice B hs.length cb] m5 (0, 0))], fun x => (if askE (trOf cs hs) [h] = 0 then beginL cs hs A ca B cb x else []) ++ [Row A (rows cs), RowsF B hs Hd.row]⟩ ?_ ?_
 ·skip
  refine c9 ?_
  first | refine J5 rfl i9 j0 rfl mB (by rfl) ?_ | refine w7 rfl i9 j0 rfl mB (by rfl) ?_ | refine y9 rfl i9 j0 rfl rfl (w5 mB (z6 (by omega))) ?_
  refine b4 rfl (l5 _ rfl rfl (fun _ => w6 ..) fun gS => v8 (rows [h]) (List.prefix_refl _) ?_); refine i5 mN rfl rfl (mG cs hs [h] hca hcb ha (by simp)) k8 mC fun x _ => ?_; refine b4 rfl (k4 rfl rfl rfl (k4 rfl rfl rfl (b6 rfl (b6 rfl (b7 ?_))))); exact E3 _ x tK mC (List.Sublist.refl _) (LSub.of_mem fun F hF => (List.mem_append.1 hF).elim (fun h1 => List.mem_append_left _ h1) (fun h2 => List.mem_append_right _ (List.mem_cons_of_mem _ h2)))
 refine fun x _ => ?_
 dsimp only
 refine d1 (d4 (b4 rfl (B9 rfl rfl rfl (c3 ?_))))
 first | refine j9 rfl (fun hb1 => ?_) (fun hb1 => ?_) | refine d6 rfl (fun hb1 => ?_) (fun hb1 => ?_)
 ·have hb1' := hb1; try simp at hb1'
  have hE : stepsE (trOf cs hs) h = ([], askE (trOf cs hs) [h]) := by rw [stepsE, if_pos hb1]
  refine d4 (b4 rfl (b6 rfl (b6 rfl (c3 (M2 ?_))))); refine D4 (α := Int) ?_; exact ret2 (none, 0) rfl rfl rfl (by show Value.tuple #[.slice none (stepsE (trOf cs hs) h).1.length 0, int (stepsE (trOf cs hs) h).2] = _; rw [hE]; rfl) rfl (by show (stepsE (trOf cs hs) h).1.length ≤ 0; rw [hE]; exact Nat.le_refl _) nK (by show LSub _ [Row none (rows (stepsE (trOf cs hs) h).1)]; rw [hE]; exact ⟨m0, tK⟩)
 have hb1' := hb1; try simp at hb1'
 have h0 := Classical.not_not.1 hb1; rw [if_pos h0, if_pos h0]; have hch := wY h0; have hin := mx2 h0 (List.mem_singleton.2 rfl); rw [y6] at hin; obtain ⟨i, hi⟩ := Int.eq_ofNat_of_zero_le hin.1; have hok := gL hch; have h6 : cs.length ≤ 6 := hok.c6; have h6h := hok.h6; rw [y6] at h6h; have hcl : ∀ i, i < cs.length → ClsOK cs i := hok.c; obtain ⟨gl, ⟨oa, oc⟩, ⟨ka, kc⟩⟩ := x; have hln := y6 cs hs; show HC _ _ _ _ _ [Row (i7 gl) [.slice A cs.length ca, .slice B hs.length cb, .slice oa cs.length oc, .slice ka hs.length kc], Row oa (rows (masksN cs cs.length)), Row ka (rows (kindsN hs hs.length)), Row A (rows cs), RowsF B hs Hd.row]; refine i4 (c7 (d4 (b4 rfl (b4 rfl ?_)))); have hE : stepsE (trOf cs hs) h = (stepsT (trOf cs hs) h, 0) := by rw [stepsE, if_neg hb1]
 subst hi; refine i5 lC rfl rfl (kQ (A := A) (B := B) (oa := oa) (ka := ka) (ca := ca) (cb := cb) (oc := oc) (kc := kc) (gl := gl) cs hs i hok (by omega)) k8 mC fun y hy => ?_; refine b6 rfl (b6 rfl (c3 (j6 ?_))); exact ret2 y rfl rfl rfl (by show Value.tuple #[.slice y.1 (stepsE (trOf cs hs) (i : Int)).1.length y.2, int (stepsE (trOf cs hs) (i : Int)).2] = _; rw [hE]) rfl (by show (stepsE (trOf cs hs) (i : Int)).1.length ≤ y.2; rw [hE]; exact hy) nK (by show LSub _ [Row y.1 (rows (stepsE (trOf cs hs) (i : Int)).1)]; rw [hE]; exact ⟨m0, tK⟩)
end Go.Proofs.YtpihanmcnmlodaaGreatDoor
end
section
namespace Go.W
open Go Go.RowKit
section
variable {κ : Type} [DecidableEq κ]
def updF (f : κ → Nat) (k : κ) (n : Nat) : κ → Nat := fun x => if x = k then n else f x
structure MapIs (l : List (Ment κ)) (clk : Nat) (f : κ → Nat) : Prop where
  bs : (l.map (·.2.2)).Pairwise (· < ·)
  lt : ∀ p ∈ l, p.2.2 < clk
  nd : (l.map (·.1)).Nodup
  vl : ∀ p ∈ l, p.2.1 = int (f p.1) ∧ 0 < f p.1
  al : ∀ k, 0 < f k → k ∈ l.map (·.1)
theorem MapIs.nil : MapIs ([] : List (Ment κ)) 0 (fun _ => 0) := ⟨.nil, by simp, by simp, by simp, fun k h => by omega⟩
theorem jz0 {l : List (Ment κ)} {k : κ} : getM l k = none ↔ k ∉ l.map (·.1) := by
  induction l with
  | nil => simp [getM, findM]
  | cons p l ih =>
    rw [jz1]
    by_cases h : p.1 = k
    · rw [if_pos h]; simp [h]
    rw [if_neg h, ih, List.map_cons, List.mem_cons]; simp only [not_or]; exact ⟨fun e => ⟨fun e2 => h e2.symm, e⟩, fun e => e.2⟩
theorem vO (p : Ment κ) (l : List (Ment κ)) (k : κ) (v : Value) (clk : Nat) : putM (p :: l) k v clk = if p.1 = k then (k, v, p.2.2) :: l else p :: putM l k v clk := by
  by_cases h : p.1 = k
  · simp [putM, findM, h]
  simp only [putM, findM, h, if_false]; rw [sO]
  cases hf : findM k l 0 with
  | none => simp
  | some q => simp
theorem aj7 {l : List (Ment κ)} {k : κ} : findM k l 0 = none ↔ k ∉ l.map (·.1) := by
  rw [← jz0]; unfold getM
  cases findM k l 0 <;> simp
theorem ix6 (l : List (Ment κ)) (k : κ) (clk : Nat) : clkM l k clk = if k ∈ l.map (·.1) then clk else clk + 1 := by
  unfold clkM
  cases hf : findM k l 0 with
  | none => rw [if_neg (aj7.1 hf)]; rfl
  | some q =>
    have h1 : k ∈ l.map (·.1) := Classical.byContradiction fun h => by rw [aj7.2 h] at hf; cases hf
    rw [if_pos h1]
    rfl
theorem vN (l : List (Ment κ)) (k : κ) (v : Value) (clk : Nat) : (putM l k v clk).map (·.1) = if k ∈ l.map (·.1) then l.map (·.1) else l.map (·.1) ++ [k] := by
  induction l with
  | nil => simp [putM, findM]
  | cons p l ih =>
    rw [vO]
    by_cases h : p.1 = k
    · rw [if_pos h, if_pos (by simp [h])]
      simp [h]
    rw [if_neg h, List.map_cons, ih, List.map_cons]
    by_cases h2 : k ∈ l.map (·.1)
    · rw [if_pos h2, if_pos (List.mem_cons_of_mem _ h2)]
    rw [if_neg h2, if_neg (by rw [List.mem_cons, not_or]; exact ⟨fun e => h e.symm, h2⟩)]
    rfl
theorem rF (l : List (Ment κ)) (k : κ) (v : Value) (clk : Nat) : (putM l k v clk).map (·.2.2) = if k ∈ l.map (·.1) then l.map (·.2.2) else l.map (·.2.2) ++ [clk] := by
  induction l with
  | nil => simp [putM, findM]
  | cons p l ih =>
    rw [vO]
    by_cases h : p.1 = k
    · rw [if_pos h, if_pos (by simp [h])]
      simp
    rw [if_neg h, List.map_cons, ih, List.map_cons, List.map_cons]
    by_cases h2 : k ∈ l.map (·.1)
    · rw [if_pos h2, if_pos (List.mem_cons_of_mem _ h2)]
    rw [if_neg h2, if_neg (by rw [List.mem_cons, not_or]; exact ⟨fun e => h e.symm, h2⟩)]
    rfl
theorem putM_in {l : List (Ment κ)} {k : κ} {v : Value} {clk : Nat} (hn : (l.map (·.1)).Nodup) {p : Ment κ} (h : p ∈ putM l k v clk) : (p.1 = k ∧ p.2.1 = v) ∨ (p ∈ l ∧ p.1 ≠ k) := by
  induction l with
  | nil => simp [putM, findM] at h; subst h; exact .inl ⟨rfl, rfl⟩
  | cons q l ih =>
    rw [vO] at h; rw [List.map_cons, List.nodup_cons] at hn
    by_cases e : q.1 = k
    · rw [if_pos e] at h
      rcases List.mem_cons.1 h with rfl | h
      · exact .inl ⟨rfl, rfl⟩
      refine .inr ⟨List.mem_cons_of_mem _ h, fun e2 => hn.1 ?_⟩; rw [e, ← e2]; exact List.mem_map_of_mem h
    rw [if_neg e] at h
    rcases List.mem_cons.1 h with rfl | h
    · exact .inr ⟨List.mem_cons_self, e⟩
    exact (ih hn.2 h).imp id fun h => ⟨List.mem_cons_of_mem _ h.1, h.2⟩
theorem MapIs.put {l : List (Ment κ)} {clk : Nat} {f : κ → Nat} (h : MapIs l clk f) (k : κ) {n : Nat} (hn : 0 < n) : MapIs (putM l k (int n) clk) (clkM l k clk) (updF f k n) where
  bs := by
    rw [rF]
    split
    · exact h.bs
    refine List.pairwise_append.2 ⟨h.bs, by simp, fun a ha b hb => ?_⟩; obtain ⟨p, hp, rfl⟩ := List.mem_map.1 ha; rw [List.mem_singleton.1 hb]; exact h.lt p hp
  lt p hp := by
    have h1 : p.2.2 ∈ (putM l k (int n) clk).map (·.2.2) := List.mem_map_of_mem hp; rw [rF] at h1; rw [ix6]
    split at h1
    · rename_i e
      rw [if_pos e]; obtain ⟨q, hq, e2⟩ := List.mem_map.1 h1; rw [← e2]; exact h.lt q hq
    rename_i e
    rw [if_neg e]
    rcases List.mem_append.1 h1 with h1 | h1
    · obtain ⟨q, hq, e2⟩ := List.mem_map.1 h1
      have := h.lt q hq
      omega
    rw [List.mem_singleton.1 h1]; omega
  nd := by
    rw [vN]
    split
    · exact h.nd
    rename_i e
    refine List.nodup_append.2 ⟨h.nd, by simp, fun a ha b hb e2 => e ?_⟩; rw [← List.mem_singleton.1 hb, ← e2]; exact ha
  vl p hp := by
    unfold updF
    rcases putM_in h.nd hp with ⟨e1, e2⟩ | ⟨e1, e2⟩
    · rw [if_pos e1]; exact ⟨e2, hn⟩
    rw [if_neg e2]; exact h.vl p e1
  al x hx := by
    rw [vN]; unfold updF at hx
    by_cases e : x = k
    · subst e
      split
      · assumption
      simp
    rw [if_neg e] at hx; have := h.al x hx
    split
    · exact this
    exact List.mem_append_left _ this
def delM (l : List (Ment κ)) (k : κ) : List (Ment κ) := match findM k l 0 with | some (i, _) => l.eraseIdx i | none => l
omit [DecidableEq κ] in
theorem MapIs.congr {l : List (Ment κ)} {clk : Nat} {f g : κ → Nat} (h : MapIs l clk f) (e : ∀ k, f k = g k) : MapIs l clk g := by
  have : f = g := funext e; exact this ▸ h
theorem cG {α : Type} [DecidableEq α] : ∀ {l K : List α}, l.Nodup → (∀ x ∈ l, x ∈ K) → l.length ≤ K.length
  | [], K, _, _ => Nat.zero_le _
  | x :: l, K, hn, h => by
    rw [List.nodup_cons] at hn; have h1 := h x List.mem_cons_self; have h2 := cG (K := K.erase x) hn.2 fun y hy => (List.mem_erase_of_ne (fun e : y = x => hn.1 (by rw [← e]; exact hy))).2 (h y (List.mem_cons_of_mem _ hy)); rw [List.length_erase_of_mem h1] at h2; have := List.length_pos_of_mem h1; rw [List.length_cons]
    omega
theorem MapIs.len {l : List (Ment κ)} {clk : Nat} {f : κ → Nat} (h : MapIs l clk f) {K : List κ} (hK : ∀ k, 0 < f k → k ∈ K) : l.length ≤ K.length := by
  have h2 := cG (K := K) h.nd fun k hk => by
    obtain ⟨p, hp, rfl⟩ := List.mem_map.1 hk; exact hK _ (h.vl p hp).2
  rwa [List.length_map] at h2
end
structure Vis {κ : Type} (l vis : List (Ment κ)) : Prop where
  sub : ∀ p ∈ vis, p ∈ l
  nd : (vis.map (·.2.2)).Nodup
theorem Vis.nil {κ : Type} (l : List (Ment κ)) : Vis l [] := ⟨by simp, by simp⟩
theorem Vis.snoc {κ : Type} {l vis : List (Ment κ)} (h : Vis l vis) {p : Ment κ} (hp : p ∈ l) (hn : p.2.2 ∉ vis.map (·.2.2)) : Vis l (vis ++ [p]) := by
  refine ⟨fun q hq => ?_, ?_⟩
  · rcases List.mem_append.1 hq with hq | hq
    · exact h.sub q hq
    rw [List.mem_singleton.1 hq]; exact hp
  rw [List.map_append]; refine List.nodup_append.2 ⟨h.nd, by simp, fun a ha b hb e => hn ?_⟩; have h1 : b = p.2.2 := by simpa using hb
  rw [← h1, ← e]; exact ha
theorem Vis.len {κ : Type} {l vis : List (Ment κ)} (h : Vis l vis) : vis.length ≤ l.length := by
  have h2 := cG (K := l.map (·.2.2)) h.nd fun b hb => by
    obtain ⟨p, hp, rfl⟩ := List.mem_map.1 hb; exact List.mem_map_of_mem (h.sub p hp)
  rwa [List.length_map, List.length_map] at h2
theorem Vis.lt {κ : Type} {l vis : List (Ment κ)} (h : Vis l vis) {p : Ment κ} (hp : p ∈ l) (hn : p.2.2 ∉ vis.map (·.2.2)) : vis.length < l.length := by
  have := (h.snoc hp hn).len
  simp at this
  omega
theorem MapIs.key {κ : Type} {l : List (Ment κ)} (h : (l.map (·.1)).Nodup) {p q : Ment κ} (hp : p ∈ l) (hq : q ∈ l) (e : p.1 = q.1) : p = q := by
  induction l with
  | nil => cases hp
  | cons x l ih =>
    rw [List.map_cons, List.nodup_cons] at h
    rcases List.mem_cons.1 hp with h1 | h1 <;> rcases List.mem_cons.1 hq with h2 | h2
    · rw [h1, h2]
    · exact absurd (by rw [← h1, e]; exact List.mem_map_of_mem h2) h.1
    · exact absurd (by rw [← h2, ← e]; exact List.mem_map_of_mem h1) h.1
    exact ih h.2 h1 h2
section
variable {κ : Type} [DecidableEq κ] {enc : κ → Value} {kt e : TypeId}
variable {c : Cx} {Q : Exit → Act → World → Prop} {fr : Fr} {hp : Hp} {L : List Fact} {ops : Array Oper} {rest : List Oper}
variable {d : Tmp} {ty : TypeId} {pos : String} {af : Array Edge}
/-! ### A map that is ranged over -/
def iterM (g clk : Nat) (vis : List (Ment κ)) : Obj := .mapIter (some g) clk (vis.map (·.2.2)).toArray clk
def nextMV (enc : κ → Value) : Option (Ment κ) → Value
  | none => .tuple #[.bool false]
  | some p => .tuple #[.bool true, enc p.1, p.2.1]
def restM (l vis : List (Ment κ)) : List (Ment κ) := l.filter fun p => !(vis.map (·.2.2)).contains p.2.2
end
end Go.W
end
section
namespace Go.Proofs.YtpihanmcnmlodaaGreatDoor
open Go Go.W Tryz T F
set_option maxRecDepth 20000
attribute [local irreducible] HL HC HQ HB Row Rows2 Blk Facts
abbrev Ch := Int × Int × Int × Int × Int × Int
abbrev chV (c : Ch) : Value := .agg #[int c.1, int c.2.1, int c.2.2.1, int c.2.2.2.1, int c.2.2.2.2.1, int c.2.2.2.2.2]
abbrev Ad := Int × Int × Int
instance : El Ad where
  default := (0, 0, 0)
  cells x := [int x.1, int x.2.1, int x.2.2]
  sz := 3
  len _ := rfl
  one a u h := by simp at h; rcases h with h | h | h <;> subst h <;> rfl
abbrev adV (x : Ad) : Value := .agg #[int x.1, int x.2.1, int x.2.2]
def priceN (c : Ch) (x : Ad) : Int := if x.2.1 = 1 then c.1 else if x.2.1 = 2 then c.2.1 + (x.2.2 - 1) * c.2.2.1 else x.2.2 * c.2.2.2.1
abbrev tarL (g : Nat) (c : Ch) : Fact := Row (i7 g) [int c.1, int c.2.1, int c.2.2.1, int c.2.2.2.1]
def ChOK (c : Ch) : Prop := (0 ≤ c.1 ∧ c.1 ≤ 999) ∧ (0 ≤ c.2.1 ∧ c.2.1 ≤ 999) ∧ (0 ≤ c.2.2.1 ∧ c.2.2.1 ≤ 999) ∧ (0 ≤ c.2.2.2.1 ∧ c.2.2.2.1 ≤ 999) ∧ (0 ≤ c.2.2.2.2.1 ∧ c.2.2.2.2.1 ≤ 50) ∧ (1 ≤ c.2.2.2.2.2 ∧ c.2.2.2.2.2 ≤ 5)
theorem G1 (n lo hi : Int) : Meets prog bJ [int n, int lo, int hi] { val := fun _ : Unit => .bool (decide (lo ≤ n ∧ n ≤ hi)) } := by
 refine d3 uS rfl n2 fun w0 => ?_; refine d4 (b6 rfl (j4 (b4 rfl (b4 rfl (nY rfl rfl rfl (b4 rfl ?_)))))); refine q6 rfl rfl ?_ ?_
 ·intro hg1; have hg1' := hg1; try simp at hg1'
  refine k7 hg1 (b4 rfl (k7 hg1 (b4 rfl (k7 hg1 (nY rfl rfl rfl ?_))))); refine p_t rfl rfl (bt1 hg1) rfl ?_; refine b6 rfl (c3 (j6 ?_)); exact ret1 () rfl (congrArg (fun b => some (Value.bool b)) (by simp [hg1'])) rfl tK nK tK
 intro hg1; have hg1' := hg1; try simp at hg1'
 refine n4 hg1 (n4 hg1 (n4 hg1 ?_)); refine p_f rfl rfl (bf2 hg1) rfl ?_; refine b6 rfl (c3 (j6 ?_)); exact ret1 () rfl (congrArg (fun b => some (Value.bool b)) (by simp [Int.not_le.2 hg1'])) rfl tK nK tK
end Go.Proofs.YtpihanmcnmlodaaGreatDoor
end
section
namespace Go.W
open Go Go.RowKit
section
variable {κ : Type} [DecidableEq κ] {enc : κ → Value} {kt e : TypeId}
structure SetM (l : List (Ment κ)) (clk : Nat) (S : κ → Prop) : Prop where
  bs : (l.map (·.2.2)).Pairwise (· < ·)
  lt : ∀ p ∈ l, p.2.2 < clk
  nd : (l.map (·.1)).Nodup
  al : ∀ k, k ∈ l.map (·.1) ↔ S k
omit [DecidableEq κ] in
theorem SetM.nil (clk : Nat) : SetM ([] : List (Ment κ)) clk (fun _ => False) := ⟨.nil, by simp, by simp, by simp⟩
omit [DecidableEq κ] in
theorem SetM.congr {l : List (Ment κ)} {clk : Nat} {S S' : κ → Prop} (h : SetM l clk S) (e : ∀ k, S k ↔ S' k) : SetM l clk S' := ⟨h.bs, h.lt, h.nd, fun k => (h.al k).trans (e k)⟩
theorem SetM.put {l : List (Ment κ)} {clk : Nat} {S : κ → Prop} (h : SetM l clk S) (k : κ) (v : Value) : SetM (putM l k v clk) (clkM l k clk) (fun x => S x ∨ x = k) := by
  have hk := vN l k v clk; have hb := rF l k v clk; have hc := ix6 l k clk
  by_cases hm : k ∈ l.map (·.1)
  · rw [if_pos hm] at hk hb hc
    refine ⟨by rw [hb]; exact h.bs, fun p hp => ?_, by rw [hk]; exact h.nd, fun x => ?_⟩
    · have : p.2.2 ∈ (putM l k v clk).map (·.2.2) := List.mem_map.2 ⟨p, hp, rfl⟩
      rw [hb] at this; obtain ⟨q, hq, e⟩ := List.mem_map.1 this; rw [hc, ← e]; exact h.lt q hq
    rw [hk, h.al]; exact ⟨.inl, fun hx => hx.elim id fun e => by subst e; exact (h.al x).1 hm⟩
  rw [if_neg hm] at hk hb hc; refine ⟨?_, fun p hp => ?_, ?_, fun x => ?_⟩
  · rw [hb, List.pairwise_append]
    refine ⟨h.bs, List.pairwise_singleton _ _, fun a ha b hb' => ?_⟩; obtain ⟨q, hq, rfl⟩ := List.mem_map.1 ha; rw [List.mem_singleton] at hb'; subst hb'; exact h.lt q hq
  · have : p.2.2 ∈ (putM l k v clk).map (·.2.2) := List.mem_map.2 ⟨p, hp, rfl⟩
    rw [hb] at this; rw [hc]
    rcases List.mem_append.1 this with h1 | h1
    · obtain ⟨q, hq, e⟩ := List.mem_map.1 h1
      have := h.lt q hq
      omega
    rw [List.mem_singleton] at h1; omega
  · rw [hk, List.nodup_append]
    refine ⟨h.nd, by simp, fun a ha b hb' => ?_⟩; rw [List.mem_singleton] at hb'; subst hb'; exact fun e => hm (e ▸ ha)
  rw [hk, List.mem_append, List.mem_singleton, h.al]
theorem SetM.count {l vis : List (Ment κ)} {clk : Nat} {S : κ → Prop} (h : SetM l clk S) (hv : Vis l vis) (ha : ∀ p ∈ l, p.2.2 ∈ vis.map (·.2.2)) {K : List κ} (hK : K.Nodup) (hS : ∀ k, S k ↔ k ∈ K) : vis.length = K.length := by
  have h1 : vis.length = l.length := by
    refine Nat.le_antisymm hv.len ?_; have hb : (l.map (·.2.2)).Nodup := h.bs.imp (fun h => Nat.ne_of_lt h); have := cG hb (K := vis.map (·.2.2)) (fun x hx => by obtain ⟨p, hp, rfl⟩ := List.mem_map.1 hx; exact ha p hp)
    simpa using this
  have h2 := cG h.nd (K := K) (fun x hx => (hS x).1 ((h.al x).1 hx)); have h3 := cG hK (K := l.map (·.1)) (fun x hx => (h.al x).2 ((hS x).2 hx))
  simp at h2 h3
  omega
variable {c : Cx} {Q : Exit → Act → World → Prop} {fr : Fr} {hp : Hp} {L : List Fact} {ops : Array Oper} {rest : List Oper}
variable {d : Tmp} {ty : TypeId} {pos : String} {af : Array Edge}
end
end Go.W
end
section
namespace Go.Proofs.YtpihanmcnmlodaaGreatDoor
open Go Go.W Tryz T F
set_option maxRecDepth 20000
attribute [local irreducible] HL HC HQ HB Row Rows2 Blk Facts
abbrev saC (c : Ch) (ps : Sl Int) (qs : Sl Ad) : Array Value := #[int c.1, int c.2.1, int c.2.2.1, int c.2.2.2.1, int c.2.2.2.2.1, int c.2.2.2.2.2, .slice ps.a ps.l.length ps.c, .slice qs.a qs.l.length qs.c]
abbrev saV (c : Ch) (ps : Sl Int) (qs : Sl Ad) : Value := .agg (saC c ps qs)
abbrev saL (ps : Sl Int) (qs : Sl Ad) : List Fact := [Row ps.a (rows ps.l), Row qs.a (rows qs.l)]
structure SaOK (c : Ch) (ss : List Int) (xs : List Ad) : Prop where
  ch : ChOK c
  n1 : 1 ≤ ss.length
  n5 : ss.length ≤ 5
  st : ∀ s ∈ ss, 0 ≤ s ∧ s ≤ 9
  x8 : xs.length ≤ 8
  ad : ∀ x ∈ xs, (0 ≤ x.1 ∧ x.1 < (ss.length : Int)) ∧ (1 ≤ x.2.1 ∧ x.2.1 ≤ 3) ∧ (1 ≤ x.2.2 ∧ x.2.2 ≤ 6)
def hereB (ss : List Int) (xs : List Ad) (s : Int) (i : Nat) : Bool := xs.any (fun x => decide (x.1 = (i : Int))) && decide (ss.getD i default = s)
def offCnt (ss : List Int) (xs : List Ad) (s : Int) : Nat := ((List.range ss.length).filter (hereB ss xs s)).length
def offB (c : Ch) (ss : List Int) (xs : List Ad) (s : Int) : Bool := decide (c.2.2.2.2.2 ≤ (offCnt ss xs s : Int))
def discK (c : Ch) (ss : List Int) (xs : List Ad) (k : Nat) : List Int := ((List.range k).filter fun i : Nat => offB c ss xs (i : Int)).map fun i : Nat => (i : Int)
def hereS (ss : List Int) (xs : List Ad) (s : Int) (k : Nat) (v : Int) : Prop := ∃ x ∈ xs.take k, x.1 = v ∧ ss.getD v.toNat default = s
abbrev KI : KeyC prog y2 int := KeyC.int underlying3
end Go.Proofs.YtpihanmcnmlodaaGreatDoor
end
section
namespace Go.W
open Go Go.RowKit
theorem madeR {α : Type} [El α] (a0 : α) {zc : Array Value} (hz : zc.toList = El.cells a0) (n : Nat) : madeCells zc (n * El.sz α) = (rows (List.replicate n a0)).toArray := by
  have hsz : zc.size = El.sz α := by rw [← El.len a0, ← hz, Array.length_toList]
  apply Array.ext
  · simp [madeCells, S1]
  intro i h1 h2; have hi : i < n * El.sz α := by simpa [madeCells] using h1
  have hs0 : 0 < El.sz α := Nat.pos_of_ne_zero fun h => by rw [h] at hi; omega
  have hq : i / El.sz α < n := Nat.div_lt_of_lt_mul (by rw [Nat.mul_comm]; exact hi); have hm : i % El.sz α < El.sz α := Nat.mod_lt _ hs0; have e : i = i / El.sz α * El.sz α + i % El.sz α := by rw [Nat.mul_comm]; exact (Nat.div_add_mod _ _).symm
  have h3 := rows_get' (List.replicate n a0) (i / El.sz α) (i % El.sz α) (by simpa using hq) hm; rw [← e] at h3; have h4 : (List.replicate n a0).getD (i / El.sz α) default = a0 := by simp [List.getD_eq_getElem?_getD, hq]
  rw [h4, ← hz] at h3; have h5 : i < (rows (List.replicate n a0)).length := by rw [S1, List.length_replicate]; exact hi
  rw [List.getElem?_eq_getElem h5, List.getElem?_eq_getElem (by rw [Array.length_toList, hsz]; exact hm)] at h3; have h6 := Option.some.inj h3; have h7 : (rows (List.replicate n a0)).toArray[i] = (rows (List.replicate n a0))[i] := by simp
  have hm' : i % zc.size < zc.size := by rw [hsz]; exact hm
  have h8 : (madeCells zc (n * El.sz α))[i] = zc[i % zc.size] := by
    simp only [madeCells, Array.getElem_map, Array.getElem_range]; exact getElem!_pos zc _ hm'
  rw [h7, h6, h8]
  simp [hsz]
theorem ij9 {α : Type} [El α] (a0 : α) {c : Cx} {Q : Exit → Act → World → Prop} {fr : Fr} {hp : Hp} {L : List Fact} {ops : Array Oper} {rest : List Oper} {d : Tmp} {ty : TypeId} {pos : String} {af : Array Edge}
    {t e : TypeId} {x y : Operand} {n bytes : Nat} {z : Value} {m : Int} (hd : Nat.blt d c.n = true) (ht : c.P.underlying t = some (.slice e)) (hi : (c.P.info? e).map (fun i => (i.zero, i.size, i.bytes)) = some (some z, El.sz α, bytes)) (hz : z.cells.toList = El.cells a0)
    (hx : ev fr x = some (int m)) (hy : ev fr y = some (int m)) (hm : m = (n : Int)) (hb : bytes * n ≤ 140737488355328) (hn : n ≤ 140737488355328)
    (k : ∀ g, HL c ops Q rest ((d, .slice (i7 g) n n) :: fr) ((g, .cells (rows (List.replicate n a0)).toArray e (0, 0)) :: hp) L) : HL c ops Q (⟨some d, .makeSlice t x y, ty, pos, af, none⟩ :: rest) fr hp L :=
  rT (.cells (rows (List.replicate n a0)).toArray e (0, 0)) (fun g => .slice (i7 g) n n) rfl rfl hd (fun a w ha _ => by
    subst hm; obtain ⟨i, h1, h2, h3, h4⟩ := info_parts hi
    have hb' : (i.bytes : Int) * (n : Int) ≤ 281474976710656 := by
      have h : ((i.bytes * n : Nat) : Int) ≤ 281474976710656 := by rw [h4]; omega
      rwa [Int.natCast_mul] at h
    have hr := run_make (P := c.P) w t e i z ht h1 h2 .i64 .i64 n n (by omega) (Int.le_refl _) hb' (by omega); simp only [Int.toNat_natCast, h3, madeR a0 hz] at hr
    simp only [execOp, ha.ev hx, ha.ev hy, Sem.run_bind, hr, Result.andThen_ok, Sem.run_pure]) k
theorem dq2 {α : Type} [El α] (a : α) {c : Cx} {Q : Exit → Act → World → Prop} {fr : Fr} {hp : Hp} {L : List Fact} {ops : Array Oper} {rest : List Oper} {ty : TypeId} {pos : String} {af : Array Edge}
    {t e : TypeId} {x y : Operand} {g q k f : Nat} {l : List α} {v : Value} {hp' : Hp} (hx : ev fr x = some (.pointer (some ⟨g, q, none⟩))) (hq : q = k * El.sz α + f) (hy : ev fr y = some v) (hpp : hp.Perm ((g, .cells (rows l).toArray e (0, 0)) :: hp'))
    (hz : Sz c.P t 1) (hk : k < l.length) (hf : f < El.sz α) (hc : El.cells a = (El.cells (l.getD k default)).set f v) (h1 : v.oneCell' = true)
    (kk : HL c ops Q rest fr ((g, .cells (rows (l.set k a)).toArray e (0, 0)) :: hp') L) : HL c ops Q (⟨none, .store t x y, ty, pos, af, none⟩ :: rest) fr hp L := by
  subst hq
  have hlt : k * El.sz α + f < (rows l).length := by
    rw [S1]; have : (k + 1) * El.sz α ≤ l.length * El.sz α := Nat.mul_le_mul_right _ hk; rw [Nat.add_mul, Nat.one_mul] at this
    omega
  refine u9 (u := (rows l)[k * El.sz α + f]) hx hy hpp hz (by rw [List.getElem?_toArray, List.getElem?_eq_getElem hlt]) h1 ?_
  have e : (rows l).toArray.setIfInBounds (k * El.sz α + f) v = (rows (l.set k a)).toArray := by
    rw [← az5 hf hk hc]
    simp
  rw [e]; exact kk
theorem kj6 {α : Type} [El α] {b : Bx} {hp : Hp} {L : List Fact} {g q k f : Nat} {l : List α} {t : TypeId} {fz : Nat × Nat} {v : Value} (h : (g, Obj.cells (rows l).toArray t fz) ∈ hp) (hq : q = k * El.sz α + f) (hk : k < l.length) (hv : (El.cells (l.getD k default))[f]? = some v) : Cell b hp L ⟨g, q, none⟩ v := by
  subst hq; exact j3 h (by rw [List.getElem?_toArray]; exact rows_get hk hv)
theorem kj7 {α : Type} [El α] {b : Bx} {hp : Hp} {L : List Fact} {g q k f : Nat} {l : List α} {t : TypeId} {fz : Nat × Nat} {v : Value} (h : Blk g (Obj.cells (rows l).toArray t fz) ∈ L) (hq : q = k * El.sz α + f) (hk : k < l.length) (hv : (El.cells (l.getD k default))[f]? = some v) : Cell b hp L ⟨g, q, none⟩ v := by
  subst hq; exact d5 h (by rw [List.getElem?_toArray]; exact rows_get hk hv)
end Go.W
end
section
namespace Go.Proofs.YtpihanmcnmlodaaGreatDoor
open Go Go.W Tryz T F
set_option maxRecDepth 20000
attribute [local irreducible] HL HC HQ HB Row Rows2 Blk Facts
theorem jG {A : Option Addr} {c : Nat} (l : List Int) (s : Int) (hl : l.length ≤ 1000000) : Meets prog O3 [.slice A l.length c, int s] { LI := [Row A (rows l)], inv := fun z : Int => AtInv l s z, val := fun z => int z } := by
 refine d3 lL rfl n2 fun w0 => ?_; refine d4 (b6 rfl (c3 (d1 (d4 (b4 rfl ?_))))); refine k5 rfl j2 rfl ?_; refine b4 rfl (c3 (i8 ?_)); refine p6 (β := Nat) ⟨fun k => k ≤ l.length ∧ s ∉ l.take k, fun k => [(0, .slice A l.length c), (1, int s), (7, int l.length), (8, int k)], fun _ => [], fun _ => [Row A (rows l)]⟩ (fun k => l.length - k) 0 ⟨Nat.zero_le _, by simp⟩ mC nK mC fun k hk => ?_; obtain ⟨hk, ht⟩ := hk; refine d4 (u7 rfl rfl rfl (c3 (d1 ?_)))
 first | refine j9 rfl (fun hb1 => ?_) (fun hb1 => ?_) | refine d6 rfl (fun hb1 => ?_) (fun hb1 => ?_)
 ·have hb1' := hb1; try simp at hb1'
  have hk2 : k < l.length := by omega
  refine i4 (c7 (d1 (i8 (d4 (b4 rfl (b6 rfl (j4 ?_))))))); refine b4 rfl (b4 rfl (b4 rfl ?_)); refine p8 (α := Int) _ _ rfl j2 k6 rfl rfl rfl mB rfl (by omega) (by decide) (b3 rfl b5 rfl (i1 mB (c5 (by omega) rfl)) ?_); refine I2 rfl rfl rfl (c3 ?_)
  first | refine j9 rfl (fun hb2 => ?_) (fun hb2 => ?_) | refine d6 rfl (fun hb2 => ?_) (fun hb2 => ?_)
  ·have hb2' := hb2; try simp at hb2'
   refine d4 (b4 rfl (b6 rfl (c3 (j6 (A1 (u4 (A1 ?_))))))); exact ret1 (k : Int) rfl rfl rfl (gq1 hk2 hb2.symm ht) nK tK
  have hb2' := hb2; try simp at hb2'
  refine i4 (q8 (c7 (c9 ?_))); refine r4 _ rfl rfl rfl rfl m7 ?_; refine b4 rfl (b7 ?_); exact again _ (k + 1) ⟨by omega, by rw [A6 l k hk2]; simp only [List.mem_append, List.mem_singleton, not_or]; exact ⟨ht, hb2⟩⟩ (r9 (by omega)) mC nK mC
 have hb1' := hb1; try simp at hb1'
 obtain rfl : k = l.length := by omega
 rw [List.take_length] at ht; refine m4 (v6 (l9 (c7 (d4 (b6 rfl (c3 (j6 ?_))))))); exact ret1 (-1) rfl rfl rfl (ix7 ht) nK tK
theorem cR {A : Option Addr} {c : Nat} (l : List Int) (s : Int) (hl : l.length ≤ 1000000) : Meets prog K7 [.slice A l.length c, int s] { LI := [Row A (rows l)], val := fun _ : Unit => .bool (decide (s ∈ l)) } := by
 refine d3 dX rfl n2 fun w0 => ?_; refine d4 (b6 rfl (j4 (b4 rfl (b4 rfl ?_)))); refine i5 kA rfl rfl (jG l s hl) k8 mC fun z hz => ?_; refine cT rfl rfl rfl (b6 rfl (c3 (j6 ?_))); exact ret1 () rfl (congrArg (fun b => some (Value.bool b)) (decide_eq_decide.2 hz.1)) rfl tK nK tK
abbrev Ac2 := Int × Option (Option Nat)
def ruleN (c : Ch) (ss : List Int) (xs : List Ad) (g i : Nat) : Option Nat := if offB c ss xs (ss.getD i default) = true then some g else none
def sumK (c : Ch) (xs : List Ad) (k i : Nat) : Int := (((xs.take k).filter fun x => decide (x.1 = (i : Int))).map (priceN c)).sum
def acA (c : Ch) (ss : List Int) (xs : List Ad) (g k i : Nat) : Ac2 := (0, if i < k then some (ruleN c ss xs g i) else none)
def acS (c : Ch) (ss : List Int) (xs : List Ad) (g k i : Nat) : Ac2 := (sumK c xs k i, some (ruleN c ss xs g i))
theorem gz5 {α : Type} [Inhabited α] {n k : Nat} (f : Nat → α) (hk : k < n) : ((List.range n).map f).getD k default = f k := by
  rw [List.getD_eq_getElem?_getD, List.getElem?_map, List.getElem?_range hk]; rfl
theorem dj3 {l : List Int} {k : Nat} (hk : k < l.length) : (l.take (k + 1)).sum = (l.take k).sum + l.getD k default := by
  rw [List.take_succ_eq_append_getElem hk, List.sum_append, q7 hk]; simp
theorem kx7 {l : List Int} (h : ∀ v ∈ l, 0 ≤ v ∧ v ≤ 1000000000) : ∀ k, 0 ≤ (l.take k).sum ∧ (l.take k).sum ≤ 1000000000 * (k : Int)
  | 0 => by simp
  | k + 1 => by
    have ih := kx7 h k
    rcases Nat.lt_or_ge k l.length with hk | hk
    · rw [dj3 hk]
      have := h _ (n7 hk)
      omega
    rw [List.take_of_length_le (by omega)]; rw [List.take_of_length_le hk] at ih
    omega
end Go.Proofs.YtpihanmcnmlodaaGreatDoor
end
