/- Texts of this claim, one behind another. -/

import Derived.Test.YtfhninnleacgiaaGreatAAk
set_option linter.unusedVariables false
set_option linter.unusedSimpArgs false
section
namespace Go.Proofs.YtfhninnleacgiaaGreat
open Go Go.W
set_option maxRecDepth 20000
attribute [local irreducible] HL HC HQ HB Row Rows2 Blk Facts
theorem nX : Meets Tryz.prog F.B1 [.int .u64 1, .int .u64 0] { val := fun _ : Unit => .tuple #[.int .u64 0, .int .u64 0] } := by
 refine i7 F.C7 rfl p7 fun w0 => ?_; refine i4 (b7 rfl (b7 rfl (j8 (a8 rfl ?_)))); refine n3 _ rfl rfl rfl (fun _ => rfl) (fun _ => rfl) ?_; refine b7 rfl (j8 (a8 rfl ?_)); refine n3 _ rfl rfl rfl (fun _ => rfl) (fun _ => rfl) ?_; refine b7 rfl (j8 (a8 rfl ?_)); refine n3 _ rfl rfl rfl (fun _ => rfl) (fun _ => rfl) ?_; refine b7 rfl (j8 (a8 rfl ?_)); refine n3 _ rfl rfl rfl (fun _ => rfl) (fun _ => rfl) ?_; refine b7 rfl (j8 (a8 rfl (a8 rfl ?_))); refine n3 _ rfl rfl rfl (fun _ => rfl) (fun _ => rfl) ?_; refine b7 rfl (j8 (a8 rfl (a8 rfl ?_))); refine n3 _ rfl rfl rfl (fun _ => rfl) (fun _ => rfl) (a8 rfl (n3 _ rfl rfl rfl (fun _ => rfl) (fun _ => rfl) (n3 _ rfl rfl rfl (fun _ => rfl) (fun _ => rfl) ?_))); refine b7 rfl (j8 (a8 rfl ?_)); refine n3 _ rfl rfl rfl (fun _ => rfl) (fun _ => rfl) ?_; refine b7 rfl (j8 (a8 rfl ?_)); refine n3 _ rfl rfl rfl (fun _ => rfl) (fun _ => rfl) ?_; refine b7 rfl (j8 (a8 rfl (a8 rfl (a8 rfl ?_)))); refine n3 _ rfl rfl rfl (fun _ => rfl) (fun _ => rfl) (n3 _ rfl rfl rfl (fun _ => rfl) (fun _ => rfl) ?_); refine b7 rfl (j8 (a8 rfl (a8 rfl ?_))); refine n3 _ rfl rfl rfl (fun _ => rfl) (fun _ => rfl) (a8 rfl (n3 _ rfl rfl rfl (fun _ => rfl) (fun _ => rfl) (a8 rfl (n3 _ rfl rfl rfl (fun _ => rfl) (fun _ => rfl) (n3 _ rfl rfl rfl (fun _ => rfl) (fun _ => rfl) ?_))))); refine b7 rfl (j8 (a8 rfl (a8 rfl ?_))); refine n3 _ rfl rfl rfl (fun _ => rfl) (fun _ => rfl) ?_; refine b7 rfl (d9 (k5 ?_)); exact ret2 () rfl rfl rfl rfl rfl trivial nil_sb trivial
theorem nW : Meets Tryz.prog F.B1 [.int .u64 1, .int .u64 1] { val := fun _ : Unit => .tuple #[.int .u64 0, .int .u64 1] } := by
 refine i7 F.C7 rfl p7 fun w0 => ?_; refine i4 (b7 rfl (b7 rfl (j8 (a8 rfl ?_)))); refine n3 _ rfl rfl rfl (fun _ => rfl) (fun _ => rfl) ?_; refine b7 rfl (j8 (a8 rfl ?_)); refine n3 _ rfl rfl rfl (fun _ => rfl) (fun _ => rfl) ?_; refine b7 rfl (j8 (a8 rfl ?_)); refine n3 _ rfl rfl rfl (fun _ => rfl) (fun _ => rfl) ?_; refine b7 rfl (j8 (a8 rfl ?_)); refine n3 _ rfl rfl rfl (fun _ => rfl) (fun _ => rfl) ?_; refine b7 rfl (j8 (a8 rfl (a8 rfl ?_))); refine n3 _ rfl rfl rfl (fun _ => rfl) (fun _ => rfl) ?_; refine b7 rfl (j8 (a8 rfl (a8 rfl ?_))); refine n3 _ rfl rfl rfl (fun _ => rfl) (fun _ => rfl) (a8 rfl (n3 _ rfl rfl rfl (fun _ => rfl) (fun _ => rfl) (n3 _ rfl rfl rfl (fun _ => rfl) (fun _ => rfl) ?_))); refine b7 rfl (j8 (a8 rfl ?_)); refine n3 _ rfl rfl rfl (fun _ => rfl) (fun _ => rfl) ?_; refine b7 rfl (j8 (a8 rfl ?_)); refine n3 _ rfl rfl rfl (fun _ => rfl) (fun _ => rfl) ?_; refine b7 rfl (j8 (a8 rfl (a8 rfl (a8 rfl ?_)))); refine n3 _ rfl rfl rfl (fun _ => rfl) (fun _ => rfl) (n3 _ rfl rfl rfl (fun _ => rfl) (fun _ => rfl) ?_); refine b7 rfl (j8 (a8 rfl (a8 rfl ?_))); refine n3 _ rfl rfl rfl (fun _ => rfl) (fun _ => rfl) (a8 rfl (n3 _ rfl rfl rfl (fun _ => rfl) (fun _ => rfl) (a8 rfl (n3 _ rfl rfl rfl (fun _ => rfl) (fun _ => rfl) (n3 _ rfl rfl rfl (fun _ => rfl) (fun _ => rfl) ?_))))); refine b7 rfl (j8 (a8 rfl (a8 rfl ?_))); refine n3 _ rfl rfl rfl (fun _ => rfl) (fun _ => rfl) ?_; refine b7 rfl (d9 (k5 ?_)); exact ret2 () rfl rfl rfl rfl rfl trivial nil_sb trivial
theorem nV : Meets Tryz.prog F.B1 [.int .u64 1, .int .u64 2] { val := fun _ : Unit => .tuple #[.int .u64 0, .int .u64 2] } := by
 refine i7 F.C7 rfl p7 fun w0 => ?_; refine i4 (b7 rfl (b7 rfl (j8 (a8 rfl ?_)))); refine n3 _ rfl rfl rfl (fun _ => rfl) (fun _ => rfl) ?_; refine b7 rfl (j8 (a8 rfl ?_)); refine n3 _ rfl rfl rfl (fun _ => rfl) (fun _ => rfl) ?_; refine b7 rfl (j8 (a8 rfl ?_)); refine n3 _ rfl rfl rfl (fun _ => rfl) (fun _ => rfl) ?_; refine b7 rfl (j8 (a8 rfl ?_)); refine n3 _ rfl rfl rfl (fun _ => rfl) (fun _ => rfl) ?_; refine b7 rfl (j8 (a8 rfl (a8 rfl ?_))); refine n3 _ rfl rfl rfl (fun _ => rfl) (fun _ => rfl) ?_; refine b7 rfl (j8 (a8 rfl (a8 rfl ?_))); refine n3 _ rfl rfl rfl (fun _ => rfl) (fun _ => rfl) (a8 rfl (n3 _ rfl rfl rfl (fun _ => rfl) (fun _ => rfl) (n3 _ rfl rfl rfl (fun _ => rfl) (fun _ => rfl) ?_))); refine b7 rfl (j8 (a8 rfl ?_)); refine n3 _ rfl rfl rfl (fun _ => rfl) (fun _ => rfl) ?_; refine b7 rfl (j8 (a8 rfl ?_)); refine n3 _ rfl rfl rfl (fun _ => rfl) (fun _ => rfl) ?_; refine b7 rfl (j8 (a8 rfl (a8 rfl (a8 rfl ?_)))); refine n3 _ rfl rfl rfl (fun _ => rfl) (fun _ => rfl) (n3 _ rfl rfl rfl (fun _ => rfl) (fun _ => rfl) ?_); refine b7 rfl (j8 (a8 rfl (a8 rfl ?_))); refine n3 _ rfl rfl rfl (fun _ => rfl) (fun _ => rfl) (a8 rfl (n3 _ rfl rfl rfl (fun _ => rfl) (fun _ => rfl) (a8 rfl (n3 _ rfl rfl rfl (fun _ => rfl) (fun _ => rfl) (n3 _ rfl rfl rfl (fun _ => rfl) (fun _ => rfl) ?_))))); refine b7 rfl (j8 (a8 rfl (a8 rfl ?_))); refine n3 _ rfl rfl rfl (fun _ => rfl) (fun _ => rfl) ?_; refine b7 rfl (d9 (k5 ?_)); exact ret2 () rfl rfl rfl rfl rfl trivial nil_sb trivial
theorem nU : Meets Tryz.prog F.B1 [.int .u64 1, .int .u64 3] { val := fun _ : Unit => .tuple #[.int .u64 0, .int .u64 3] } := by
 refine i7 F.C7 rfl p7 fun w0 => ?_; refine i4 (b7 rfl (b7 rfl (j8 (a8 rfl ?_)))); refine n3 _ rfl rfl rfl (fun _ => rfl) (fun _ => rfl) ?_; refine b7 rfl (j8 (a8 rfl ?_)); refine n3 _ rfl rfl rfl (fun _ => rfl) (fun _ => rfl) ?_; refine b7 rfl (j8 (a8 rfl ?_)); refine n3 _ rfl rfl rfl (fun _ => rfl) (fun _ => rfl) ?_; refine b7 rfl (j8 (a8 rfl ?_)); refine n3 _ rfl rfl rfl (fun _ => rfl) (fun _ => rfl) ?_; refine b7 rfl (j8 (a8 rfl (a8 rfl ?_))); refine n3 _ rfl rfl rfl (fun _ => rfl) (fun _ => rfl) ?_; refine b7 rfl (j8 (a8 rfl (a8 rfl ?_))); refine n3 _ rfl rfl rfl (fun _ => rfl) (fun _ => rfl) (a8 rfl (n3 _ rfl rfl rfl (fun _ => rfl) (fun _ => rfl) (n3 _ rfl rfl rfl (fun _ => rfl) (fun _ => rfl) ?_))); refine b7 rfl (j8 (a8 rfl ?_)); refine n3 _ rfl rfl rfl (fun _ => rfl) (fun _ => rfl) ?_; refine b7 rfl (j8 (a8 rfl ?_)); refine n3 _ rfl rfl rfl (fun _ => rfl) (fun _ => rfl) ?_; refine b7 rfl (j8 (a8 rfl (a8 rfl (a8 rfl ?_)))); refine n3 _ rfl rfl rfl (fun _ => rfl) (fun _ => rfl) (n3 _ rfl rfl rfl (fun _ => rfl) (fun _ => rfl) ?_); refine b7 rfl (j8 (a8 rfl (a8 rfl ?_))); refine n3 _ rfl rfl rfl (fun _ => rfl) (fun _ => rfl) (a8 rfl (n3 _ rfl rfl rfl (fun _ => rfl) (fun _ => rfl) (a8 rfl (n3 _ rfl rfl rfl (fun _ => rfl) (fun _ => rfl) (n3 _ rfl rfl rfl (fun _ => rfl) (fun _ => rfl) ?_))))); refine b7 rfl (j8 (a8 rfl (a8 rfl ?_))); refine n3 _ rfl rfl rfl (fun _ => rfl) (fun _ => rfl) ?_; refine b7 rfl (d9 (k5 ?_)); exact ret2 () rfl rfl rfl rfl rfl trivial nil_sb trivial
theorem nT : Meets Tryz.prog F.B1 [.int .u64 1, .int .u64 4] { val := fun _ : Unit => .tuple #[.int .u64 0, .int .u64 4] } := by
 refine i7 F.C7 rfl p7 fun w0 => ?_; refine i4 (b7 rfl (b7 rfl (j8 (a8 rfl ?_)))); refine n3 _ rfl rfl rfl (fun _ => rfl) (fun _ => rfl) ?_; refine b7 rfl (j8 (a8 rfl ?_)); refine n3 _ rfl rfl rfl (fun _ => rfl) (fun _ => rfl) ?_; refine b7 rfl (j8 (a8 rfl ?_)); refine n3 _ rfl rfl rfl (fun _ => rfl) (fun _ => rfl) ?_; refine b7 rfl (j8 (a8 rfl ?_)); refine n3 _ rfl rfl rfl (fun _ => rfl) (fun _ => rfl) ?_; refine b7 rfl (j8 (a8 rfl (a8 rfl ?_))); refine n3 _ rfl rfl rfl (fun _ => rfl) (fun _ => rfl) ?_; refine b7 rfl (j8 (a8 rfl (a8 rfl ?_))); refine n3 _ rfl rfl rfl (fun _ => rfl) (fun _ => rfl) (a8 rfl (n3 _ rfl rfl rfl (fun _ => rfl) (fun _ => rfl) (n3 _ rfl rfl rfl (fun _ => rfl) (fun _ => rfl) ?_))); refine b7 rfl (j8 (a8 rfl ?_)); refine n3 _ rfl rfl rfl (fun _ => rfl) (fun _ => rfl) ?_; refine b7 rfl (j8 (a8 rfl ?_)); refine n3 _ rfl rfl rfl (fun _ => rfl) (fun _ => rfl) ?_; refine b7 rfl (j8 (a8 rfl (a8 rfl (a8 rfl ?_)))); refine n3 _ rfl rfl rfl (fun _ => rfl) (fun _ => rfl) (n3 _ rfl rfl rfl (fun _ => rfl) (fun _ => rfl) ?_); refine b7 rfl (j8 (a8 rfl (a8 rfl ?_))); refine n3 _ rfl rfl rfl (fun _ => rfl) (fun _ => rfl) (a8 rfl (n3 _ rfl rfl rfl (fun _ => rfl) (fun _ => rfl) (a8 rfl (n3 _ rfl rfl rfl (fun _ => rfl) (fun _ => rfl) (n3 _ rfl rfl rfl (fun _ => rfl) (fun _ => rfl) ?_))))); refine b7 rfl (j8 (a8 rfl (a8 rfl ?_))); refine n3 _ rfl rfl rfl (fun _ => rfl) (fun _ => rfl) ?_; refine b7 rfl (d9 (k5 ?_)); exact ret2 () rfl rfl rfl rfl rfl trivial nil_sb trivial
theorem nS : Meets Tryz.prog F.B1 [.int .u64 1, .int .u64 5] { val := fun _ : Unit => .tuple #[.int .u64 0, .int .u64 5] } := by
 refine i7 F.C7 rfl p7 fun w0 => ?_; refine i4 (b7 rfl (b7 rfl (j8 (a8 rfl ?_)))); refine n3 _ rfl rfl rfl (fun _ => rfl) (fun _ => rfl) ?_; refine b7 rfl (j8 (a8 rfl ?_)); refine n3 _ rfl rfl rfl (fun _ => rfl) (fun _ => rfl) ?_; refine b7 rfl (j8 (a8 rfl ?_)); refine n3 _ rfl rfl rfl (fun _ => rfl) (fun _ => rfl) ?_; refine b7 rfl (j8 (a8 rfl ?_)); refine n3 _ rfl rfl rfl (fun _ => rfl) (fun _ => rfl) ?_; refine b7 rfl (j8 (a8 rfl (a8 rfl ?_))); refine n3 _ rfl rfl rfl (fun _ => rfl) (fun _ => rfl) ?_; refine b7 rfl (j8 (a8 rfl (a8 rfl ?_))); refine n3 _ rfl rfl rfl (fun _ => rfl) (fun _ => rfl) (a8 rfl (n3 _ rfl rfl rfl (fun _ => rfl) (fun _ => rfl) (n3 _ rfl rfl rfl (fun _ => rfl) (fun _ => rfl) ?_))); refine b7 rfl (j8 (a8 rfl ?_)); refine n3 _ rfl rfl rfl (fun _ => rfl) (fun _ => rfl) ?_; refine b7 rfl (j8 (a8 rfl ?_)); refine n3 _ rfl rfl rfl (fun _ => rfl) (fun _ => rfl) ?_; refine b7 rfl (j8 (a8 rfl (a8 rfl (a8 rfl ?_)))); refine n3 _ rfl rfl rfl (fun _ => rfl) (fun _ => rfl) (n3 _ rfl rfl rfl (fun _ => rfl) (fun _ => rfl) ?_); refine b7 rfl (j8 (a8 rfl (a8 rfl ?_))); refine n3 _ rfl rfl rfl (fun _ => rfl) (fun _ => rfl) (a8 rfl (n3 _ rfl rfl rfl (fun _ => rfl) (fun _ => rfl) (a8 rfl (n3 _ rfl rfl rfl (fun _ => rfl) (fun _ => rfl) (n3 _ rfl rfl rfl (fun _ => rfl) (fun _ => rfl) ?_))))); refine b7 rfl (j8 (a8 rfl (a8 rfl ?_))); refine n3 _ rfl rfl rfl (fun _ => rfl) (fun _ => rfl) ?_; refine b7 rfl (d9 (k5 ?_)); exact ret2 () rfl rfl rfl rfl rfl trivial nil_sb trivial
theorem nR : Meets Tryz.prog F.B1 [.int .u64 1, .int .u64 6] { val := fun _ : Unit => .tuple #[.int .u64 0, .int .u64 6] } := by
 refine i7 F.C7 rfl p7 fun w0 => ?_; refine i4 (b7 rfl (b7 rfl (j8 (a8 rfl ?_)))); refine n3 _ rfl rfl rfl (fun _ => rfl) (fun _ => rfl) ?_; refine b7 rfl (j8 (a8 rfl ?_)); refine n3 _ rfl rfl rfl (fun _ => rfl) (fun _ => rfl) ?_; refine b7 rfl (j8 (a8 rfl ?_)); refine n3 _ rfl rfl rfl (fun _ => rfl) (fun _ => rfl) ?_; refine b7 rfl (j8 (a8 rfl ?_)); refine n3 _ rfl rfl rfl (fun _ => rfl) (fun _ => rfl) ?_; refine b7 rfl (j8 (a8 rfl (a8 rfl ?_))); refine n3 _ rfl rfl rfl (fun _ => rfl) (fun _ => rfl) ?_; refine b7 rfl (j8 (a8 rfl (a8 rfl ?_))); refine n3 _ rfl rfl rfl (fun _ => rfl) (fun _ => rfl) (a8 rfl (n3 _ rfl rfl rfl (fun _ => rfl) (fun _ => rfl) (n3 _ rfl rfl rfl (fun _ => rfl) (fun _ => rfl) ?_))); refine b7 rfl (j8 (a8 rfl ?_)); refine n3 _ rfl rfl rfl (fun _ => rfl) (fun _ => rfl) ?_; refine b7 rfl (j8 (a8 rfl ?_)); refine n3 _ rfl rfl rfl (fun _ => rfl) (fun _ => rfl) ?_; refine b7 rfl (j8 (a8 rfl (a8 rfl (a8 rfl ?_)))); refine n3 _ rfl rfl rfl (fun _ => rfl) (fun _ => rfl) (n3 _ rfl rfl rfl (fun _ => rfl) (fun _ => rfl) ?_); refine b7 rfl (j8 (a8 rfl (a8 rfl ?_))); refine n3 _ rfl rfl rfl (fun _ => rfl) (fun _ => rfl) (a8 rfl (n3 _ rfl rfl rfl (fun _ => rfl) (fun _ => rfl) (a8 rfl (n3 _ rfl rfl rfl (fun _ => rfl) (fun _ => rfl) (n3 _ rfl rfl rfl (fun _ => rfl) (fun _ => rfl) ?_))))); refine b7 rfl (j8 (a8 rfl (a8 rfl ?_))); refine n3 _ rfl rfl rfl (fun _ => rfl) (fun _ => rfl) ?_; refine b7 rfl (d9 (k5 ?_)); exact ret2 () rfl rfl rfl rfl rfl trivial nil_sb trivial
theorem jP (n : Nat) (hn : n ≤ 6) : Meets Tryz.prog F.B1 [.int .u64 1, .int .u64 (n : Int)] { val := fun _ : Unit => .tuple #[.int .u64 0, .int .u64 (n : Int)] } := by
  match n, hn with
  | 0, _ => exact nX
  | 1, _ => exact nW
  | 2, _ => exact nV
  | 3, _ => exact nU
  | 4, _ => exact nT
  | 5, _ => exact nS
  | 6, _ => exact nR
theorem wrapu {n : Nat} (h : n ≤ 1000000) : IntKind.u64.wrap (n : Int) = n := IntWalk.u64_in _ (by omega)
theorem wrapi {n : Nat} (h : n ≤ 1000000) : IntKind.i64.wrap (n : Int) = n := IntWalk.i64_in _ (by omega)
theorem hq1 {m k : Nat} {v : Value} {l : List Value} (h : l.take k = List.replicate k v) (hm : k + m ≤ l.length) : (l.take k ++ List.replicate m v ++ l.drop (k + m)).take (k + m) = List.replicate (k + m) v := by
  rw [h, List.replicate_append_replicate]; exact List.take_left' (by simp)
theorem rep_get {k m : Nat} {v : Value} {cu : Array Value} (h : cu.toList.take k = List.replicate k v) (hm : m ≤ k) (i : Nat) (u : Value) (hu : (List.replicate m v)[i]? = some u) : cu[0 + i]? = some u := by
  rw [List.getElem?_replicate] at hu
  split at hu
  · rename_i hi
    cases hu
    have h2 : (cu.toList.take k)[i]? = some v := by rw [h, List.getElem?_replicate, if_pos (by omega)]
    rw [List.getElem?_take, if_pos (by omega)] at h2; rw [Nat.zero_add]
    simpa using h2
  cases hu
theorem cut_k {g n k : Nat} (h : k < n) : cutA (b8 g) n k 1 = some ⟨g, k, none⟩ := by
  rw [cutA, if_neg (by omega)]
  simp [Addr.add]
  omega
theorem zX (x : Int) : ∀ n : Nat, rows (List.replicate n x) = List.replicate n (int x)
  | 0 => rfl
  | n + 1 => by
    rw [List.replicate_succ, List.replicate_succ, ← zX x n]
    rfl
theorem mL (n : Nat) (hn : n ≤ 6) : Meets Tryz.prog F.dD [.int .u64 1, .int .u64 (n : Int)] { val := fun _ : Unit => .tuple #[.int .u64 0, .int .u64 (n : Int)] } := by
 refine i7 F.tD rfl p7 fun w0 => ?_; refine i4 (b7 rfl (b7 rfl (d9 (i1 (c_f rfl rfl (j3 (g6 (i4 ?_)))))))); refine a8 rfl (a8 rfl ?_); refine d5 F.nY rfl rfl (jP n hn) j5 trivial fun _ _ => ?_; refine a8 rfl (i6 rfl rfl rfl (i6 rfl rfl rfl (b7 rfl (b7 rfl (j8 (a8 rfl (a8 rfl (b7 rfl ?_)))))))); refine b7 rfl (d9 (k5 ?_)); exact ret2 () rfl rfl rfl rfl rfl trivial nil_sb trivial
set_option maxHeartbeats 1000000 in
theorem cY {b0 cb : Nat} (x : Int) (n : Nat) (h0 : 0 < n) (hn : n ≤ 6) : Meets Tryz.prog F.P6 [.slice (b8 b0) 1 cb, int n] { LI := [Row (b8 b0) (rows [x])], val := fun g : Nat => .slice (b8 g) n n, hpO := fun g => [(g, .cells (rows (List.replicate n x)).toArray T.int (0, 0))] } := by
 refine i7 F.kH rfl p7 fun w0 => ?_; refine i4 (b7 rfl (d9 (i1 (i4 (a8 rfl (t7 rfl rfl rfl (d9 ?_)))))))
 first | refine k8 rfl (fun hb1 => ?_) (fun hb1 => ?_) | refine i5 rfl (fun hb1 => ?_) (fun hb1 => ?_)
 ·exact absurd hb1 (by omega)
 have hb1' := hb1; try simp at hb1'
 refine j3 (g6 (i4 (a8 rfl ?_))); refine k4 rfl T.s5 rfl (nQ 1 rfl T.wX T.uH rfl (wrapu (n := 1) (by decide)) (a8 rfl (nQ (n : Int) rfl T.wX T.uH rfl (wrapu (by omega)) ?_))); refine d5 F.rW rfl rfl (mL n hn) j5 trivial fun _ _ => ?_; refine a8 rfl (i6 rfl rfl rfl (i6 rfl rfl rfl (b7 rfl (b7 rfl (d9 (i1 (i4 (a8 rfl (gK rfl rfl rfl ?_))))))))); refine a8 rfl ?_; refine m6 rfl rfl ?_ ?_
 ·intro hg1; have hg1' := hg1; try simp at hg1'
  refine i3 rfl rfl hg1 (a8 rfl (i3 rfl rfl hg1 (gK rfl rfl rfl ?_))); refine p_f rfl rfl (bf1 hg1) rfl ?_; refine d9 ?_
  first | refine k8 rfl (fun hb2 => ?_) (fun hb2 => ?_) | refine i5 rfl (fun hb2 => ?_) (fun hb2 => ?_)
  ·exact absurd hb2 (by omega)
  have hb2' := hb2; try simp at hb2'
  refine j3 (g6 (i4 (a8 rfl ?_))); refine nQ (n : Int) rfl T.uH T.wX rfl (wrapi (by omega)) ?_; refine r_makeN (n := n) T.iO rfl rfl rfl rfl rfl (by omega) (by omega) fun gM cur hcs => ?_; refine b7 rfl (j8 (a8 rfl (a8 rfl ?_))); refine hx3 (cs := [int x]) (off := 0) rfl T.s5 T.v6 rfl rfl j5 (show 1 = Nat.min 1 n from (Nat.min_eq_left h0).symm) (m7 (cs := [int x]) (j := 0) mB (fun i u hu => by rw [Nat.zero_add]; exact hu)) (by simp; omega) (by intro v hv; rw [List.mem_singleton.1 hv]; rfl) ?_; refine b7 rfl (d9 (i1 (i9 ?_))); refine p6 (β := Nat × Array Value) ⟨fun y => 1 ≤ y.1 ∧ y.1 ≤ n ∧ y.2.size = n ∧ y.2.toList.take y.1 = List.replicate y.1 (int x), fun y => [(7, .slice (b8 gM) n n), (8, int y.1)], fun y => [(gM, .cells y.2 T.int (0, 0))], fun _ => []⟩ (fun y => n - y.1) (1, _) ⟨Nat.le_refl _, h0, by simp; omega, by simp⟩ mC (List.Sublist.refl _) trivial fun y hy => ?_; obtain ⟨k, cu⟩ := y; obtain ⟨h1, hk, hcu, ht⟩ := hy; simp only at h1 hk hcu ht; refine i1 (i4 (a8 rfl (a8 rfl ?_))); refine k4 rfl T.s5 rfl ?_; refine t7 rfl rfl rfl (d9 ?_)
  first | refine k8 rfl (fun hb3 => ?_) (fun hb3 => ?_) | refine i5 rfl (fun hb3 => ?_) (fun hb3 => ?_)
  ·have hb3' := hb3; try simp at hb3'
   have hk2 : k < n := by omega
   obtain ⟨m, hm, hm1, hm2, hm3⟩ : ∃ m, m = Nat.min k (n - k) ∧ 1 ≤ m ∧ m ≤ k ∧ m ≤ n - k := ⟨min k (n - k), rfl, by omega, by omega, by omega⟩; refine j3 (g6 (i9 ?_)); refine G1 ([(gM, .cells cu T.int (0, 0))]) ([]) j5 8 [7] mixed (by decide) (by decide) (by decide) rfl rfl rfl (l3 (fun w1 => a8 rfl (q_z rfl)) (l3 (fun w1 => a8 rfl (q_z rfl)) (l3 (fun w1 => a8 rfl (q_z rfl)) (l3 (fun w1 => nP k rfl T.s5 T.v6 rfl rfl rfl (by omega) (q_z rfl)) (l3 (fun w1 => a8 rfl (q_z rfl)) (l3 (fun w1 => a8 rfl (q_z rfl)) (l3 (fun w1 => iJ k rfl T.s5 T.v6 rfl rfl rfl (by omega) (q_z rfl)) ?_))))))); refine iX ⟨Array Value, fun c2 => c2.size = n ∧ c2.toList.take (k + m) = List.replicate (k + m) (int x), fun _ => int (m : Int), fun _ => [], fun c2 => [(gM, Obj.cells c2 T.int (0, 0))]⟩ rfl rfl rfl ?_ ?_
   ·intro w1; refine hx3 (g := gM) (off := k) (ad := ⟨gM, 0, none⟩) (cs := List.replicate m (int x)) rfl T.s5 T.v6 (show ev _ _ = some (.slice (some ⟨gM, k, none⟩) (n - k) (n - k)) from congrArg (fun A => some (Value.slice A (n - k) (n - k))) (cut_k hk2)) rfl j5 (by rw [List.length_replicate]; exact hm) (lQ (List.mem_cons_self ..) (rep_get ht hm2)) (by rw [List.length_replicate]; omega) (by intro v hv; rw [List.eq_of_mem_replicate hv]; rfl) ?_; refine b3 ?_; exact G4 _ ⟨by simp; omega, by rw [List.length_replicate]; exact hq1 ht (by simp; omega)⟩ (fun _ => congrArg (fun z : Nat => some (int (z : Int))) List.length_replicate) (.refl _) trivial
   refine w5 ⟨rfl, ?_⟩; intro c2 hc2; refine q9 _ rfl rfl rfl rfl n5 ?_; refine b7 rfl (b3 (n9 ?_)); exact again _ (k + m, c2) ⟨by show 1 ≤ k + m; omega, by show k + m ≤ n; omega, hc2.1, hc2.2⟩ (by show n - (k + m) < n - k; omega) mC (List.Sublist.refl _) trivial
  have hb3' := hb3; try simp at hb3'
  obtain rfl : k = n := by omega
  obtain rfl : cu = (rows (List.replicate k x)).toArray := by
    rw [zX, ← ht, List.take_of_length_le (by simp; omega)]
  refine n2 (t4 (n1 (g6 (i4 (a8 rfl (b7 rfl (d9 (k5 ?_)))))))); exact ret1 gM rfl rfl rfl trivial (List.Sublist.refl _) trivial
 intro hg1; have hg1' := hg1; try simp at hg1'
attribute [local irreducible] KC KL
theorem qP : ∀ {n : Nat} {l : List Nat}, l.Nodup → (∀ y ∈ l, y < n) → l.length ≤ n
  | 0, [], _, _ => Nat.le_refl _
  | 0, x :: l, _, h => by have := h x (by simp); omega
  | n + 1, l, hnd, h => by
    have h1 := qP (n := n) (hnd.erase n) fun y hy => by
      have h2 := (List.Nodup.mem_erase_iff hnd).1 hy; have h3 := h y h2.2; have := h2.1
      omega
    rw [List.length_erase] at h1
    split at h1 <;> omega
section
variable {n : Nat} {e : Edges} {h : Nat}
abbrev dAt (ds : List Int) (i : Nat) : Int := ds.getD i default
structure Bf (n : Nat) (e : Edges) (h : Nat) (ds : List Int) : Prop where
  len : ds.length = n
  lo : ∀ i, i < n → -1 ≤ dAt ds i
  at_ : ∀ i, i < n → 0 ≤ dAt ds i → reachB n e h (dAt ds i).toNat i = true ∧ ∀ m, m < (dAt ds i).toNat → reachB n e h m i = false
structure Bo (n : Nat) (e : Edges) (h : Nat) (k : Nat) (ds : List Int) (q : List Nat) : Prop where
  b : Bf n e h ds
  nd : q.Nodup
  inq : ∀ y ∈ q, y < n ∧ (dAt ds y = (k : Int) ∨ dAt ds y = (k : Int) + 1)
  srt : q.Pairwise fun a b => dAt ds a ≤ dAt ds b
  pr : ∀ i, i < n → 0 ≤ dAt ds i → i ∉ q → ∀ s, s < n → e i s = true → 0 ≤ dAt ds s
  lv : ∀ i, i < n → reachB n e h k i = true → 0 ≤ dAt ds i
structure Br (n : Nat) (e : Edges) (h : Nat) (k : Nat) (x : Nat) (ds : List Int) (q : List Nat) : Prop where
  b : Bf n e h ds
  hx : x < n
  dx : dAt ds x = (k : Int)
  nd : q.Nodup
  inq : ∀ y ∈ q, y < n ∧ (dAt ds y = (k : Int) ∨ dAt ds y = (k : Int) + 1)
  srt : q.Pairwise fun a b => dAt ds a ≤ dAt ds b
  pr : ∀ i, i < n → 0 ≤ dAt ds i → i ∉ q → i ≠ x → ∀ s, s < n → e i s = true → 0 ≤ dAt ds s
  lv : ∀ i, i < n → reachB n e h k i = true → 0 ≤ dAt ds i
theorem bf_le {ds : List Int} (hb : Bf n e h ds) {i m : Nat} (hi : i < n) (hr : reachB n e h m i = true) (h0 : 0 ≤ dAt ds i) : dAt ds i ≤ (m : Int) := by
  apply Classical.byContradiction
  intro hn; have := (hb.at_ i hi h0).2 m (by omega); rw [hr] at this; cases this
theorem bo_pop {k : Nat} {ds : List Int} {x : Nat} {q : List Nat} (H : Bo n e h k ds (x :: q)) : ∃ k', Br n e h k' x ds q := by
  obtain ⟨hx, hdx⟩ := H.inq x (by simp); have hs := List.pairwise_cons.1 H.srt; have hnd := List.nodup_cons.1 H.nd
  rcases hdx with hdx | hdx
  · refine ⟨k, H.b, hx, hdx, hnd.2, fun y hy => H.inq y (by simp [hy]), hs.2, fun i hi h0 hq hix => H.pr i hi h0 (by simp [hq, hix]), H.lv⟩
  refine ⟨k + 1, H.b, hx, by rw [hdx]; omega, hnd.2, fun y hy => ?_, hs.2, fun i hi h0 hq hix => H.pr i hi h0 (by simp [hq, hix]), fun i hi hr => ?_⟩
  · have h1 := H.inq y (by simp [hy])
    have h2 := hs.1 y hy; refine ⟨h1.1, .inl ?_⟩
    rcases h1.2 with h3 | h3 <;> omega
  rcases P7.1 hr with h1 | ⟨z, hz, hrz, hez⟩
  · exact H.lv i hi h1
  have hz0 := H.lv z hz hrz; have hzk := bf_le H.b hz hrz hz0; refine H.pr z hz hz0 (fun hm => ?_) i hi hez
  rcases List.mem_cons.1 hm with e1 | hm
  · subst e1; omega
  have := hs.1 z hm
  omega
theorem rI {ds : List Int} {i j : Nat} {v : Int} (hi : i < ds.length) : dAt (ds.set i v) j = if j = i then v else dAt ds j := by
  unfold dAt; rw [List.getD_eq_getElem?_getD, List.getElem?_set, List.getD_eq_getElem?_getD]
  by_cases e1 : i = j
  · subst e1; rw [if_pos rfl, if_pos rfl, if_pos hi]; rfl
  rw [if_neg e1, if_neg (fun e2 => e1 e2.symm)]
theorem br_put {k x i : Nat} {ds : List Int} {q : List Nat} (H : Br n e h k x ds q) (hi : i < n) (hei : e x i = true) (h0 : dAt ds i < 0) : Br n e h k x (ds.set i (dAt ds x + 1)) (q ++ [i]) ∧ q.length < n := by
  have hil : i < ds.length := by rw [H.b.len]; exact hi
  have hg : ∀ j, dAt (ds.set i (dAt ds x + 1)) j = if j = i then dAt ds x + 1 else dAt ds j := fun j => rI hil; have hge : ∀ j, ¬ j = i → dAt (ds.set i (dAt ds x + 1)) j = dAt ds j := fun j hj => by rw [hg, if_neg hj]
  have hgi : dAt (ds.set i (dAt ds x + 1)) i = (k : Int) + 1 := by rw [hg, if_pos rfl, H.dx]
  have hxi : ¬ x = i := fun e1 => by subst e1; have := H.dx; omega
  have hiq : i ∉ q := fun hm => by rcases (H.inq i hm).2 with h1 | h1 <;> omega
  have hqi : ∀ y ∈ q, ¬ y = i := fun y hy e1 => by subst e1; exact hiq hy
  have hnd : (q ++ [i]).Nodup := by
    rw [List.nodup_append]; exact ⟨H.nd, by simp, fun a ha b hb e1 => by rw [List.mem_singleton] at hb; subst hb; subst e1; exact hiq ha⟩
  have hrx := H.b.at_ x H.hx (by rw [H.dx]; omega); rw [H.dx, Int.toNat_natCast] at hrx
  have hni : reachB n e h k i = false := by
    cases hc : reachB n e h k i with
    | false => rfl
    | true => have := H.lv i hi hc; omega
  refine ⟨⟨⟨by rw [List.length_set]; exact H.b.len, fun j hj => ?_, fun j hj hj0 => ?_⟩, H.hx, by rw [hge x hxi]; exact H.dx, hnd, fun y hy => ?_, ?_, fun j hj hj0 hjq hjx s hs hes => ?_, fun j hj hr => ?_⟩, ?_⟩
  · by_cases e1 : j = i
    · subst e1; rw [hgi]; omega
    rw [hge j e1]; exact H.b.lo j hj
  · by_cases e1 : j = i
    · subst e1
      rw [hgi, show ((k : Int) + 1).toNat = k + 1 by omega]; refine ⟨P7.2 (.inr ⟨x, H.hx, hrx.1, hei⟩), fun m hm => ?_⟩
      cases hc : reachB n e h m j with
      | false => rfl
      | true => rw [iI (show m ≤ k by omega) hc] at hni; cases hni
    rw [hge j e1] at hj0 ⊢; exact H.b.at_ j hj hj0
  · rcases List.mem_append.1 hy with hy | hy
    · rw [hge y (hqi y hy)]; exact H.inq y hy
    rw [List.mem_singleton] at hy; subst hy; exact ⟨hi, .inr hgi⟩
  · rw [List.pairwise_append]
    refine ⟨H.srt.imp_of_mem fun {a b} ha hb hab => by rw [hge a (hqi a ha), hge b (hqi b hb)]; exact hab, by simp, fun a ha b hb => ?_⟩; rw [List.mem_singleton] at hb; subst hb; rw [hgi, hge a (hqi a ha)]
    rcases (H.inq a ha).2 with h1 | h1 <;> omega
  · have hji : ¬ j = i := fun e1 => hjq (by simp [e1])
    rw [hge j hji] at hj0; have := H.pr j hj hj0 (fun hm => hjq (by simp [hm])) hjx s hs hes
    by_cases e1 : s = i
    · subst e1; rw [hgi]; omega
    rw [hge s e1]; exact this
  · by_cases e1 : j = i
    · subst e1; rw [hgi]; omega
    rw [hge j e1]; exact H.lv j hj hr
  have h1 : (q ++ [i]).length ≤ n := qP hnd fun y hy => by
    rcases List.mem_append.1 hy with hy | hy
    · exact (H.inq y hy).1
    rw [List.mem_singleton] at hy; subst hy; exact hi
  rw [List.length_append, List.length_singleton] at h1
  omega
theorem br_k {k x : Nat} {ds : List Int} {q : List Nat} (hh : h < n) (H : Br n e h k x ds q) : k ≤ n := by
  have hr := H.b.at_ x H.hx (by rw [H.dx]; omega); rw [H.dx, Int.toNat_natCast] at hr
  apply Classical.byContradiction
  intro hn; have := hr.2 n (by omega); rw [xH hh H.hx hr.1] at this; cases this
theorem br_done {k x : Nat} {ds : List Int} {q : List Nat} (H : Br n e h k x ds q) (hd : ∀ s, s < n → e x s = true → 0 ≤ dAt ds s) : Bo n e h k ds q :=
  ⟨H.b, H.nd, H.inq, H.srt, fun i hi h0 hq s hs hes => by
    by_cases e1 : i = x
    · subst e1; exact hd s hs hes
    exact H.pr i hi h0 hq e1 s hs hes, H.lv⟩
theorem bo_end {k : Nat} {ds : List Int} (hh : h < n) (H : Bo n e h k ds []) (h0 : dAt ds h = 0) : ds = (List.range n).map fun i => distI n e h i := by
  have hall : ∀ m i, i < n → reachB n e h m i = true → 0 ≤ dAt ds i := by
    intro m
    induction m with
    | zero => intro i hi hr; rw [reachB] at hr; rw [of_decide_eq_true hr, h0]; omega
    | succ m ih =>
      intro i hi hr
      rcases P7.1 hr with h1 | ⟨z, hz, hrz, hez⟩
      · exact ih i hi h1
      exact H.pr z hz (ih z hz hrz) (by simp) i hi hez
  refine List.ext_getElem (by rw [H.b.len, List.length_map, List.length_range]) fun i hi hi2 => ?_; rw [H.b.len] at hi; rw [List.getElem_map, List.getElem_range, ← u9]; have hlo := H.b.lo i hi; unfold distI
  cases hd : distB n e h i with
  | none =>
    have hr := gx6.1 hd; show dAt ds i = -1
    apply Classical.byContradiction
    intro hn; have h1 := (H.b.at_ i hi (by omega)).1; have h2 := hr n (Nat.le_refl _); rw [xH hh hi h1] at h2; cases h2
  | some s =>
    have hr := gx5.1 hd; show dAt ds i = (s : Int); have h1 := hall s i hi hr.2.1; have h2 := bf_le H.b hi hr.2.1 h1; have h3 := (H.b.at_ i hi h1).1
    apply Classical.byContradiction
    intro hn; have h4 := hr.2.2 (dAt ds i).toNat (by omega); rw [h3] at h4; cases h4
theorem jq2 (hh : h < n) : Bo n e h 0 ((List.replicate n (-1 : Int)).set h 0) [h] := by
  have hg : ∀ j, dAt ((List.replicate n (-1 : Int)).set h 0) j = if j = h then 0 else dAt (List.replicate n (-1 : Int)) j := fun j => rI (by rw [List.length_replicate]; exact hh)
  have hm : ∀ j, j < n → ¬ j = h → dAt ((List.replicate n (-1 : Int)).set h 0) j = -1 := fun j hj e1 => by
    rw [hg, if_neg e1]; unfold dAt; rw [List.getD_eq_getElem?_getD, List.getElem?_replicate, if_pos hj]; rfl
  have h0 : dAt ((List.replicate n (-1 : Int)).set h 0) h = 0 := by rw [hg, if_pos rfl]
  refine ⟨⟨by simp, fun j hj => ?_, fun j hj hj0 => ?_⟩, by simp, fun y hy => ?_, by simp, fun i hi hi0 hq => ?_, fun i hi hr => ?_⟩
  · by_cases e1 : j = h
    · subst e1; rw [h0]; omega
    rw [hm j hj e1]; omega
  · by_cases e1 : j = h
    · subst e1; rw [h0]; exact ⟨by simp [reachB], fun m hm => by simp at hm⟩
    rw [hm j hj e1] at hj0; omega
  · rw [List.mem_singleton] at hy; subst hy; exact ⟨hh, .inl h0⟩
  · by_cases e1 : i = h
    · subst e1; exact absurd (List.mem_singleton.2 rfl) hq
    rw [hm i hi e1] at hi0; omega
  rw [reachB] at hr; rw [of_decide_eq_true hr, h0]; omega
end
theorem zv_int (w : World) : (zeroValue T.int).run Tryz.prog w = .ok (int 0) w := by kernel_rfl
theorem arr_set (l : List Int) (k : Nat) (v : Int) : (rows l).toArray.setIfInBounds (0 + k * 1) (int v) = (rows (l.set k v)).toArray := by
  rw [← aT rfl (int v) v rfl]
  simp
theorem arr_take (l : List Int) : (rows l).toArray.toList.take (l.length * 1) = rows l := by
  have h1 : (rows l).length = l.length := by rw [I2]; exact Nat.mul_one _
  rw [List.take_of_length_le (by simp [h1])]
theorem cnt_set {l : List Int} {i : Nat} {v : Int} (hi : i < l.length) (h : l.getD i default < 0) (hv : 0 ≤ v) : (l.set i v).countP (fun z => decide (z < 0)) + 1 = l.countP fun z => decide (z < 0) := by
  rw [u9 hi] at h; rw [List.countP_set hi]; have h1 : 0 < l.countP fun z => decide (z < 0) := List.countP_pos_iff.2 ⟨l[i], List.getElem_mem hi, by simpa using h⟩; rw [if_pos (by simpa using h), if_neg (by simpa using hv)]
  omega
set_option maxHeartbeats 2000000 in
theorem R5 {A B oa ka : Option Addr} {ca cb oc kc gl : Nat} (cs : List Cl) (hs : List Hd) (h : Nat) (hok : TrOK (trOf cs hs)) (hh : h < hs.length) : Meets Tryz.prog F.V6 [.pointer (b8 gl), int h] { LI := [Row (b8 gl) [.slice A cs.length ca, .slice B hs.length cb, .slice oa cs.length oc, .slice ka hs.length kc], Row ka (rows (kindsN hs hs.length)), RowsF B hs Hd.row], inv := fun x : OutC => (stepsT (trOf cs hs) (h : Int)).length ≤ x.2, val := fun x => .slice x.1 (stepsT (trOf cs hs) (h : Int)).length x.2, LO := fun x => [Row x.1 (rows (stepsT (trOf cs hs) (h : Int)))] } := by
 refine zC F.mV rfl p7 fun w0 => ?_; refine J3 (C9 (b7 rfl (b3 (E2 (J3 ?_))))); have h6h := hok.h6; have hln := t0 cs hs; rw [hln] at h6h; refine C9 ?_; refine j4 _ rfl rfl (fun _ => T.v0 ..) fun gS => ?_; refine a8 rfl (l9 rfl rfl ?_)
 first | refine a7 ⟨_, 3, none⟩ rfl rfl T.j9 rfl ?_ | refine a7 _ rfl rfl T.j9 rfl ?_
 first | refine a6 rfl T.b6 rfl (h9 mB rfl) ?_ | refine a6 rfl T.b6 rfl (d8 mB rfl) ?_ | refine a6 rfl T.b6 rfl (d3 mB (b4 (by omega) rfl)) ?_ | refine a6 rfl T.b6 rfl (d1 mB (rows_get (by omega) rfl)) ?_ | refine a6 rfl T.b6 rfl (d7 mB rfl) ?_
 refine k4 rfl T.r8 rfl (n0 (rows [(-1 : Int)]) ⟨[], List.append_nil _⟩ ?_); refine d5 F.jL rfl rfl (cY (-1) hs.length (by omega) h6h) j5 mC fun g5 _ => ?_; refine b7 rfl (b3 (E2 (J3 (C9 (a8 rfl (a8 rfl ?_)))))); refine l6 h (0 + h * 1) rfl T.s5 T.v6 rfl rfl rfl hh rfl ?_; refine z9 rfl rfl (.refl _) T.v6 (E9 rfl (arr_take (List.replicate hs.length (-1))) (by rw [List.length_replicate]; exact hh) (by omega) rfl) (by rfl) ?_; rw [arr_set]; refine b3 (E2 (J3 (C9 (a8 rfl (l9 rfl rfl ?_)))))
 first | refine a7 ⟨_, 3, none⟩ rfl rfl T.j9 rfl ?_ | refine a7 _ rfl rfl T.j9 rfl ?_
 first | refine a6 rfl T.b6 rfl (h9 mB rfl) ?_ | refine a6 rfl T.b6 rfl (d8 mB rfl) ?_ | refine a6 rfl T.b6 rfl (d3 mB (b4 (by omega) rfl)) ?_ | refine a6 rfl T.b6 rfl (d1 mB (rows_get (by omega) rfl)) ?_ | refine a6 rfl T.b6 rfl (d7 mB rfl) ?_
 refine k4 rfl T.r8 rfl ?_; obtain ⟨ii, zz, hii, _, _, hby, _⟩ := T.iO.i; refine bq4 (n := hs.length) rfl Tryz.underlying111 hii rfl (by omega) (by rw [hby]; omega) fun gC => ?_; refine b7 rfl (b3 (E2 (J3 (zF ?_)))); show KL _ _ _ [0, 1, 2] _ _ _; refine qX rfl rfl rfl (qX rfl rfl rfl ?_); refine cx3 (buf := []) rfl rfl rfl j5 (by simp; omega) ?_; refine bx5 (E2 (J3 (J3 (C9 (b7 rfl (b3 (E2 (qZ ?_)))))))); refine cx4 (β := Nat × List Int × List Nat × Nat × Nat) ⟨fun x => Bo hs.length (nextB (trOf cs hs)) h x.1 x.2.1 x.2.2.1 ∧ dAt x.2.1 h = 0, fun x => [(0, .pointer (b8 gl)), (5, .slice (b8 g5) hs.length hs.length), (6, .chan (some gC)), (7, int x.2.2.1.length)], fun x => [(gC, chanO hs.length (x.2.2.1.map fun y : Nat => int (y : Int)) x.2.2.2.1 x.2.2.2.2), (g5, Obj.cells (rows x.2.1).toArray T.int (0, 0))], fun _ => [Row (b8 gl) [.slice A cs.length ca, .slice B hs.length cb, .slice oa cs.length oc, .slice ka hs.length kc], Row ka (rows (kindsN hs hs.length)), RowsF B hs Hd.row]⟩ (fun x => 2 * x.2.1.countP (fun z => decide (z < 0)) + x.2.2.1.length) (0, (List.replicate hs.length (-1 : Int)).set h 0, [h], 1, 0) ⟨jq2 hh, by rw [rI (by rw [List.length_replicate]; exact hh), if_pos rfl]⟩ mC (List.Sublist.refl _) mC fun x hx => ?_; obtain ⟨k, ds, q, s, r⟩ := x; obtain ⟨hB, hd0⟩ := hx; simp only at hB hd0; refine J3 (J3 (C9 (a8 rfl (gK rfl rfl rfl (b3 (E2 ?_))))))
 first | refine ix0 rfl (fun hb1 => ?_) (fun hb1 => ?_) | refine tV rfl (fun hb1 => ?_) (fun hb1 => ?_)
 ·have hb1' := hb1; try simp at hb1'
  obtain ⟨x, q, rfl⟩ : ∃ x q', q = x :: q' := by
    cases q with
    | nil => simp at hb1
    | cons x q => exact ⟨x, q, rfl⟩
  obtain ⟨k, hR⟩ := bo_pop hB; clear hB; have hx := hR.hx; have hin := yY hok hx; have hnle := uV hok hx; have hnb := fun k => uW hok hx k; generalize hnl : nextL (hs.getD x default) = nl at hin hnle hnb; refine zE (E2 (J3 (qZ (J3 (zF ?_))))); show KL _ _ _ [0, 1, 2] _ _ _; refine qX rfl rfl rfl ?_; refine kl_recv (v := int x) (buf := q.map fun y : Nat => int (y : Int)) rfl rfl Tryz.underlying111 zv_int rfl j5 ?_; refine dz7 rfl rfl rfl (bx5 (E2 (J3 (C9 (a8 rfl (l9 rfl rfl ?_))))))
  first | refine a7 ⟨_, 3, none⟩ rfl rfl T.j9 rfl ?_ | refine a7 _ rfl rfl T.j9 rfl ?_
  first | refine a6 rfl T.b6 rfl (h9 mB rfl) ?_ | refine a6 rfl T.b6 rfl (d8 mB rfl) ?_ | refine a6 rfl T.b6 rfl (d3 mB (b4 (by omega) rfl)) ?_ | refine a6 rfl T.b6 rfl (d1 mB (rows_get (by omega) rfl)) ?_ | refine a6 rfl T.b6 rfl (d7 mB rfl) ?_
  refine a8 rfl ?_; refine r9 (α := Kd) (kindsN hs hs.length) x rfl T.r8 T.E1 rfl rfl rfl mB (t6 (Nat.le_refl _)).symm (by rw [t6 (Nat.le_refl _)]; exact hx) (by decide) ?_; refine a6 (v := (kindOf (hs.getD x default)).v) rfl T.C1 rfl (d3 mB (by rw [← U0 hx]; exact b4 (by rw [t6 (Nat.le_refl _)]; exact hx) rfl)) ?_; refine sB (p := hs.getD x default) mB (s6 hx) ?_; refine bq2 rfl rfl rfl m0 fun o => ?_; rw [hnl]; refine k4 rfl T.s5 rfl ?_; refine a8 rfl (b3 (E2 (qZ ?_))); refine cx4 (β := Nat × List Int × List Nat × Nat × Nat) ⟨fun y => y.1 ≤ nl.length ∧ Br hs.length (nextB (trOf cs hs)) h k x y.2.1 y.2.2.1 ∧ (∀ i, i < y.1 → 0 ≤ dAt y.2.1 (nl.getD i default).toNat) ∧ dAt y.2.1 h = 0 ∧ 2 * y.2.1.countP (fun z => decide (z < 0)) + y.2.2.1.length < 2 * ds.countP (fun z => decide (z < 0)) + (x :: q).length, fun y => [(0, .pointer (b8 gl)), (5, .slice (b8 g5) hs.length hs.length), (6, .chan (some gC)), (7, int (y.2.2.1.length + 1 : Nat)), (8, int x), (42, .slice o.1 nl.length o.2), (43, int nl.length), (44, int y.1)], fun y => [(gC, chanO hs.length (y.2.2.1.map fun y : Nat => int (y : Int)) y.2.2.2.1 y.2.2.2.2), (g5, Obj.cells (rows y.2.1).toArray T.int (0, 0))], fun _ => Row o.1 (rows nl) :: [Row (b8 gl) [.slice A cs.length ca, .slice B hs.length cb, .slice oa cs.length oc, .slice ka hs.length kc], Row ka (rows (kindsN hs hs.length)), RowsF B hs Hd.row]⟩ (fun y => nl.length - y.1) (0, ds, q, s, r + 1) ⟨Nat.zero_le _, hR, fun i hi => by omega, hd0, by show 2 * ds.countP (fun z => decide (z < 0)) + q.length < 2 * ds.countP (fun z => decide (z < 0)) + (x :: q).length; rw [List.length_cons]; omega⟩ mC (List.Sublist.refl _) mC fun y hy => ?_; generalize 2 * ds.countP (fun z => decide (z < 0)) + (x :: q).length = M at hy ⊢; clear hR hd0; obtain ⟨j, ds, q, s, r⟩ := y; obtain ⟨hj, hR, hdn, hd0, hM⟩ := hy; simp only at hj hR hdn hd0 hM; have hdl := hR.b.len; have hqn := qP hR.nd fun y hy => (hR.inq y hy).1; have hdx := hR.dx; have hkn := br_k hh hR; refine J3 (C9 (t7 rfl rfl rfl (b3 (E2 (J3 ?_)))))
  first | refine ix0 rfl (fun hb2 => ?_) (fun hb2 => ?_) | refine tV rfl (fun hb2 => ?_) (fun hb2 => ?_)
  ·have hb2' := hb2; try simp at hb2'
   have hj2 : j < nl.length := by omega
   have hij := hin _ (s6 hj2); obtain ⟨i, hi⟩ := Int.eq_ofNat_of_zero_le hij.1; have hil : i < hs.length := by omega
   refine zE (E2 (J3 (qZ (J3 (C9 ?_))))); refine r9 (α := Int) nl j rfl T.s5 T.v6 rfl rfl rfl mB rfl hj2 (by decide) ?_; refine a6 (v := int (i : Int)) rfl T.b2 rfl (d3 mB (b4 hj2 (by rw [← hi]; rfl))) ?_; refine b7 rfl (b3 (E2 (J3 (C9 (a8 rfl (a8 rfl ?_)))))); refine l6 i (0 + i * 1) rfl T.s5 T.v6 rfl rfl rfl hil rfl ?_; refine a6 (v := int (dAt ds i)) rfl T.b2 rfl (h9 mB (E9 rfl (arr_take ds) (by rw [hdl]; exact hil) (by omega) rfl)) ?_; refine t7 rfl rfl rfl (b3 (E2 ?_))
   first | refine ix0 rfl (fun hb3 => ?_) (fun hb3 => ?_) | refine tV rfl (fun hb3 => ?_) (fun hb3 => ?_)
   ·have hb3' := hb3; try simp at hb3'
    obtain ⟨hR2, hql⟩ := br_put hR hil (by rw [hnb i, decide_eq_true_eq, ← hi]; exact s6 hj2) hb3; have hc2 := cnt_set (v := dAt ds x + 1) (by rw [hdl]; exact hil) hb3 (by rw [hdx]; omega); refine J3 (C9 (a8 rfl (a8 rfl (a8 rfl (a8 rfl ?_))))); refine l6 x (0 + x * 1) rfl T.s5 T.v6 rfl rfl rfl hx rfl ?_; refine a6 (v := int (dAt ds x)) rfl T.b2 rfl (h9 mB (E9 rfl (arr_take ds) (by rw [hdl]; exact hx) (by omega) rfl)) ?_; refine q9 _ rfl rfl rfl rfl n5 (l6 i (0 + i * 1) rfl T.s5 T.v6 rfl rfl rfl hil rfl ?_); refine z9 rfl rfl (.swap _ _ _) T.v6 (E9 rfl (arr_take ds) (by rw [hdl]; exact hil) (by omega) rfl) (by rfl) ?_; rw [arr_set]; refine b3 (E2 (J3 (zF ?_))); show KL _ _ _ [0, 1, 2] _ _ _; refine qX rfl rfl rfl (qX rfl rfl rfl ?_); refine cx3 (buf := q.map fun y : Nat => int (y : Int)) rfl rfl rfl (.swap _ _ _) (by rw [List.length_map]; exact hql) ?_; refine bx5 (E2 (C9 (a8 rfl ?_))); refine q9 ((q.length : Int) + 2) rfl rfl rfl (by show ((q.length + 1 : Nat) : Int) + 1 = _; omega) n5 ?_; refine b7 rfl (b3 (n9 (E2 (C9 ?_)))); refine q9 _ rfl rfl rfl rfl n5 ?_; refine a8 rfl (b3 ?_); exact again _ (j + 1, ds.set i (dAt ds x + 1), q ++ [i], s + 1, r) ⟨by show j + 1 ≤ nl.length; omega, hR2, fun p hp => by show 0 ≤ dAt (ds.set i (dAt ds x + 1)) _; rw [rI (by rw [hdl]; exact hil)]; split; omega; exact hdn p (by rename_i hne; rcases Nat.lt_or_ge p j with h1 | h1; exact h1; exact absurd (by rw [show p = j by omega, hi]; rfl) hne), by show dAt (ds.set i (dAt ds x + 1)) h = 0; rw [rI (by rw [hdl]; exact hil), if_neg (fun e1 => by subst e1; omega)]; exact hd0, by show 2 * (ds.set i (dAt ds x + 1)).countP (fun z => decide (z < 0)) + (q ++ [i]).length < M; rw [List.length_append, List.length_singleton]; omega⟩ (r6 (by omega)) ⟨rfl, rfl, rfl, congrArg (fun z : Int => some (int z)) (by show (q.length : Int) + 2 = (((q ++ [i]).length + 1 : Nat) : Int); rw [List.length_append, List.length_singleton]; omega), rfl, rfl, rfl, rfl, trivial⟩ (by show List.Sublist [(gC, chanO hs.length ((q ++ [i]).map fun y : Nat => int (y : Int)) (s + 1) r), (g5, Obj.cells (rows (ds.set i (dAt ds x + 1))).toArray T.int (0, 0))] _; rw [List.map_append]; exact List.Sublist.refl _) mC
   have hb3' := hb3; try simp at hb3'
   skip
   refine zE (n9 (E2 (C9 ?_))); refine q9 _ rfl rfl rfl rfl n5 ?_; refine a8 rfl (b3 ?_); exact again _ (j + 1, ds, q, s, r) ⟨by show j + 1 ≤ nl.length; omega, hR, fun p hp => by rcases Nat.lt_or_ge p j with h1 | h1; exact hdn p h1; rw [show p = j by omega, hi]; exact Int.not_lt.1 hb3, hd0, hM⟩ (r6 (by omega)) mC (List.Sublist.refl _) mC
  have hb2' := hb2; try simp at hb2'
  obtain rfl : j = nl.length := by omega
  have hB := br_done hR fun t ht het => by
    rw [hnb t, decide_eq_true_eq] at het; obtain ⟨p, hp, he⟩ := List.getElem_of_mem het; have h1 := hdn p hp; rw [u9 hp, he, Int.toNat_natCast] at h1; exact h1
  refine cx5 (t4 (n1 (n9 (E2 (C9 (a8 rfl ?_)))))); refine J8 (q.length : Int) rfl rfl rfl (by show ((q.length + 1 : Nat) : Int) - 1 = _; omega) n5 ?_; refine b7 rfl (b3 ?_); exact again _ (k, ds, q, s, r) ⟨hB, hd0⟩ hM mC (List.Sublist.refl _) mC
 have hb1' := hb1; try simp at hb1'
 have hq0 : q = [] := by
   cases q with
   | nil => rfl
   | cons x q => exact absurd hb1 (by simp)
 subst hq0; have hE := bo_end hh hB hd0; refine cx5 (t4 (n1 (E2 (J3 (C9 (a8 rfl (b7 rfl (b3 (E2 (kc_ret ?_)))))))))); have hE2 : ds = (stepsT (trOf cs hs) (h : Int)) := by rw [hE]; unfold stepsT; rw [hln]; try rfl
 have hle : (stepsT (trOf cs hs) (h : Int)).length = hs.length := by rw [← hE2]; exact hB.b.len
 refine rC (.swap _ _ _) (U3 (rows ds) ⟨[], List.append_nil _⟩ ?_); exact ret1 (some ⟨g5, 0, none⟩, hs.length) rfl (by show some (Value.slice _ hs.length hs.length) = some (Value.slice _ (stepsT (trOf cs hs) (h : Int)).length hs.length); rw [hle]) rfl (by show (stepsT (trOf cs hs) (h : Int)).length ≤ hs.length; rw [hle]; exact Nat.le_refl _) nil_sb (by rw [← hE2]; exact ⟨m0, trivial⟩)
def stepsE (t : Tr) (h : Int) : List Int × Int := if ¬ askE t [h] = 0 then ([], askE t [h]) else (stepsT t h, 0)
def hiB (t : Tr) (h s : Int) (i : Nat) : Bool := isTrB t (i : Int) && !decide (0 ≤ (stepsT t h).getD i default ∧ (stepsT t h).getD i default ≤ s)
def hiK (t : Tr) (h s : Int) (k : Nat) : List Int := ((List.range k).filter (hiB t h s)).map fun i : Nat => (i : Int)
def hiddenT (t : Tr) (h s : Int) : List Int := hiK t h s t.hs.length
def hiddenE (t : Tr) (h s : Int) : List Int × Int := if ¬ askE t [h] = 0 then ([], askE t [h]) else if 0 ≤ s ∧ s ≤ 6 then (hiddenT t h s, 0) else ([], 1)
theorem ix7 (t : Tr) (h s : Int) (k : Nat) : hiK t h s (k + 1) = if hiB t h s k = true then hiK t h s k ++ [(k : Int)] else hiK t h s k := by
  unfold hiK; rw [List.range_succ, List.filter_append, List.map_append, List.filter_cons, List.filter_nil]
  by_cases e : hiB t h s k = true
  · rw [if_pos e, if_pos e]; rfl
  rw [if_neg e, if_neg e]; simp
theorem hiK_len (t : Tr) (h s : Int) (k : Nat) : (hiK t h s k).length ≤ k := by
  unfold hiK; rw [List.length_map]; exact Nat.le_trans (List.length_filter_le _ _) (by simp)
theorem dq3 (t : Tr) (h : Int) : (stepsT t h).length = t.hs.length := by unfold stepsT; rw [List.length_map, List.length_range]
theorem qA {A B : Option Addr} {ca cb : Nat} (cs : List Cl) (hs : List Hd) (h : Int) (hca : cs.length ≤ ca) (hcb : hs.length ≤ cb) (ha : ∀ h ∈ hs, h.2.2.2.l.length ≤ 1000000) : Meets Tryz.prog F.cD [.agg #[.slice A cs.length ca, .slice B hs.length cb], int h] { LI := [Row A (rows cs), RowsF B hs Hd.row], inv := fun x : OutC => (stepsE (trOf cs hs) h).1.length ≤ x.2, val := fun x => .tuple #[.slice x.1 (stepsE (trOf cs hs) h).1.length x.2, int (stepsE (trOf cs hs) h).2], LO := fun x => [Row x.1 (rows (stepsE (trOf cs hs) h).1)] } := by
 refine i7 F.wG rfl p7 fun w0 => ?_; refine i4 ?_; refine E5 rfl rfl fun gB => ?_; refine b7 rfl (b7 rfl (d9 ?_)); refine B8 ⟨fun _ : Nat × OutC × OutC => True, fun x => [(1, int h), (2, .pointer (b8 gB)), (6, if askE (trOf cs hs) [h] = 0 then .pointer (some ⟨x.1, 0, none⟩) else .pointer none), (7, int (askE (trOf cs hs) [h]))], fun _ => [(gB, .cells #[.slice A cs.length ca, .slice B hs.length cb] T.i2 (0, 0))], fun x => (if askE (trOf cs hs) [h] = 0 then beginL cs hs A ca B cb x else []) ++ [Row A (rows cs), RowsF B hs Hd.row]⟩ ?_ ?_
 ·skip
  refine b9 ?_
  first | refine u6 rfl T.d6 T.d4 rfl mB (by rfl) ?_ | refine t9 rfl T.d6 T.d4 rfl mB (by rfl) ?_ | refine q6 rfl T.d6 T.d4 rfl rfl (m7 mB (n7 (by omega))) ?_
  refine a8 rfl ?_; refine j4 _ rfl rfl (fun _ => T.v0 ..) fun gS => ?_; refine n0 (rows [h]) (List.prefix_refl _) ?_; refine d5 F.K0 rfl rfl (E7 cs hs [h] hca hcb ha (by simp)) j5 mC fun x _ => ?_; refine a8 rfl (i6 rfl rfl rfl (i6 rfl rfl rfl (b7 rfl (b7 rfl (b3 ?_))))); exact w4 _ x trivial mC (List.Sublist.refl _) (LSub.of_mem fun F hF => (List.mem_append.1 hF).elim (fun h1 => List.mem_append_left _ h1) (fun h2 => List.mem_append_right _ (List.mem_cons_of_mem _ h2)))
 refine fun x _ => ?_
 dsimp only
 refine i1 (i4 (a8 rfl (t3 rfl rfl rfl (d9 ?_))))
 first | refine k8 rfl (fun hb1 => ?_) (fun hb1 => ?_) | refine i5 rfl (fun hb1 => ?_) (fun hb1 => ?_)
 ·have hb1' := hb1; try simp at hb1'
  have hE : stepsE (trOf cs hs) h = ([], askE (trOf cs hs) [h]) := by rw [stepsE, if_pos hb1]
  refine i4 (a8 rfl (b7 rfl (b7 rfl (d9 (P8 ?_))))); refine A4 (α := Int) ?_; exact ret2 (none, 0) rfl rfl rfl (by show Value.tuple #[.slice none (stepsE (trOf cs hs) h).1.length 0, int (stepsE (trOf cs hs) h).2] = _; rw [hE]; rfl) rfl (by show (stepsE (trOf cs hs) h).1.length ≤ 0; rw [hE]; exact Nat.le_refl _) nil_sb (by show LSub _ [Row none (rows (stepsE (trOf cs hs) h).1)]; rw [hE]; exact ⟨m0, trivial⟩)
 have hb1' := hb1; try simp at hb1'
 have h0 := Classical.not_not.1 hb1; rw [if_pos h0, if_pos h0]; have hch := Q6 h0; have hin := pK h0 (List.mem_singleton.2 rfl); rw [t0] at hin; obtain ⟨i, hi⟩ := Int.eq_ofNat_of_zero_le hin.1; have hok := Y3 hch; have h6 : cs.length ≤ 6 := hok.c6; have h6h := hok.h6; rw [t0] at h6h; have hcl : ∀ i, i < cs.length → ClsOK cs i := hok.c; obtain ⟨gl, ⟨oa, oc⟩, ⟨ka, kc⟩⟩ := x; have hln := t0 cs hs; show HC _ _ _ _ _ [Row (b8 gl) [.slice A cs.length ca, .slice B hs.length cb, .slice oa cs.length oc, .slice ka hs.length kc], Row oa (rows (masksN cs cs.length)), Row ka (rows (kindsN hs hs.length)), Row A (rows cs), RowsF B hs Hd.row]; refine j3 (g6 (i4 (a8 rfl (a8 rfl ?_)))); have hE : stepsE (trOf cs hs) h = (stepsT (trOf cs hs) h, 0) := by rw [stepsE, if_neg hb1]
 subst hi; refine d5 F.aH rfl rfl (R5 (A := A) (B := B) (oa := oa) (ka := ka) (ca := ca) (cb := cb) (oc := oc) (kc := kc) (gl := gl) cs hs i hok (by omega)) j5 mC fun y hy => ?_; refine b7 rfl (b7 rfl (d9 (k5 ?_))); exact ret2 y rfl rfl rfl (by show Value.tuple #[.slice y.1 (stepsE (trOf cs hs) (i : Int)).1.length y.2, int (stepsE (trOf cs hs) (i : Int)).2] = _; rw [hE]) rfl (by show (stepsE (trOf cs hs) (i : Int)).1.length ≤ y.2; rw [hE]; exact hy) nil_sb (by show LSub _ [Row y.1 (rows (stepsE (trOf cs hs) (i : Int)).1)]; rw [hE]; exact ⟨m0, trivial⟩)
set_option maxHeartbeats 1000000 in
theorem bG {A B : Option Addr} {ca cb : Nat} (cs : List Cl) (hs : List Hd) (h s : Int) (hca : cs.length ≤ ca) (hcb : hs.length ≤ cb) (ha : ∀ h ∈ hs, h.2.2.2.l.length ≤ 1000000) : Meets Tryz.prog F.S3 [.agg #[.slice A cs.length ca, .slice B hs.length cb], int h, int s] { LI := [Row A (rows cs), RowsF B hs Hd.row], inv := fun x : OutC => (hiddenE (trOf cs hs) h s).1.length ≤ x.2, val := fun x => .tuple #[.slice x.1 (hiddenE (trOf cs hs) h s).1.length x.2, int (hiddenE (trOf cs hs) h s).2], LO := fun x => [Row x.1 (rows (hiddenE (trOf cs hs) h s).1)] } := by
 refine i7 F.uL rfl p7 fun w0 => ?_; refine i4 ?_; refine E5 rfl rfl fun gB => ?_; refine b7 rfl (b7 rfl (d9 ?_)); refine B8 ⟨fun _ : Nat × OutC × OutC => True, fun x => [(1, int h), (2, int s), (3, .pointer (b8 gB)), (8, if askE (trOf cs hs) [h] = 0 then .pointer (some ⟨x.1, 0, none⟩) else .pointer none), (9, int (askE (trOf cs hs) [h]))], fun _ => [(gB, .cells #[.slice A cs.length ca, .slice B hs.length cb] T.i2 (0, 0))], fun x => (if askE (trOf cs hs) [h] = 0 then beginL cs hs A ca B cb x else []) ++ [Row A (rows cs), RowsF B hs Hd.row]⟩ ?_ ?_
 ·skip
  refine b9 ?_
  first | refine u6 rfl T.d6 T.d4 rfl mB (by rfl) ?_ | refine t9 rfl T.d6 T.d4 rfl mB (by rfl) ?_ | refine q6 rfl T.d6 T.d4 rfl rfl (m7 mB (n7 (by omega))) ?_
  refine a8 rfl ?_; refine j4 _ rfl rfl (fun _ => T.v0 ..) fun gS => ?_; refine n0 (rows [h]) (List.prefix_refl _) ?_; refine d5 F.K0 rfl rfl (E7 cs hs [h] hca hcb ha (by simp)) j5 mC fun x _ => ?_; refine a8 rfl (i6 rfl rfl rfl (i6 rfl rfl rfl (b7 rfl (b7 rfl (b3 ?_))))); exact w4 _ x trivial mC (List.Sublist.refl _) (LSub.of_mem fun F hF => (List.mem_append.1 hF).elim (fun h1 => List.mem_append_left _ h1) (fun h2 => List.mem_append_right _ (List.mem_cons_of_mem _ h2)))
 refine fun x _ => ?_
 dsimp only
 refine i1 (i9 (i4 (a8 rfl (t3 rfl rfl rfl (b7 rfl (d9 ?_))))))
 first | refine k8 rfl (fun hb1 => ?_) (fun hb1 => ?_) | refine i5 rfl (fun hb1 => ?_) (fun hb1 => ?_)
 ·have hb1' := hb1; try simp at hb1'
  have hE : hiddenE (trOf cs hs) h s = ([], askE (trOf cs hs) [h]) := by rw [hiddenE, if_pos hb1]
  refine i4 (a8 rfl (b7 rfl (b7 rfl (d9 (k5 (B7 ?_)))))); refine A4 (α := Int) ?_; exact ret2 (none, 0) rfl rfl rfl (by show Value.tuple #[.slice none (hiddenE (trOf cs hs) h s).1.length 0, int (hiddenE (trOf cs hs) h s).2] = _; rw [hE]; rfl) rfl (by show (hiddenE (trOf cs hs) h s).1.length ≤ 0; rw [hE]; exact Nat.le_refl _) nil_sb (by show LSub _ [Row none (rows (hiddenE (trOf cs hs) h s).1)]; rw [hE]; exact ⟨m0, trivial⟩)
 have hb1' := hb1; try simp at hb1'
 have h0 := Classical.not_not.1 hb1; rw [if_pos h0, if_pos h0]; have hch := Q6 h0; have hin := pK h0 (List.mem_singleton.2 rfl); rw [t0] at hin; obtain ⟨i, hi⟩ := Int.eq_ofNat_of_zero_le hin.1; have hok := Y3 hch; have h6 : cs.length ≤ 6 := hok.c6; have h6h := hok.h6; rw [t0] at h6h; have hcl : ∀ i, i < cs.length → ClsOK cs i := hok.c; obtain ⟨gl, ⟨oa, oc⟩, ⟨ka, kc⟩⟩ := x; have hln := t0 cs hs; show HC _ _ _ _ _ [Row (b8 gl) [.slice A cs.length ca, .slice B hs.length cb, .slice oa cs.length oc, .slice ka hs.length kc], Row oa (rows (masksN cs cs.length)), Row ka (rows (kindsN hs hs.length)), Row A (rows cs), RowsF B hs Hd.row]; refine i4 (a8 rfl ?_); refine d5 F.v4 rfl rfl (s7 _ _ _) j5 trivial fun _ _ => ?_; refine B3 rfl rfl (b7 rfl (d9 ?_))
 first | refine k8 rfl (fun hb2 => ?_) (fun hb2 => ?_) | refine i5 rfl (fun hb2 => ?_) (fun hb2 => ?_)
 ·have hb2' := hb2; try simp at hb2'
  have hE : hiddenE (trOf cs hs) h s = ([], 1) := by rw [hiddenE, if_neg hb1, if_neg (nbw hb2)]
  refine i4 (b7 rfl (b7 rfl (d9 (k5 (B7 ?_))))); refine A4 (α := Int) ?_; exact ret2 (none, 0) rfl rfl rfl (by show Value.tuple #[.slice none (hiddenE (trOf cs hs) h s).1.length 0, int (hiddenE (trOf cs hs) h s).2] = _; rw [hE]; rfl) rfl (by show (hiddenE (trOf cs hs) h s).1.length ≤ 0; rw [hE]; exact Nat.le_refl _) nil_sb (by show LSub _ [Row none (rows (hiddenE (trOf cs hs) h s).1)]; rw [hE]; exact ⟨m0, trivial⟩)
 have hb2' := hb2; try simp at hb2'
 have hrc : 0 ≤ s ∧ s ≤ 6 := bw hb2; have hE : hiddenE (trOf cs hs) h s = (hiddenT (trOf cs hs) h s, 0) := by rw [hiddenE, if_neg hb1, if_pos hrc]
 subst hi; refine j3 (n9 (g6 (i4 (b7 rfl (d9 (i1 (i4 (a8 rfl ?_)))))))); refine a8 rfl ?_; refine d5 F.aH rfl rfl (R5 (A := A) (B := B) (oa := oa) (ka := ka) (ca := ca) (cb := cb) (oc := oc) (kc := kc) (gl := gl) cs hs i hok (by omega)) j5 mC fun y hy => ?_; refine k4 rfl T.s5 rfl ?_; refine a8 rfl (d9 (i9 ?_)); have hsl := dq3 (trOf cs hs) (i : Int); rw [hln] at hsl; refine p6 (β := Nat × OutC × Hp) ⟨fun x => x.1 ≤ hs.length ∧ Grow T.int 1 x.2.1.1 (hiK (trOf cs hs) (i : Int) s x.1).length x.2.1.2 (rows (hiK (trOf cs hs) (i : Int) s x.1)) x.2.2, fun x => [(2, int s), (8, .pointer (b8 gl)), (10, .slice x.2.1.1 (hiK (trOf cs hs) (i : Int) s x.1).length x.2.1.2), (30, .slice y.1 (stepsT (trOf cs hs) (i : Int)).length y.2), (31, int (stepsT (trOf cs hs) (i : Int)).length), (32, int x.1)], fun x => x.2.2, fun _ => [Row (b8 gl) [.slice A cs.length ca, .slice B hs.length cb, .slice oa cs.length oc, .slice ka hs.length kc], Row ka (rows (kindsN hs hs.length)), Row y.1 (rows (stepsT (trOf cs hs) (i : Int)))]⟩ (fun x => hs.length - x.1) (0, (none, 0), []) ⟨Nat.zero_le _, Grow.nil _ _⟩ mC nil_sb mC fun x hx => ?_; obtain ⟨k, ⟨na, nc⟩, og⟩ := x; obtain ⟨hk, hG⟩ := hx; simp only at hk hG; refine i4 (t7 rfl rfl rfl (d9 (i1 ?_)))
 first | refine k8 rfl (fun hb3 => ?_) (fun hb3 => ?_) | refine i5 rfl (fun hb3 => ?_) (fun hb3 => ?_)
 ·have hb3' := hb3; try simp at hb3'
  have hk2 : k < hs.length := by omega
  have hkl : k < (stepsT (trOf cs hs) (i : Int)).length := by omega
  have hul := hiK_len (trOf cs hs) (i : Int) s k; have huc := ix7 (trOf cs hs) (i : Int) s k; refine j3 (g6 (i1 (i9 (i4 (a8 rfl ?_))))); refine r9 (α := Int) (stepsT (trOf cs hs) (i : Int)) k rfl T.s5 T.v6 rfl rfl rfl mB rfl hkl (by decide) (a6 (v := int ((stepsT (trOf cs hs) (i : Int)).getD k default)) rfl T.b2 rfl (d3 mB (b4 hkl rfl)) ?_); refine b7 rfl (b7 rfl (d9 ?_)); refine B8 ⟨fun _ : Unit => True, fun _ => [(2, int s), (8, .pointer (b8 gl)), (10, .slice (na, nc).1 (hiK (trOf cs hs) (i : Int) s k).length (na, nc).2), (30, .slice y.1 (stepsT (trOf cs hs) (i : Int)).length y.2), (31, int (stepsT (trOf cs hs) (i : Int)).length), (32, int k), (11, int k), (45, .bool (hiB (trOf cs hs) (i : Int) s k))], fun _ => og, fun _ => [Row (b8 gl) [.slice A cs.length ca, .slice B hs.length cb, .slice oa cs.length oc, .slice ka hs.length kc], Row ka (rows (kindsN hs hs.length)), Row y.1 (rows (stepsT (trOf cs hs) (i : Int)))]⟩ ?_ ?_
  ·skip
   refine b9 (a8 rfl (a8 rfl ?_)); refine d5 F.H1 rfl rfl (E0 (A := A) (B := B) (oa := oa) (ka := ka) (ca := ca) (cb := cb) (oc := oc) (kc := kc) (gl := gl) cs hs (k : Int) (by omega) (by omega) (by omega)) (hpR := og) j5 mC fun _ _ => ?_; refine a8 rfl ?_; refine m6 rfl rfl ?_ ?_
   ·intro hg1; have hg1' := hg1; try simp at hg1'
    have hA : isTrB (trOf cs hs) (k : Int) = true := by simpa using hg1
    refine i3 rfl rfl hg1 (a8 rfl (i3 rfl rfl hg1 (a8 rfl (i3 rfl rfl hg1 ?_)))); refine d5 F.v4 rfl rfl (s7 _ _ _) j5 trivial fun _ _ => ?_; refine i3 rfl rfl hg1 (B3 rfl rfl ?_); refine p_t rfl rfl (bt1 hg1) rfl ?_; refine b3 ?_; exact w4 _ () trivial ⟨rfl, rfl, rfl, rfl, rfl, rfl, rfl, congrArg (fun b => some (Value.bool b)) (by unfold hiB; rw [hA, Bool.true_and]), trivial⟩ (List.Sublist.refl _) mC
   intro hg1; have hg1' := hg1; try simp at hg1'
   have hA : isTrB (trOf cs hs) (k : Int) = false := by simpa using hg1
   refine q7 rfl rfl rfl rfl rfl hg1 (q7 rfl rfl rfl rfl rfl hg1 (q7 rfl rfl rfl rfl rfl hg1 (q7 rfl rfl rfl rfl rfl hg1 ?_))); refine p_f rfl rfl (bf2 hg1) rfl ?_; refine b3 ?_; exact w4 _ () trivial ⟨rfl, rfl, rfl, rfl, rfl, rfl, rfl, congrArg (fun b => some (Value.bool b)) (by unfold hiB; rw [hA, Bool.false_and]), trivial⟩ (List.Sublist.refl _) mC
  refine fun _ _ => ?_
  first | refine k8 rfl (fun hb4 => ?_) (fun hb4 => ?_) | refine i5 rfl (fun hb4 => ?_) (fun hb4 => ?_)
  ·have hb4' := hb4; try simp at hb4'
   rw [if_pos hb4] at huc; refine b9 (a8 rfl (a8 rfl ?_)); refine j4 _ rfl rfl (fun _ => T.v0 ..) fun gS => ?_; refine n0 (rows [(k : Int)]) (List.prefix_refl _) ?_; refine B6 ((hiK (trOf cs hs) (i : Int) s k).length + 1) (rows ((hiK (trOf cs hs) (i : Int) s k) ++ [(k : Int)])) T.iO rfl rfl rfl hG (hp' := []) (by first | (rw [List.append_nil]; done) | (rw [List.append_nil]; exact List.Perm.refl _)) (Src.row (news := rows [(k : Int)]) (m := 1) m0 rfl (A9 _) (by decide)) rfl (s9 _ _).symm (by unfold maxLen; omega) (by omega) fun A' c' og' hG' => ?_; refine b7 rfl (b3 (n9 (g6 (b9 ?_)))); refine q9 _ rfl rfl rfl rfl n5 ?_; refine a8 rfl (b3 ?_); exact again _ (k + 1, (A', c'), og') ⟨by show k + 1 ≤ hs.length; omega, by show Grow _ _ _ (hiK (trOf cs hs) (i : Int) s (k + 1)).length _ (rows (hiK (trOf cs hs) (i : Int) s (k + 1))) _; rw [huc, List.length_append]; exact hG'⟩ (r6 (by omega)) ⟨rfl, rfl, by show some (Value.slice A' ((hiK (trOf cs hs) (i : Int) s k).length + 1) c') = some (Value.slice A' (hiK (trOf cs hs) (i : Int) s (k + 1)).length c'); rw [huc, List.length_append]; rfl, rfl, rfl, rfl, trivial⟩ (List.sublist_append_left _ _) mC
  have hb4' := hb4; try simp at hb4'
  rw [if_neg (by rw [hb4]; decide)] at huc; refine j3 (n9 (g6 (b9 ?_))); refine q9 _ rfl rfl rfl rfl n5 ?_; refine a8 rfl (b3 ?_); exact again _ (k + 1, (na, nc), og) ⟨by show k + 1 ≤ hs.length; omega, by show Grow _ _ _ (hiK (trOf cs hs) (i : Int) s (k + 1)).length _ (rows (hiK (trOf cs hs) (i : Int) s (k + 1))) _; rw [huc]; exact hG⟩ (r6 (by omega)) ⟨rfl, rfl, by show some (Value.slice na (hiK (trOf cs hs) (i : Int) s k).length nc) = some (Value.slice na (hiK (trOf cs hs) (i : Int) s (k + 1)).length nc); rw [huc], rfl, rfl, rfl, trivial⟩ (List.Sublist.refl _) mC
 have hb3' := hb3; try simp at hb3'
 obtain rfl : k = hs.length := by omega
 have hG2 := hG; rw [show (hiK (trOf cs hs) (i : Int) s hs.length) = hiddenT (trOf cs hs) (i : Int) s from by unfold hiddenT; rw [hln]] at hG2; refine n2 (t4 (n1 (g6 (i4 (a8 rfl (b7 rfl (b7 rfl (d9 ?_)))))))); refine k5 (Q4 hG2 ?_); exact ret2 (na, nc) rfl rfl rfl (by show Value.tuple #[.slice na (hiddenE (trOf cs hs) (i : Int) s).1.length nc, int (hiddenE (trOf cs hs) (i : Int) s).2] = Value.tuple #[.slice na (hiK (trOf cs hs) (i : Int) s hs.length).length nc, int 0]; rw [hE, show (hiK (trOf cs hs) (i : Int) s hs.length) = hiddenT (trOf cs hs) (i : Int) s from by unfold hiddenT; rw [hln]]) rfl (by show (hiddenE (trOf cs hs) (i : Int) s).1.length ≤ nc; rw [hE]; exact hG2.le) nil_sb (by show LSub _ [Row na (rows (hiddenE (trOf cs hs) (i : Int) s).1)]; rw [hE]; exact ⟨m0, trivial⟩)
end Go.Proofs.YtfhninnleacgiaaGreat
end
