/- Texts. -/

import Derived.Test.YtpfbbggmcbhboaaBAh
import Derived.Test.YtpfbbggmcbhboaaBAf
set_option linter.unusedVariables false
set_option linter.unusedSimpArgs false
section
namespace Go.Proofs.Ytpfbbggmcbhboaa
open Go Go.W Go.Conc
set_option maxRecDepth 20000
attribute [local irreducible] HL HC HQ HB Row Rows2 Blk Facts
set_option maxRecDepth 20000
abbrev ptrB (g : Nat) : Value := .pointer (some ⟨g, 0, none⟩)
theorem edges2 : ∀ i, i < 22 → ∀ j ∈ edgesOf ops2 i, j < i := fun i hi j hj => by
  have h : ((List.range 22).all fun i => (edgesOf ops2 i).all fun j => Nat.blt j i) = true := by kernel_rfl
  have h1 := List.all_eq_true.1 (List.all_eq_true.1 h i (List.mem_range.2 hi)) j hj
  simpa using h1
theorem edges3 : ∀ i, i < 10 → ∀ j ∈ edgesOf ops3 i, j < i := fun i hi j hj => by
  have h : ((List.range 10).all fun i => (edgesOf ops3 i).all fun j => Nat.blt j i) = true := by kernel_rfl
  have h1 := List.all_eq_true.1 (List.all_eq_true.1 h i (List.mem_range.2 hi)) j hj
  simpa using h1
theorem has_keys {hp : Hq} {k : Nat} : Has hp k ↔ k ∈ hp.map (·.1) := ⟨fun ⟨q, hq, e⟩ => List.mem_map.2 ⟨q, hq, e⟩, fun h => by obtain ⟨q, hq, e⟩ := List.mem_map.1 h; exact ⟨q, hq, e⟩⟩
theorem Inn.sub {W : World} {o : List Nat} {hp hp' : Hq} (h : Inn W o hp) (hs : ∀ q ∈ hp', Has hp q.1 ∨ W.heap.size ≤ q.1) : Inn W o hp' := fun q hq => by
  rcases hs q hq with ⟨q', hq', e⟩ | h1
  · rw [← e]; exact h q' hq'
  · exact .inr h1
section
variable {W : World} {o : List Nat} {v : Nat → Nat → Value} {nn : Nat → Nat} {z : Value} {BW : Nat} {Goal : Goroutine → World → Prop} {ms : Ms} {ro : Hq}
variable {d r mr qr ci cl : Nat} {dc : Array Value} {li ll : List (Ment Int)} {og rest hp : Hq} {xs : List Mk} {m : Mk}
abbrev dsk (d mr qr : Nat) (dc : Array Value) (li : List (Ment Int)) (ci : Nat) (ll : List (Ment Int)) (cl : Nat) (og rest : Hq) : Hq := (d, Obj.cells dc T.proof_desk (0, 0)) :: (mr, mapO int li ci) :: (qr, mapO int ll cl) :: (og ++ rest)
theorem take_T (hr : r < 2) (hdc1 : dc[0 + r]? = some (.map (some mr))) (hdc2 : dc[2 + r]? = some (.map (some qr))) (hin : InM li og (insE xs)) (hla : LaM ll xs) (hlen : xs.length ≤ 1000000)
    (hpp : hp.Perm (dsk d mr qr dc li ci ll cl og rest)) (nd : (hp.map (·.1)).Nodup) (inn : Inn W o hp) {n : Nat} {cf : Frame} {cs : List Frame}
    (cont : ∀ li' ci' ll' cl' og', InM li' og' (insE (xs ++ [m])) → LaM ll' (xs ++ [m]) → ((dsk d mr qr dc li' ci' ll' cl' og' rest).map (·.1)).Nodup → Inn W o (dsk d mr qr dc li' ci' ll' cl' og' rest) →
      (XM W o v nn z BW Goal ms ro).T n (cf.finish (.tuple #[])) cs (dsk d mr qr dc li' ci' ll' cl' og' rest)) :
    (XM W o v nn z BW Goal ms ro).T (n + 60) (Frame.enter Try.prog 51 [ptrB d, int (r : Int), mkV m].toArray .normal) (cf :: cs) hp := by
  refine t_enter (X := XM W o v nn z BW Goal ms ro) F.proof_desk_take_f rfl ⟨W, [], fun _ => False⟩ (Nat.le_of_ble_eq_true rfl) ?_; have hk2 : (base 51).kind ≠ .early := fun h => by cases h
  refine tc_more (m := n + 2 + 1 + 22 + 1 + 1 + 1 + 1 + 20) (by omega) ?_; refine tc_seq (tc_region ?_); refine tr_box rfl rfl hk2 rfl fun g hg hng => ?_; refine tc_nil (tc_seq (tc_seq (tc_region ?_))); refine tr_fieldAddr ⟨g, 0, none⟩ rfl rfl hk2 rfl T.fa_api_Mark_0 (fun _ _ _ => by kernel_rfl) rfl ?_; refine tr_load (v := int m.1) rfl rfl hk2 T.cell_int rfl (atc_own (vs := #[int m.1, int m.2.1, str m.2.2]) (List.mem_cons_self ..) rfl) ?_; refine tr_eqInt rfl rfl hk2 rfl rfl (tc_nil ?_); obtain ⟨A, cap, ogk, hpk, hG, hpo, hlk, hput⟩ := hin.at_ m.2.1
  have hwl : ((getE (insE xs) m.2.1).getD []).length ≤ 1000000 := by
    rw [getE_insE]; unfold insAt; rw [List.length_map]; exact Nat.le_trans (List.length_filter_le _ _) hlen
  have hdm : ∀ q ∈ dsk d mr qr dc li ci ll cl og rest, q ∈ hp := fun q hq => hpp.mem_iff.2 hq; have ndH : (((g, Obj.cells #[int m.1, int m.2.1, str m.2.2] T.api_Mark (0, 0)) :: hp).map (·.1)).Nodup := nodup_new nd hng
  by_cases h1 : m.1 = 1
  · refine tc_cond true (by show some (Value.bool (m.1 == 1)) = _; rw [h1]; rfl) ?_
    refine tc_more (m := n + 2 + 1 + 22 + 1 + 1) (by omega) ?_; refine tc_seq ?_
    let Fin : Hq → Prop := fun hp1 => ∃ li' ci' og', InM li' og' (insE (xs ++ [m])) ∧ ((dsk d mr qr dc li' ci' ll cl og' rest).map (·.1)).Nodup ∧ Inn W o (dsk d mr qr dc li' ci' ll cl og' rest) ∧ ∀ q ∈ dsk d mr qr dc li' ci' ll cl og' rest, q ∈ hp1
    let H : Hq := (g, Obj.cells #[int m.1, int m.2.1, str m.2.2] T.api_Mark (0, 0)) :: hp
    let H' : Hq := (g, Obj.cells #[int m.1, int m.2.1, str m.2.2] T.api_Mark (0, 0)) :: (d, Obj.cells dc T.proof_desk (0, 0)) :: (mr, mapO int li ci) :: (qr, mapO int ll cl) :: (hpk ++ rest)
    have hH : H.Perm (ogk ++ H') := by
      refine (List.Perm.cons _ (hpp.trans (List.Perm.cons _ (List.Perm.cons _ (List.Perm.cons _ (List.Perm.append_right rest hpo)))))).trans ?_; exact perm_of fun p => by simp only [H', List.countP_append, List.countP_cons]; omega
    refine tc_regionAll (m := 22) mixed (by kernel_rfl) (fun ld fr hp1 => Tab (tab2 d r g mr m A cap ((getE (insE xs) m.2.1).getD [])) ld fr ∧ Mst W H H' m.2.2 ((getE (insE xs) m.2.1).getD []) Fin (ld 19) (ld 20) (ld 21) fr hp1)
      (step2 (dc := dc) (li := li) (ci := ci) hk2 hr hdc1 hG hH ndH (by simp [H']) (by simp [H']) (by simp [H']) hlk hwl ?_) edges2 ⟨?_, ?_⟩ ?_
    · rintro gs A' cap' og' hp1 hG' rfl hnd hfr
      obtain ⟨hp3, h5, h6⟩ := hput A' cap' og' _ ci hG'
      let hp2 : Hq := og' ++ ((gs, .cells #[str m.2.2] T.string (0, 0)) :: (g, Obj.cells #[int m.1, int m.2.1, str m.2.2] T.api_Mark (0, 0)) :: (d, Obj.cells dc T.proof_desk (0, 0)) :: (qr, mapO int ll cl) :: (hpk ++ rest))
      have hp12 : (og' ++ ((gs, Obj.cells #[str m.2.2] T.string (0, 0)) :: H')).Perm ((mr, mapO int li ci) :: hp2) := perm_of fun p => by simp only [H', hp2, List.countP_append, List.countP_cons]; omega
      have hnd2 : (((mr, mapO int li ci) :: hp2).map (·.1)).Nodup := (hp12.map _).nodup_iff.1 hnd
      have hnm : ¬ Has hp2 mr := fun h => by
        rw [List.map_cons, List.nodup_cons] at hnd2; exact hnd2.1 (has_keys.1 h)
      refine ⟨hp2, hp12, hnm, putM li m.2.1 (.slice A' ((getE (insE xs) m.2.1).getD [] ++ [m.2.2]).length cap') ci, clkM li m.2.1 ci, hp3, ?_, ?_, ?_, ?_⟩
      · rw [insE_snoc, stepE, if_pos h1]; exact h6
      · have h7 : ((mr, mapO int li ci) :: hp2).Perm ((gs, .cells #[str m.2.2] T.string (0, 0)) :: (g, Obj.cells #[int m.1, int m.2.1, str m.2.2] T.api_Mark (0, 0)) :: dsk d mr qr dc li ci ll cl hp3 rest) := by
          refine List.Perm.trans ?_ (List.Perm.cons _ (List.Perm.cons _ (List.Perm.cons _ (List.Perm.cons _ (List.Perm.cons _ (List.Perm.append_right rest h5.symm)))))); exact perm_of fun p => by simp only [hp2, List.countP_append, List.countP_cons]; omega
        have h8 := (h7.map (·.1)).nodup_iff.1 hnd2; simp only [List.map_cons, List.nodup_cons] at h8 ⊢; exact h8.2.2
      · refine inn.sub fun q hq => ?_
        have old : ∀ x ∈ dsk d mr qr dc li ci ll cl og rest, Has hp x.1 ∨ W.heap.size ≤ x.1 := fun x hx => .inl ⟨x, hdm x hx, rfl⟩; simp only [dsk, List.mem_cons, List.mem_append] at hq
        rcases hq with rfl | rfl | rfl | hq | hq
        · exact old _ (by simp)
        · exact old (mr, mapO int li ci) (by simp)
        · exact old _ (by simp)
        · rcases List.mem_append.1 (h5.mem_iff.1 hq) with hq | hq
          · rcases hfr q hq with ⟨q', hq', e⟩ | h9
            · rcases List.mem_cons.1 hq' with rfl | hq'
              · exact .inr (e ▸ hg)
              · exact .inl ⟨q', hq', e⟩
            · exact .inr h9
          · exact old q (by simp [hpo.mem_iff.2 (List.mem_append.2 (.inr hq))])
        · exact old q (by simp [hq])
      · intro q hq
        simp only [dsk, List.mem_cons, List.mem_append] at hq
        rcases hq with rfl | rfl | rfl | hq | hq
        · simp [hp2]
        · simp
        · simp [hp2]
        · rcases List.mem_append.1 (h5.mem_iff.1 hq) with hq | hq <;> simp [hp2, hq]
        · simp [hp2, hq]
    · intro e he hl
      simp only [tab2, List.mem_cons, List.not_mem_nil, or_false] at he
      rcases he with rfl | rfl | rfl | he
      · rfl
      · rfl
      · rfl
      · exfalso
        rcases he with rfl | rfl | rfl | rfl | rfl | rfl | rfl | rfl | rfl | rfl | rfl | rfl | rfl | rfl | rfl | rfl | rfl | rfl | rfl <;> cases hl
    · show H = H; rfl
    · rintro ld fr hp1 hall ⟨_, hm⟩
      rw [hall 21 (by omega)] at hm; obtain ⟨li', ci', og', h2, h3, h4, h5⟩ := (show Fin hp1 from hm); refine tc_nil ?_; refine tc_ret0 rfl F.proof_desk_take_f rfl h5 (cont li' ci' ll cl og' h2 (hla.same h1) h3 h4)
  · refine tc_cond false (by show some (Value.bool (m.1 == 1)) = _; rw [beq_eq_false_iff_ne.2 h1]) ?_
    refine tc_more (m := n + 2 + 1 + 10 + 1 + 1) (by omega) ?_; refine tc_skip ?_
    let Fin : Hq → Prop := fun hp1 => ∃ ll' cl', LaM ll' (xs ++ [m]) ∧ ((dsk d mr qr dc li ci ll' cl' og rest).map (·.1)).Nodup ∧ Inn W o (dsk d mr qr dc li ci ll' cl' og rest) ∧ ∀ q ∈ dsk d mr qr dc li ci ll' cl' og rest, q ∈ hp1
    let H : Hq := (g, Obj.cells #[int m.1, int m.2.1, str m.2.2] T.api_Mark (0, 0)) :: hp
    have nd2 := (hpp.map (·.1)).nodup_iff.1 nd
    refine tc_regionAll (m := 10) mixed (by kernel_rfl) (fun ld fr hp1 => Tab (tab3 d r g qr m) ld fr ∧ Mst3 H Fin (ld 9) hp1)
      (step3 (dc := dc) (ll := ll) (cl := cl) hk2 hr hdc2 (List.mem_cons_of_mem _ (hdm _ (by simp))) (List.mem_cons_self ..) ?_) edges3 ⟨?_, ?_⟩ ?_
    · refine ⟨(g, Obj.cells #[int m.1, int m.2.1, str m.2.2] T.api_Mark (0, 0)) :: (d, Obj.cells dc T.proof_desk (0, 0)) :: (mr, mapO int li ci) :: (og ++ rest), ?_, ?_, putM ll m.2.1 (mkV m) cl, clkM ll m.2.1 cl, hla.put h1 cl, ?_, ?_, ?_⟩
      · refine (List.Perm.cons _ hpp).trans ?_
        exact perm_of fun p => by simp only [List.countP_append, List.countP_cons]; omega
      · rintro ⟨q, hq, e⟩
        simp only [List.mem_cons] at hq
        rcases hq with rfl | rfl | rfl | hq
        · exact hng ⟨_, hdm (qr, mapO int ll cl) (by simp), e.symm⟩
        · simp only [dsk, List.map_cons, List.nodup_cons, List.mem_cons, not_or] at nd2; exact nd2.1.2.1 e
        · simp only [dsk, List.map_cons, List.nodup_cons, List.mem_cons, not_or] at nd2; exact nd2.2.1.1 e
        · simp only [dsk, List.map_cons, List.nodup_cons, List.mem_cons, not_or] at nd2; exact nd2.2.2.1 (List.mem_map.2 ⟨q, hq, e⟩)
      · simpa [dsk] using nd2
      · refine inn.sub fun q hq => ?_
        simp only [dsk, List.mem_cons] at hq
        rcases hq with rfl | rfl | rfl | hq
        · exact .inl ⟨_, hdm _ (by simp), rfl⟩
        · exact .inl ⟨_, hdm _ (by simp), rfl⟩
        · exact .inl ⟨_, hdm (qr, mapO int ll cl) (by simp), rfl⟩
        · exact .inl ⟨q, hdm q (by simp only [dsk, List.mem_cons]; exact .inr (.inr (.inr hq))), rfl⟩
      · intro q hq
        simp only [dsk, List.mem_cons] at hq
        rcases hq with rfl | rfl | rfl | hq
        · simp
        · simp
        · simp
        · simp only [List.mem_cons]; exact .inr (.inr (.inr (.inr hq)))
    · intro e he hl
      simp only [tab3, List.mem_cons, List.not_mem_nil, or_false] at he
      rcases he with rfl | rfl | rfl | he
      · rfl
      · rfl
      · rfl
      · exfalso
        rcases he with rfl | rfl | rfl | rfl | rfl | rfl | rfl | rfl | rfl <;> cases hl
    · show H = H; rfl
    · rintro ld fr hp1 hall ⟨_, hm⟩
      rw [hall 9 (by omega)] at hm; obtain ⟨ll', cl', h2, h3, h4, h5⟩ := (show Fin hp1 from hm); refine tc_nil ?_; refine tc_end0 rfl F.proof_desk_take_f rfl h5 (cont li ci ll' cl' og ?_ h2 h3 h4); rw [insE_snoc, stepE, if_neg h1]; exact hin
end
end Go.Proofs.Ytpfbbggmcbhboaa
end
section
namespace Go.Proofs.Ytpfbbggmcbhboaa
open Go Go.W Go.Conc
set_option maxRecDepth 20000
attribute [local irreducible] HL HC HQ HB Row Rows2 Blk Facts
set_option maxRecDepth 20000
section
variable {X : TX} {c : Cx} {b : Frame} {cs : List Frame} {n : Nat} {k : List Item} {fr : Fr} {hp : Hq} {ops : Array Oper} {i : Nat} {rest : List Nat} {o : Oper} {a : Act} {d : Tmp} {v : Value}
theorem t_back (ho : ops[i]? = some o) (hdst : o.dst = some d) (hd : Nat.blt d c.n = true) (ha : Ok c a fr) (h : TC X c b cs n (.inRegion ops rest :: k) ((d, v) :: fr) hp) : X.T n ((b.at a (.inRegion ops (i :: rest) :: k)).finish v) cs hp := by
  rw [fin_at' ho, hdst]; exact h _ (ha.put (by simpa using hd) v)
end
section
variable {W : World} {o : List Nat} {v : Nat → Nat → Value} {nn : Nat → Nat} {z : Value} {BW : Nat} {Goal : Goroutine → World → Prop} {ro : Hq}
variable {hp : Hq} {A : Option Addr} {cap : Nat} {l : List Mk} {n : Nat} {cf : Frame} {cs : List Frame}
theorem send_T0 (hrow : (Row A (rows l)).P W) (hA : ∀ ad, A = some ad → l ≠ [] → ad.block ∉ o) (hn : nn 0 = l.length) (hv : ∀ i, i < l.length → v 0 i = mkV (l.getD i default)) (hl : l.length ≤ 1000000) (hBW : 40 * l.length + 60 ≤ BW)
    (cont : ∀ ch r1, (XM W o v nn z BW Goal (.s1 ch) (r1 ++ ro)).T n (cf.finish (.chan (some ch))) cs hp) :
    (XM W o v nn z BW Goal .s0 ro).T (n + 40) (Frame.enter Try.prog 50 [.slice A l.length cap].toArray .normal) (cf :: cs) hp := by
  refine t_enter (X := XM W o v nn z BW Goal .s0 ro) F.proof_send_f rfl ⟨W, [], fun _ => False⟩ (Nat.le_of_ble_eq_true rfl) ?_; have hk2 : (base 50).kind ≠ .early := fun h => by cases h
  obtain ⟨zi, _, hzi, _⟩ := T.el_L_api_Mark.i; refine tc_more (m := n + 2 + 1 + 1 + 1 + 1 + 1 + 1 + 20) (by omega) ?_; refine tc_seq (tc_region ?_); refine tr_box rfl rfl hk2 rfl fun gb hgb hnb => ?_; refine tr_assign rfl rfl hk2 rfl (tc_nil (tc_seq (tc_region ?_))); refine tr_makeChan rfl rfl hk2 Try.underlying120 hzi rfl fun ch hch hnc => ?_; refine tr_alloc rfl rfl hk2 T.al_chan_api_Markx (fun _ _ => by kernel_rfl) fun gc hgc hng => ?_; refine tr_store rfl hk2 rfl rfl (List.Perm.refl _) hng T.sz_chan_api_Markx rfl rfl ?_; refine tc_nil (tc_seq (tc_region (tr_makeFunc rfl rfl hk2 rfl rfl ?_))); have nc1 : gc ≠ ch := fun e => hng ⟨_, List.mem_cons_self .., e.symm⟩; have nc2 : gb ≠ ch := fun e => hnc ⟨_, List.mem_cons_self .., e⟩; have hF := folS_w (W := W) (o := o) (v := v) (nn := nn) (z := z) (BW := BW) (ro := [(gc, Obj.cells #[.chan (some ch)] T.chan_api_Markx (0, 0)), (gb, Obj.cells #[.slice A l.length cap] T.L_api_Mark (0, 0))] ++ ro) (j := 0) (ch := ch) (gc := gc) (gb := gb) (cap := cap) (l := l) (A := A) (by simp) (by simp) hrow hA hn hv hl
  refine at_go0 (f := 65) (cap := [ptrB gc, ptrB gb]) (ch := ch) (tm := false) (r1 := [(gc, Obj.cells #[.chan (some ch)] T.chan_api_Markx (0, 0)), (gb, Obj.cells #[.slice A l.length cap] T.L_api_Mark (0, 0))]) (h2 := hp) rfl hk2 rfl (by simp) (by intro q hq; simp at hq; rcases hq with rfl | rfl <;> simp [Value.cells]) (by intro q hq; simp [hq])
    ?_ ?_ ?_ (TX.more (B := 40 * l.length + 60) (TX.folS ⟨Try.prog, W, o, v, nn, z, BW⟩ 0 ch _ 0) hF hBW) ?_
  · rintro k ⟨q, hq, e⟩ ⟨q', hq', e'⟩
    simp at hq
    rcases hq with rfl | rfl
    · exact hng ⟨q', by simp [hq'], e'.trans e.symm⟩
    · exact hnb ⟨q', by simp [hq'], e'.trans e.symm⟩
  · rintro ⟨q, hq, e⟩
    simp at hq
    rcases hq with rfl | rfl
    · exact nc1 e
    · exact nc2 e
  · rintro ⟨q, hq, e⟩
    exact hnc ⟨q, by simp [hq], e⟩
  refine tc_nil (tc_seq (tc_region ?_)); refine tr_load (v := .chan (some ch)) rfl rfl hk2 T.cell_chan_api_Markx rfl (atc_ro (g := gc) (o := 0) (vs := #[.chan (some ch)]) (t := T.chan_api_Markx) (fz := (0, 0)) (by simp [TX.folM]) rfl) ?_; refine tr_assign rfl rfl hk2 rfl (tc_nil ?_); refine tc_more (m := n + 2) (by omega) ?_; exact tc_ret rfl F.proof_send_f rfl rfl (fun q hq => hq) (cont ch _)
theorem send_T1 {c0 : Nat} (hrow : (Row A (rows l)).P W) (hA : ∀ ad, A = some ad → l ≠ [] → ad.block ∉ o) (hn : nn 1 = l.length) (hv : ∀ i, i < l.length → v 1 i = mkV (l.getD i default)) (hl : l.length ≤ 1000000) (hBW : 40 * l.length + 60 ≤ BW)
    (cont : ∀ ch r1, (XM W o v nn z BW Goal (.ga c0 ch 0 0 false false) (r1 ++ ro)).T n (cf.finish (.chan (some ch))) cs hp) :
    (XM W o v nn z BW Goal (.s1 c0) ro).T (n + 40) (Frame.enter Try.prog 50 [.slice A l.length cap].toArray .normal) (cf :: cs) hp := by
  refine t_enter (X := XM W o v nn z BW Goal (.s1 c0) ro) F.proof_send_f rfl ⟨W, [], fun _ => False⟩ (Nat.le_of_ble_eq_true rfl) ?_; have hk2 : (base 50).kind ≠ .early := fun h => by cases h
  obtain ⟨zi, _, hzi, _⟩ := T.el_L_api_Mark.i; refine tc_more (m := n + 2 + 1 + 1 + 1 + 1 + 1 + 1 + 20) (by omega) ?_; refine tc_seq (tc_region ?_); refine tr_box rfl rfl hk2 rfl fun gb hgb hnb => ?_; refine tr_assign rfl rfl hk2 rfl (tc_nil (tc_seq (tc_region ?_))); refine tr_makeChan rfl rfl hk2 Try.underlying120 hzi rfl fun ch hch hnc => ?_; refine tr_alloc rfl rfl hk2 T.al_chan_api_Markx (fun _ _ => by kernel_rfl) fun gc hgc hng => ?_; refine tr_store rfl hk2 rfl rfl (List.Perm.refl _) hng T.sz_chan_api_Markx rfl rfl ?_; refine tc_nil (tc_seq (tc_region (tr_makeFunc rfl rfl hk2 rfl rfl ?_))); have nc1 : gc ≠ ch := fun e => hng ⟨_, List.mem_cons_self .., e.symm⟩; have nc2 : gb ≠ ch := fun e => hnc ⟨_, List.mem_cons_self .., e⟩; have hF := folS_w (W := W) (o := o) (v := v) (nn := nn) (z := z) (BW := BW) (ro := [(gc, Obj.cells #[.chan (some ch)] T.chan_api_Markx (0, 0)), (gb, Obj.cells #[.slice A l.length cap] T.L_api_Mark (0, 0))] ++ ro) (j := 1) (ch := ch) (gc := gc) (gb := gb) (cap := cap) (l := l) (A := A) (by simp) (by simp) hrow hA hn hv hl
  refine at_go1 (f := 65) (cap := [ptrB gc, ptrB gb]) (ch := ch) (tm := false) (r1 := [(gc, Obj.cells #[.chan (some ch)] T.chan_api_Markx (0, 0)), (gb, Obj.cells #[.slice A l.length cap] T.L_api_Mark (0, 0))]) (h2 := hp) rfl hk2 rfl (by simp) (by intro q hq; simp at hq; rcases hq with rfl | rfl <;> simp [Value.cells]) (by intro q hq; simp [hq])
    ?_ ?_ ?_ (TX.more (B := 40 * l.length + 60) (TX.folS ⟨Try.prog, W, o, v, nn, z, BW⟩ 1 ch _ 0) hF hBW) ?_
  · rintro k ⟨q, hq, e⟩ ⟨q', hq', e'⟩
    simp at hq
    rcases hq with rfl | rfl
    · exact hng ⟨q', by simp [hq'], e'.trans e.symm⟩
    · exact hnb ⟨q', by simp [hq'], e'.trans e.symm⟩
  · rintro ⟨q, hq, e⟩
    simp at hq
    rcases hq with rfl | rfl
    · exact nc1 e
    · exact nc2 e
  · rintro ⟨q, hq, e⟩
    exact hnc ⟨q, by simp [hq], e⟩
  refine tc_nil (tc_seq (tc_region ?_)); refine tr_load (v := .chan (some ch)) rfl rfl hk2 T.cell_chan_api_Markx rfl (atc_ro (g := gc) (o := 0) (vs := #[.chan (some ch)]) (t := T.chan_api_Markx) (fz := (0, 0)) (by simp [TX.folM]) rfl) ?_; refine tr_assign rfl rfl hk2 rfl (tc_nil ?_); refine tc_more (m := n + 2) (by omega) ?_; exact tc_ret rfl F.proof_send_f rfl rfl (fun q hq => hq) (cont ch _)
end
end Go.Proofs.Ytpfbbggmcbhboaa
end
section
namespace Go.Proofs.Ytpfbbggmcbhboaa
open Go Go.W Go.Conc
set_option maxRecDepth 20000
attribute [local irreducible] HL HC HQ HB Row Rows2 Blk Facts
set_option maxRecDepth 20000
noncomputable def bodyC : Code := unLoop (blockAt 2 (Try.f35.body.getD .skip))
noncomputable def ops11 : Array Oper := regionAt 11 (Try.f35.body.getD .skip)
noncomputable def blk3 : Code := blockAt 3 (Try.f35.body.getD .skip)
noncomputable def blk4 : Code := .block 4 (blockAt 4 (Try.f35.body.getD .skip))
def vM (xs ys : List Mk) (j i : Nat) : Value := mkV ((if j = 0 then xs else ys).getD i default)
def nM (xs ys : List Mk) (j : Nat) : Nat := if j = 0 then xs.length else ys.length
abbrev zM : Value := mkV (0, 0, [])
abbrev dkC (m0 m1 q0 q1 : Nat) : Array Value := #[.map (some m0), .map (some m1), .map (some q0), .map (some q1)]
def DS (W : World) (o : List Nat) (d m0 m1 q0 q1 : Nat) (xs ys : List Mk) (hp : Hq) : Prop :=
  ∃ li0 ci0 ll0 cl0 og0 li1 ci1 ll1 cl1 og1, InM li0 og0 (insE xs) ∧ LaM ll0 xs ∧ InM li1 og1 (insE ys) ∧ LaM ll1 ys ∧
    hp.Perm (dsk d m0 q0 (dkC m0 m1 q0 q1) li0 ci0 ll0 cl0 og0 ((m1, mapO int li1 ci1) :: (q1, mapO int ll1 cl1) :: og1)) ∧ (hp.map (·.1)).Nodup ∧ Inn W o hp
section
variable {W : World} {o : List Nat} {v : Nat → Nat → Value} {nn : Nat → Nat} {z : Value} {BW : Nat} {Goal : Goroutine → World → Prop} {ms : Ms} {ro : Hq}
variable {d m0 m1 q0 q1 : Nat} {xs ys : List Mk} {m : Mk} {hp : Hq} {n : Nat} {cf : Frame} {cs : List Frame}
theorem ds_take0 (h : DS W o d m0 m1 q0 q1 xs ys hp) (hlen : xs.length ≤ 1000000) (cont : ∀ hp', DS W o d m0 m1 q0 q1 (xs ++ [m]) ys hp' → (XM W o v nn z BW Goal ms ro).T n (cf.finish (.tuple #[])) cs hp') :
    (XM W o v nn z BW Goal ms ro).T (n + 60) (Frame.enter Try.prog 51 [ptrB d, int ((0 : Nat) : Int), mkV m].toArray .normal) (cf :: cs) hp := by
  obtain ⟨li0, ci0, ll0, cl0, og0, li1, ci1, ll1, cl1, og1, h1, h2, h3, h4, h5, h6, h7⟩ := h; exact take_T (r := 0) (by omega) rfl rfl h1 h2 hlen h5 h6 h7 fun li' ci' ll' cl' og' a1 a2 a3 a4 => cont _ ⟨li', ci', ll', cl', og', li1, ci1, ll1, cl1, og1, a1, a2, h3, h4, .refl _, a3, a4⟩
theorem ds_take1 (h : DS W o d m0 m1 q0 q1 xs ys hp) (hlen : ys.length ≤ 1000000) (cont : ∀ hp', DS W o d m0 m1 q0 q1 xs (ys ++ [m]) hp' → (XM W o v nn z BW Goal ms ro).T n (cf.finish (.tuple #[])) cs hp') :
    (XM W o v nn z BW Goal ms ro).T (n + 60) (Frame.enter Try.prog 51 [ptrB d, int ((1 : Nat) : Int), mkV m].toArray .normal) (cf :: cs) hp := by
  obtain ⟨li0, ci0, ll0, cl0, og0, li1, ci1, ll1, cl1, og1, h1, h2, h3, h4, h5, h6, h7⟩ := h; have pp : hp.Perm (dsk d m1 q1 (dkC m0 m1 q0 q1) li1 ci1 ll1 cl1 og1 ((m0, mapO int li0 ci0) :: (q0, mapO int ll0 cl0) :: og0)) := h5.trans (perm_of fun p => by simp only [dsk, List.countP_append, List.countP_cons]; omega); refine take_T (r := 1) (by omega) rfl rfl h3 h4 hlen pp h6 h7 fun li' ci' ll' cl' og' a1 a2 a3 a4 => cont _ ⟨li0, ci0, ll0, cl0, og0, li', ci', ll', cl', og', h1, h2, a1, a2, ?_, a3, a4⟩; exact perm_of fun p => by simp only [dsk, List.countP_append, List.countP_cons]; omega
theorem take_end {xs : List Mk} {i : Nat} (h : i < xs.length) : xs.take (i + 1) = xs.take i ++ [xs.getD i default] := by
  rw [List.getD_eq_getElem?_getD, List.getElem?_eq_getElem h, List.take_add_one, List.getElem?_eq_getElem h]
  rfl
variable {b : Frame} {k : List Item} {bx : Bx} {c0 c1 : Nat}
noncomputable abbrev cC (bx : Bx) : Cx := ⟨Try.prog, Try.f35.ntmps, bx, [], none⟩
noncomputable abbrev XC (W : World) (o : List Nat) (xs ys : List Mk) (BW : Nat) (Goal : Goroutine → World → Prop) (ms : Ms) (ro : Hq) : TX := XM W o (vM xs ys) (nM xs ys) zM BW Goal ms ro
abbrev frC (d : Nat) (a0 b0 : Bool) (c0 c1 : Nat) : Fr := [(5, ptrB d), (7, chv a0 c0), (8, chv b0 c1)]
noncomputable abbrev kC (k : List Item) : List Item := .inLoop bodyC :: .inBlock 2 :: k
theorem loop_T (hk : b.kind ≠ .early) (hx : xs.length ≤ 1000000) (hy : ys.length ≤ 1000000)
    (f0 : ∀ w hp, Sur ⟨Try.prog, W, o, vM xs ys, nM xs ys, zM, BW⟩ w → Held hp w → DS W o d m0 m1 q0 q1 xs ys hp → ∀ a, Ok (cC bx) a ((43, .tuple #[int (0 : Nat), .bool false, zM, zM]) :: frC d false true c0 c1) → Co Try.prog (G (b.at a (.inRegion ops11 [1, 2, 3] :: .code blk4 :: .inBlock 3 :: kC k)) cs) w Goal)
    (f1 : ∀ w hp, Sur ⟨Try.prog, W, o, vM xs ys, nM xs ys, zM, BW⟩ w → Held hp w → DS W o d m0 m1 q0 q1 xs ys hp → ∀ a, Ok (cC bx) a ((43, .tuple #[int (1 : Nat), .bool false, zM, zM]) :: frC d true false c0 c1) → Co Try.prog (G (b.at a (.inRegion ops11 [1, 2, 3] :: .code blk4 :: .inBlock 3 :: kC k)) cs) w Goal) :
    ∀ (q i j : Nat) (a0 b0 : Bool) (hp : Hq), i ≤ xs.length → j ≤ ys.length → (xs.length - i) + (ys.length - j) + (if a0 then 0 else 1) + (if b0 then 0 else 1) = q → (a0 = true → i = xs.length) → (b0 = true → j = ys.length) → ¬ (a0 = true ∧ b0 = true) → DS W o d m0 m1 q0 q1 (xs.take i) (ys.take j) hp →
      TC (XC W o xs ys BW Goal (.ga c0 c1 i j a0 b0) ro) (cC bx) b cs (150 * q + 1) (.code bodyC :: kC k) (frC d a0 b0 c0 c1) hp := by
  intro q
  induction q with
  | zero =>
    intro i j a0 b0 hp _ _ hq _ _ hn _
    exfalso
    cases a0 <;> cases b0 <;> simp at hq hn
  | succ q ih =>
    intro i j a0 b0 hp hi hj hq ha hb hn hD
    have hmid : TC (XC W o xs ys BW Goal (.ga c0 c1 i j a0 b0) ro) (cC bx) b cs (150 * q + 140) (.code .skip :: .code (.block 3 blk3) :: kC k) (frC d a0 b0 c0 c1) hp := by
      refine tc_skip (tc_block (tc_seq (tc_seq (tc_region (tr_move rfl rfl hk rfl (tc_nil (tc_region (tr_move rfl rfl hk rfl (tc_nil (tc_seq (tc_region ?_))))))))))); refine at_select rfl hk rfl rfl rfl (fun _ => by kernel_rfl) (fun h1 h2 => ?k0) (fun h1 h2 => ?k1) (fun h1 h2 h3 => ?e0) (fun h1 h2 h3 => ?e1) (fun h1 h2 h3 h4 w g1 g2 g3 a ha => ?f0) (fun h1 h2 h3 h4 w g1 g2 g3 a ha => ?f1)
      case k0 =>
        refine tr_extract (v := int (0 : Nat)) rfl rfl hk rfl rfl ?_; refine tr_eqInt rfl rfl hk rfl rfl (tr_eqInt rfl rfl hk rfl rfl (tc_nil (tc_block (tc_cond true rfl (tc_seq (tc_region ?_)))))); refine tr_extract (v := mkV (xs.getD i default)) rfl rfl hk rfl rfl ?_; refine tr_extract (v := .bool true) rfl rfl hk rfl rfl ?_; refine tr_alloc rfl rfl hk T.al_api_Mark (fun _ _ => by kernel_rfl) fun g hg hng => ?_; refine tr_storeS (us := #[int (Prod.fst (xs.getD i default)), int (Prod.fst (Prod.snd (xs.getD i default))), str (Prod.snd (Prod.snd (xs.getD i default)))]) (hp' := hp) rfl hk rfl rfl (List.Perm.refl _) hng T.sz_api_Mark rfl rfl ?_; refine tr_assign rfl rfl hk rfl (tc_nil (tc_seq (tc_seq (tc_region (tr_move rfl rfl hk rfl (tr_not rfl rfl hk rfl (tc_nil (tc_cond false rfl (tc_skip (tc_region (tr_move rfl rfl hk rfl ?_))))))))))); refine tr_loadS (vs := [int (Prod.fst (xs.getD i default)), int (Prod.fst (Prod.snd (xs.getD i default))), str (Prod.snd (Prod.snd (xs.getD i default)))]) rfl rfl hk T.row_api_Mark T.sz_api_Mark rfl rfl (atcs_own (vs := #[int (Prod.fst (xs.getD i default)), int (Prod.fst (Prod.snd (xs.getD i default))), str (Prod.snd (Prod.snd (xs.getD i default)))]) (List.mem_cons_self ..) fun j u hu => by rw [Nat.zero_add]; simpa using hu) ?_; refine tr_into (hp' := hp) (vs := [ptrB d, int ((0 : Nat) : Int), mkV (xs.getD i default)]) (.inl rfl) hk F.proof_desk_take_cb rfl (fun q hq => List.mem_cons_of_mem _ hq) fun a hok => ?_; refine ds_take0 hD (by rw [List.length_take]; omega) fun hp2 hD2 => t_back rfl rfl rfl hok ?_; rw [← take_end (by exact h2)] at hD2; refine tc_nil (tc_inBlock (tc_inBlock (tc_inLoop ?_))); have h2' : i < xs.length := h2; exact tc_more (m := 150 * q + 1) (by omega) (tc_sub (by repeat constructor) (ih (i + 1) j a0 b0 hp2 (by omega) (by omega) (by omega) (by simp [h1]) (by intro h; have := hb h; omega) hn hD2))
      case k1 =>
        refine tr_extract (v := int (1 : Nat)) rfl rfl hk rfl rfl ?_; refine tr_eqInt rfl rfl hk rfl rfl (tr_eqInt rfl rfl hk rfl rfl (tc_nil (tc_block (tc_cond false rfl (tc_cond true rfl (tc_seq (tc_region ?_))))))); refine tr_extract (v := mkV (ys.getD j default)) rfl rfl hk rfl rfl ?_; refine tr_extract (v := .bool true) rfl rfl hk rfl rfl ?_; refine tr_alloc rfl rfl hk T.al_api_Mark (fun _ _ => by kernel_rfl) fun g hg hng => ?_; refine tr_storeS (us := #[int (Prod.fst (ys.getD j default)), int (Prod.fst (Prod.snd (ys.getD j default))), str (Prod.snd (Prod.snd (ys.getD j default)))]) (hp' := hp) rfl hk rfl rfl (List.Perm.refl _) hng T.sz_api_Mark rfl rfl ?_; refine tr_assign rfl rfl hk rfl (tc_nil (tc_seq (tc_seq (tc_region (tr_move rfl rfl hk rfl (tr_not rfl rfl hk rfl (tc_nil (tc_cond false rfl (tc_skip (tc_region (tr_move rfl rfl hk rfl ?_))))))))))); refine tr_loadS (vs := [int (Prod.fst (ys.getD j default)), int (Prod.fst (Prod.snd (ys.getD j default))), str (Prod.snd (Prod.snd (ys.getD j default)))]) rfl rfl hk T.row_api_Mark T.sz_api_Mark rfl rfl (atcs_own (vs := #[int (Prod.fst (ys.getD j default)), int (Prod.fst (Prod.snd (ys.getD j default))), str (Prod.snd (Prod.snd (ys.getD j default)))]) (List.mem_cons_self ..) fun j u hu => by rw [Nat.zero_add]; simpa using hu) ?_; refine tr_into (hp' := hp) (vs := [ptrB d, int ((1 : Nat) : Int), mkV (ys.getD j default)]) (.inl rfl) hk F.proof_desk_take_cb rfl (fun q hq => List.mem_cons_of_mem _ hq) fun a hok => ?_; refine ds_take1 hD (by rw [List.length_take]; omega) fun hp2 hD2 => t_back rfl rfl rfl hok ?_; rw [← take_end (by exact h2)] at hD2; refine tc_nil (tc_inBlock (tc_inBlock (tc_inLoop ?_))); have h2' : j < ys.length := h2; exact tc_more (m := 150 * q + 1) (by omega) (tc_sub (by repeat constructor) (ih i (j + 1) a0 b0 hp2 (by omega) (by omega) (by omega) (fun h => by have := ha h; omega) (by simp [h1]) hn hD2))
      case e0 =>
        refine tr_extract (v := int (0 : Nat)) rfl rfl hk rfl rfl ?_; refine tr_eqInt rfl rfl hk rfl rfl (tr_eqInt rfl rfl hk rfl rfl (tc_nil (tc_block (tc_cond true rfl (tc_seq (tc_region ?_)))))); refine tr_extract (v := mkV (0, 0, [])) rfl rfl hk rfl rfl ?_; refine tr_extract (v := .bool false) rfl rfl hk rfl rfl ?_; refine tr_alloc rfl rfl hk T.al_api_Mark (fun _ _ => by kernel_rfl) fun g hg hng => ?_; refine tr_storeS (us := #[int 0, int 0, str []]) (hp' := hp) rfl hk rfl rfl (List.Perm.refl _) hng T.sz_api_Mark rfl rfl ?_; refine tr_assign rfl rfl hk rfl (tc_nil (tc_seq (tc_seq (tc_region (tr_move rfl rfl hk rfl (tr_not rfl rfl hk rfl (tc_nil (tc_cond true rfl (tc_seq (tc_region (tr_assign rfl rfl hk rfl ?_))))))))))); refine tc_nil ?_; refine tc_exit (kC k) rfl ?_; refine tc_inLoopD (hp' := hp) (fun q hq => List.mem_cons_of_mem _ hq) ?_; exact tc_more (m := 150 * q + 1) (by omega) (tc_sub (by repeat constructor) (ih i j true b0 hp hi hj (by rw [h1] at hq; simp at hq ⊢; omega) (fun _ => h2) hb (by rw [h3]; rintro ⟨_, h⟩; cases h) hD))
      case e1 =>
        refine tr_extract (v := int (1 : Nat)) rfl rfl hk rfl rfl ?_; refine tr_eqInt rfl rfl hk rfl rfl (tr_eqInt rfl rfl hk rfl rfl (tc_nil (tc_block (tc_cond false rfl (tc_cond true rfl (tc_seq (tc_region ?_))))))); refine tr_extract (v := mkV (0, 0, [])) rfl rfl hk rfl rfl ?_; refine tr_extract (v := .bool false) rfl rfl hk rfl rfl ?_; refine tr_alloc rfl rfl hk T.al_api_Mark (fun _ _ => by kernel_rfl) fun g hg hng => ?_; refine tr_storeS (us := #[int 0, int 0, str []]) (hp' := hp) rfl hk rfl rfl (List.Perm.refl _) hng T.sz_api_Mark rfl rfl ?_; refine tr_assign rfl rfl hk rfl (tc_nil (tc_seq (tc_seq (tc_region (tr_move rfl rfl hk rfl (tr_not rfl rfl hk rfl (tc_nil (tc_cond true rfl (tc_seq (tc_region (tr_assign rfl rfl hk rfl ?_))))))))))); refine tc_nil ?_; refine tc_exit (kC k) rfl ?_; refine tc_inLoopD (hp' := hp) (fun q hq => List.mem_cons_of_mem _ hq) ?_; exact tc_more (m := 150 * q + 1) (by omega) (tc_sub (by repeat constructor) (ih i j a0 true hp hi hj (by rw [h1] at hq; simp at hq ⊢; omega) ha (fun _ => h2) (by rw [h3]; rintro ⟨h, _⟩; cases h) hD))
      case f0 =>
        subst h1 h3; have hi2 : i = xs.length := h2; have hj2 : j = ys.length := h4; rw [hi2, hj2, List.take_length, List.take_length] at hD; exact f0 w hp g1 g2 hD a (ha.sub (by repeat constructor))
      case f1 =>
        subst h1 h3; have hi2 : i = xs.length := h4; have hj2 : j = ys.length := h2; rw [hi2, hj2, List.take_length, List.take_length] at hD; exact f1 w hp g1 g2 hD a (ha.sub (by repeat constructor))
    refine tc_more (m := 150 * q + 151) (by omega) ?_; refine tc_seq (tc_seq (tc_region (tr_move rfl rfl hk rfl ?_)))
    cases a0 with
    | false =>
      refine tr_neqChan (p := some c0) (q := none) rfl rfl hk Try.underlying96 rfl rfl ?_; refine tr_move rfl rfl hk rfl (tg_no rfl rfl rfl rfl rfl rfl rfl (tg_no rfl rfl rfl rfl rfl rfl rfl ?_)); refine tr_pick (p := !(some c0 == none)) rfl rfl hk rfl rfl ?_; refine tc_nil (tc_cond true rfl ?_); exact tc_more (m := 150 * q + 140) (by omega) (tc_sub (by repeat constructor) hmid)
    | true =>
      cases b0 with
      | true => exact absurd ⟨rfl, rfl⟩ hn
      | false =>
        refine tr_neqChan (p := none) (q := none) rfl rfl hk Try.underlying96 rfl rfl ?_; refine tr_move rfl rfl hk rfl (tr_moveG rfl rfl rfl rfl rfl hk rfl ?_); refine tr_neqChanG (p := some c1) (q := none) rfl rfl rfl rfl rfl hk Try.underlying96 rfl rfl ?_; refine tr_pick (p := !((none : Option Nat) == none)) (v := .bool (!(some c1 == none))) rfl rfl hk rfl rfl ?_; refine tc_nil (tc_cond true rfl ?_); exact tc_more (m := 150 * q + 140) (by omega) (tc_sub (by repeat constructor) hmid)
end
end Go.Proofs.Ytpfbbggmcbhboaa
end
section
namespace Go.Proofs.Ytpfbbggmcbhboaa
open Go Go.W Go.Conc
set_option maxRecDepth 20000
attribute [local irreducible] HL HC HQ HB Row Rows2 Blk Facts
set_option maxRecDepth 20000
theorem mem_e {ops : Array Oper} {i j : Nat} (h : (edgesOf ops i).contains j = true) : j ∈ edgesOf ops i := by simpa using h
noncomputable def ops5 : Array Oper := regionAt 5 (Try.f35.body.getD .skip)
abbrev tab5 (d j : Nat) (va vb : Value) : List (Option Nat × Tmp × Value) := [(none, 0, va), (none, 1, vb), (none, 5, .pointer (some ⟨d, 0, none⟩)), (none, 6, int (j : Int)), (none, 15, int (j : Int)), (some 0, 18, .pointer (some ⟨d, 0, none⟩)), (some 1, 19, int (j : Int)), (some 2, 20, .pointer (some ⟨d, 0, none⟩)), (some 3, 21, int (j : Int)), (some 6, 24, .pointer (some ⟨d, 0, none⟩)), (some 7, 25, .pointer (some ⟨d, 0, none⟩)), (some 8, 26, .pointer (some ⟨d, 0 + j, none⟩)), (some 10, 27, .pointer (some ⟨d, 0, none⟩)), (some 11, 28, .pointer (some ⟨d, 2, none⟩)), (some 12, 29, .pointer (some ⟨d, 2 + j, none⟩))]
def Fin5 (W : World) (o : List Nat) (d j : Nat) (dc : Array Value) (rest5 hp : Hq) : Prop :=
  ∃ g4 g5, hp = (d, Obj.cells ((dc.setIfInBounds (0 + j) (.map (some g4))).setIfInBounds (2 + j) (.map (some g5))) T.proof_desk (0, 0)) :: ([(g4, mapO int [] 0)] ++ [(g5, mapO int [] 0)] ++ rest5) ∧ (hp.map (·.1)).Nodup ∧ Inn W o hp
def St5 (W : World) (o : List Nat) (d j : Nat) (dc : Array Value) (rest5 : Hq) (b4 b5 b9 b13 : Bool) (fr : Fr) (hp : Hq) : Prop :=
  if b13 = true then Fin5 W o d j dc rest5 hp else
  ∃ g4 g5, (b4 = true → lk fr 22 = some (.map (some g4))) ∧ (b5 = true → lk fr 23 = some (.map (some g5))) ∧
    hp.Perm ((d, .cells (if b9 = true then dc.setIfInBounds (0 + j) (.map (some g4)) else dc) T.proof_desk (0, 0)) :: ((if b4 = true then [(g4, mapO int [] 0)] else []) ++ (if b5 = true then [(g5, mapO int [] 0)] else []) ++ rest5)) ∧ (hp.map (·.1)).Nodup ∧ Inn W o hp
section
variable {va vb : Value} {W : World} {o : List Nat} {d j : Nat} {dc : Array Value} {rest5 hp : Hq} {fr : Fr} {b4 b5 b9 b13 c4 c5 c9 c13 : Bool} {ld : Nat → Bool}
theorem st5_cong (h1 : c4 = b4) (h2 : c5 = b5) (h3 : c9 = b9) (h4 : c13 = b13) (h : St5 W o d j dc rest5 b4 b5 b9 b13 fr hp) : St5 W o d j dc rest5 c4 c5 c9 c13 fr hp := by subst h1 h2 h3 h4; exact h
theorem tab5_ds : (tab5 d j va vb).map (·.2.1) = [0, 1, 5, 6, 15, 18, 19, 20, 21, 24, 25, 26, 27, 28, 29] := rfl
theorem tab5_is : (tab5 d j va vb).filterMap (·.1) = [0, 1, 2, 3, 6, 7, 8, 10, 11, 12] := rfl
theorem tab5_nd : ((tab5 d j va vb).map (·.2.1)).Nodup := by show [0, 1, 5, 6, 15, 18, 19, 20, 21, 24, 25, 26, 27, 28, 29].Nodup; decide
theorem tab5_ni : ((tab5 d j va vb).filterMap (·.1)).Nodup := by show [0, 1, 2, 3, 6, 7, 8, 10, 11, 12].Nodup; decide
theorem tab5_old {e : Option Nat × Tmp × Value} {i : Nat} (ht : Tab (tab5 d j va vb) ld fr) (he : e ∈ tab5 d j va vb) (hl : e.1.all (fun q => ld q || Nat.beq q i) = true) (hi : i ∉ [0, 1, 2, 3, 6, 7, 8, 10, 11, 12]) : lk fr e.2.1 = some e.2.2 := by
  refine ht e he ?_
  cases h1 : e.1 with
  | none => rfl
  | some q =>
    rw [h1] at hl; simp only [Option.all_some, Bool.or_eq_true] at hl ⊢
    rcases hl with hl | hl
    · exact hl
    · obtain rfl := Nat.eq_of_beq_eq_true hl
      have h2 : q ∈ (tab5 d j va vb).filterMap (·.1) := List.mem_filterMap.2 ⟨e, he, h1⟩; rw [tab5_is] at h2; exact absurd h2 hi
variable {v : Nat → Nat → Value} {nn : Nat → Nat} {z : Value} {BW : Nat} {Goal : Goroutine → World → Prop} {ms : Ms} {ro : Hq}
variable {b : Frame} {cs : List Frame} {k : List Item} {bx : Bx}
theorem step5 (hk2 : b.kind ≠ .early) (hr : j < 2) (hdc : dc.size = 4) :
    ∀ i, i < 14 → ∀ (ld : Nat → Bool) fr hp, (Tab (tab5 d j va vb) ld fr ∧ St5 W o d j dc rest5 (ld 4) (ld 5) (ld 9) (ld 13) fr hp) → (∀ i, ld i = true → ∀ j ∈ edgesOf ops5 i, ld j = true) → ld i = false → (∀ j ∈ edgesOf ops5 i, ld j = true) →
      ∀ n rest, (∀ fr' hp', (Tab (tab5 d j va vb) (fun j => ld j || Nat.beq j i) fr' ∧ St5 W o d j dc rest5 (ld 4 || Nat.beq 4 i) (ld 5 || Nat.beq 5 i) (ld 9 || Nat.beq 9 i) (ld 13 || Nat.beq 13 i) fr' hp') → TC (XM W o v nn z BW Goal ms ro) (cC bx) b cs n (.inRegion ops5 rest :: k) fr' hp') →
        TC (XM W o v nn z BW Goal ms ro) (cC bx) b cs (n + 1) (.inRegion ops5 (i :: rest) :: k) fr hp := by
  rintro i hi ld fr hp ⟨ht, hm⟩ hcl hn hd n rest hk
  have h13 : ld 13 = false := by
    cases h : ld 13 with
    | false => rfl
    | true =>
      by_cases e : i = 13
      · rw [← e, hn] at h; cases h
      · have hall : (List.range 13).all (deps ops5 14 13) = true := by kernel_rfl
        have h2 := deps_ld hcl 14 13 i (hcl 13 h) (List.all_eq_true.1 hall i (List.mem_range.2 (by omega))); rw [hn] at h2; cases h2
  have hm' := hm; rw [h13] at hm'; have hcases : i = 0 ∨ i = 1 ∨ i = 2 ∨ i = 3 ∨ i = 4 ∨ i = 5 ∨ i = 6 ∨ i = 7 ∨ i = 8 ∨ i = 9 ∨ i = 10 ∨ i = 11 ∨ i = 12 ∨ i = 13 := by omega
  rcases hcases with rfl | rfl | rfl | rfl | rfl | rfl | rfl | rfl | rfl | rfl | rfl | rfl | rfl | rfl
  · obtain ⟨g4, g5, s1, s2, s3, s4, s5⟩ := hm'
    have h5 : lk fr 5 = some (.pointer (some ⟨d, 0, none⟩)) := ht.base (by repeat constructor); refine tr_move rfl rfl hk2 h5 ?_; refine hk _ _ ⟨ht.put 0 (by repeat constructor) tab5_nd tab5_ni, ?_⟩; refine st5_cong (or_f rfl) (or_f rfl) (or_f rfl) (or_f rfl) ?_; rw [h13]; exact ⟨g4, g5, fun h => by rw [lk_cons, if_neg (by decide)]; exact s1 h, fun h => by rw [lk_cons, if_neg (by decide)]; exact s2 h, s3, s4, s5⟩
  · obtain ⟨g4, g5, s1, s2, s3, s4, s5⟩ := hm'
    have h6 : lk fr 6 = some (int (j : Int)) := ht.base (by repeat constructor); refine tr_move rfl rfl hk2 h6 ?_; refine hk _ _ ⟨ht.put 1 (by repeat constructor) tab5_nd tab5_ni, ?_⟩; refine st5_cong (or_f rfl) (or_f rfl) (or_f rfl) (or_f rfl) ?_; rw [h13]; exact ⟨g4, g5, fun h => by rw [lk_cons, if_neg (by decide)]; exact s1 h, fun h => by rw [lk_cons, if_neg (by decide)]; exact s2 h, s3, s4, s5⟩
  · obtain ⟨g4, g5, s1, s2, s3, s4, s5⟩ := hm'
    have h5 : lk fr 5 = some (.pointer (some ⟨d, 0, none⟩)) := ht.base (by repeat constructor); refine tr_move rfl rfl hk2 h5 ?_; refine hk _ _ ⟨ht.put 2 (by repeat constructor) tab5_nd tab5_ni, ?_⟩; refine st5_cong (or_f rfl) (or_f rfl) (or_f rfl) (or_f rfl) ?_; rw [h13]; exact ⟨g4, g5, fun h => by rw [lk_cons, if_neg (by decide)]; exact s1 h, fun h => by rw [lk_cons, if_neg (by decide)]; exact s2 h, s3, s4, s5⟩
  · obtain ⟨g4, g5, s1, s2, s3, s4, s5⟩ := hm'
    have h6 : lk fr 6 = some (int (j : Int)) := ht.base (by repeat constructor); refine tr_move rfl rfl hk2 h6 ?_; refine hk _ _ ⟨ht.put 3 (by repeat constructor) tab5_nd tab5_ni, ?_⟩; refine st5_cong (or_f rfl) (or_f rfl) (or_f rfl) (or_f rfl) ?_; rw [h13]; exact ⟨g4, g5, fun h => by rw [lk_cons, if_neg (by decide)]; exact s1 h, fun h => by rw [lk_cons, if_neg (by decide)]; exact s2 h, s3, s4, s5⟩
  · obtain ⟨g4, g5, s1, s2, s3, s4, s5⟩ := hm'
    have h9 : ld 9 = false := by
      cases h : ld 9 with
      | false => rfl
      | true =>
        have := hcl 9 h 4 (mem_e (by kernel_rfl)); rw [hn] at this; cases this
    refine tr_new (.map #[] 0) (fun g => .map (some g)) rfl rfl rfl rfl hk2 (fun a w _ => ⟨rfl, rfl⟩) fun g hg hng => ?_; refine hk _ _ ⟨?_, ?_⟩
    · intro e he hl
      have hne : e.2.1 ≠ 22 := by
        rintro h; have h1 : e.2.1 ∈ (tab5 d j va vb).map (·.2.1) := List.mem_map.2 ⟨e, he, rfl⟩; rw [tab5_ds, h] at h1; exact absurd h1 (by decide)
      rw [lk_cons, if_neg (Ne.symm hne)]; exact tab5_old ht he hl (by decide)
    · refine st5_cong (or_t rfl) (or_f rfl) (or_f rfl) (or_f rfl) ?_
      rw [h13]; refine ⟨g, g5, fun _ => by rw [lk_cons, if_pos rfl], fun h => by rw [lk_cons, if_neg (by decide)]; exact s2 h, ?_, nodup_new s4 hng, fun q hq => ?_⟩
      · rw [h9, hn] at s3
        rw [h9]; refine (List.Perm.cons _ s3).trans (perm_of fun p => ?_); simp only [Bool.false_eq_true, if_false, if_true, mapO, List.map_nil, List.nil_append, List.countP_append, List.countP_cons, List.countP_nil]
        omega
      · rcases List.mem_cons.1 hq with rfl | hq
        · exact .inr hg
        · exact s5 q hq
  · obtain ⟨g4, g5, s1, s2, s3, s4, s5⟩ := hm'
    refine tr_new (.map #[] 0) (fun g => .map (some g)) rfl rfl rfl rfl hk2 (fun a w _ => ⟨rfl, rfl⟩) fun g hg hng => ?_; refine hk _ _ ⟨?_, ?_⟩
    · intro e he hl
      have hne : e.2.1 ≠ 23 := by
        rintro h; have h1 : e.2.1 ∈ (tab5 d j va vb).map (·.2.1) := List.mem_map.2 ⟨e, he, rfl⟩; rw [tab5_ds, h] at h1; exact absurd h1 (by decide)
      rw [lk_cons, if_neg (Ne.symm hne)]; exact tab5_old ht he hl (by decide)
    · refine st5_cong (or_f rfl) (or_t rfl) (or_f rfl) (or_f rfl) ?_
      rw [h13]; refine ⟨g4, g, fun h => by rw [lk_cons, if_neg (by decide)]; exact s1 h, fun _ => by rw [lk_cons, if_pos rfl], ?_, nodup_new s4 hng, fun q hq => ?_⟩
      · rw [hn] at s3
        refine (List.Perm.cons _ s3).trans (perm_of fun p => ?_); simp only [Bool.false_eq_true, if_false, if_true, mapO, List.map_nil, List.nil_append, List.append_nil, List.countP_append, List.countP_cons, List.countP_nil]
        omega
      · rcases List.mem_cons.1 hq with rfl | hq
        · exact .inr hg
        · exact s5 q hq
  · obtain ⟨g4, g5, s1, s2, s3, s4, s5⟩ := hm'
    have h18 : lk fr 18 = some (.pointer (some ⟨d, 0, none⟩)) := ht.of (j := 0) (hd 0 (mem_e (by kernel_rfl))) (by repeat constructor); refine tr_nilCheck rfl rfl hk2 h18 ?_; refine hk _ _ ⟨ht.put 6 (by repeat constructor) tab5_nd tab5_ni, ?_⟩; refine st5_cong (or_f rfl) (or_f rfl) (or_f rfl) (or_f rfl) ?_; rw [h13]; exact ⟨g4, g5, fun h => by rw [lk_cons, if_neg (by decide)]; exact s1 h, fun h => by rw [lk_cons, if_neg (by decide)]; exact s2 h, s3, s4, s5⟩
  · obtain ⟨g4, g5, s1, s2, s3, s4, s5⟩ := hm'
    have h24 : lk fr 24 = some (.pointer (some ⟨d, 0, none⟩)) := ht.of (j := 6) (hd 6 (mem_e (by kernel_rfl))) (by repeat constructor); refine tr_fieldAddr ⟨d, 0, none⟩ rfl rfl hk2 h24 T.fa_proof_desk_0 (fun _ _ _ => by kernel_rfl) rfl ?_; refine hk _ _ ⟨ht.put 7 (by repeat constructor) tab5_nd tab5_ni, ?_⟩; refine st5_cong (or_f rfl) (or_f rfl) (or_f rfl) (or_f rfl) ?_; rw [h13]; exact ⟨g4, g5, fun h => by rw [lk_cons, if_neg (by decide)]; exact s1 h, fun h => by rw [lk_cons, if_neg (by decide)]; exact s2 h, s3, s4, s5⟩
  · obtain ⟨g4, g5, s1, s2, s3, s4, s5⟩ := hm'
    have h25 : lk fr 25 = some (.pointer (some ⟨d, 0, none⟩)) := ht.of (j := 7) (hd 7 (mem_e (by kernel_rfl))) (by repeat constructor); have h19 : lk fr 19 = some (int (j : Int)) := ht.of (j := 1) (hd 1 (mem_e (by kernel_rfl))) (by repeat constructor); refine tr_indexArr (o := 0) (q := 0 + j) j rfl rfl hk2 T.u_A2_map_int_L_string T.sz_map_int_L_string h25 h19 rfl hr (by omega) ?_; refine hk _ _ ⟨ht.put 8 (by repeat constructor) tab5_nd tab5_ni, ?_⟩; refine st5_cong (or_f rfl) (or_f rfl) (or_f rfl) (or_f rfl) ?_; rw [h13]; exact ⟨g4, g5, fun h => by rw [lk_cons, if_neg (by decide)]; exact s1 h, fun h => by rw [lk_cons, if_neg (by decide)]; exact s2 h, s3, s4, s5⟩
  · obtain ⟨g4, g5, s1, s2, s3, s4, s5⟩ := hm'
    have h26 : lk fr 26 = some (.pointer (some ⟨d, 0 + j, none⟩)) := ht.of (j := 8) (hd 8 (mem_e (by kernel_rfl))) (by repeat constructor); have h4 : ld 4 = true := hd 4 (mem_e (by kernel_rfl)); rw [hn] at s3; simp only [Bool.false_eq_true, if_false] at s3
    have hnx : ¬ Has ((if ld 4 = true then [(g4, mapO int [] 0)] else []) ++ (if ld 5 = true then [(g5, mapO int [] 0)] else []) ++ rest5) d := fun h => by
      have := (s3.map (·.1)).nodup_iff.1 s4; rw [List.map_cons, List.nodup_cons] at this; exact this.1 (has_keys.1 h)
    refine tr_store (u := dc.getD (0 + j) undef) rfl hk2 h26 (s1 h4) s3 hnx T.sz_map_int_L_string (by rw [Array.getD_eq_getD_getElem?, Array.getElem?_eq_getElem (by omega)]; rfl) rfl ?_; refine hk _ _ ⟨fun e he hl => tab5_old ht he hl (by decide), ?_⟩; refine st5_cong (or_f rfl) (or_f rfl) (or_t rfl) (or_f rfl) ?_; rw [h13]; have nd9 := (s3.map (·.1)).nodup_iff.1 s4; refine ⟨g4, g5, s1, s2, ?_, ?_, ?_⟩
    · simp only [if_true]
      exact .refl _
    · simpa using nd9
    · intro q hq
      rcases List.mem_cons.1 hq with rfl | hq
      · exact s5 (d, .cells dc T.proof_desk (0, 0)) (s3.mem_iff.2 (List.mem_cons_self ..))
      · exact s5 q (s3.mem_iff.2 (List.mem_cons_of_mem _ hq))
  · obtain ⟨g4, g5, s1, s2, s3, s4, s5⟩ := hm'
    have h20 : lk fr 20 = some (.pointer (some ⟨d, 0, none⟩)) := ht.of (j := 2) (hd 2 (mem_e (by kernel_rfl))) (by repeat constructor); refine tr_nilCheck rfl rfl hk2 h20 ?_; refine hk _ _ ⟨ht.put 10 (by repeat constructor) tab5_nd tab5_ni, ?_⟩; refine st5_cong (or_f rfl) (or_f rfl) (or_f rfl) (or_f rfl) ?_; rw [h13]; exact ⟨g4, g5, fun h => by rw [lk_cons, if_neg (by decide)]; exact s1 h, fun h => by rw [lk_cons, if_neg (by decide)]; exact s2 h, s3, s4, s5⟩
  · obtain ⟨g4, g5, s1, s2, s3, s4, s5⟩ := hm'
    have h27 : lk fr 27 = some (.pointer (some ⟨d, 0, none⟩)) := ht.of (j := 10) (hd 10 (mem_e (by kernel_rfl))) (by repeat constructor); refine tr_fieldAddr ⟨d, 2, none⟩ rfl rfl hk2 h27 T.fa_proof_desk_1 (fun _ _ _ => by kernel_rfl) rfl ?_; refine hk _ _ ⟨ht.put 11 (by repeat constructor) tab5_nd tab5_ni, ?_⟩; refine st5_cong (or_f rfl) (or_f rfl) (or_f rfl) (or_f rfl) ?_; rw [h13]; exact ⟨g4, g5, fun h => by rw [lk_cons, if_neg (by decide)]; exact s1 h, fun h => by rw [lk_cons, if_neg (by decide)]; exact s2 h, s3, s4, s5⟩
  · obtain ⟨g4, g5, s1, s2, s3, s4, s5⟩ := hm'
    have h28 : lk fr 28 = some (.pointer (some ⟨d, 2, none⟩)) := ht.of (j := 11) (hd 11 (mem_e (by kernel_rfl))) (by repeat constructor); have h21 : lk fr 21 = some (int (j : Int)) := ht.of (j := 3) (hd 3 (mem_e (by kernel_rfl))) (by repeat constructor); refine tr_indexArr (o := 2) (q := 2 + j) j rfl rfl hk2 T.u_A2_map_int_api_Mark T.sz_map_int_api_Mark h28 h21 rfl hr (by omega) ?_; refine hk _ _ ⟨ht.put 12 (by repeat constructor) tab5_nd tab5_ni, ?_⟩; refine st5_cong (or_f rfl) (or_f rfl) (or_f rfl) (or_f rfl) ?_; rw [h13]; exact ⟨g4, g5, fun h => by rw [lk_cons, if_neg (by decide)]; exact s1 h, fun h => by rw [lk_cons, if_neg (by decide)]; exact s2 h, s3, s4, s5⟩
  · obtain ⟨g4, g5, s1, s2, s3, s4, s5⟩ := hm'
    have hall : (List.range 13).all (deps ops5 14 13) = true := by kernel_rfl
    have hld : ∀ q, q < 13 → ld q = true := fun q hq => deps_ld hcl 14 13 q hd (List.all_eq_true.1 hall q (List.mem_range.2 hq)); have h29 : lk fr 29 = some (.pointer (some ⟨d, 2 + j, none⟩)) := ht.of (j := 12) (hld 12 (by omega)) (by repeat constructor); rw [hld 9 (by omega), hld 4 (by omega), hld 5 (by omega)] at s3; simp only [if_true] at s3
    have hnx : ¬ Has ([(g4, mapO int [] 0)] ++ [(g5, mapO int [] 0)] ++ rest5) d := fun h => by
      have := (s3.map (·.1)).nodup_iff.1 s4; rw [List.map_cons, List.nodup_cons] at this; exact this.1 (has_keys.1 h)
    refine tr_store (u := (dc.setIfInBounds (0 + j) (.map (some g4))).getD (2 + j) undef) rfl hk2 h29 (s2 (hld 5 (by omega))) s3 hnx T.sz_map_int_api_Mark (by rw [Array.getD_eq_getD_getElem?, Array.getElem?_eq_getElem (by simp; omega)]; rfl) rfl ?_; refine hk _ _ ⟨fun e he hl => tab5_old ht he hl (by decide), ?_⟩; have nd9 := (s3.map (·.1)).nodup_iff.1 s4
    have hF : Fin5 W o d j dc rest5 ((d, .cells ((dc.setIfInBounds (0 + j) (.map (some g4))).setIfInBounds (2 + j) (.map (some g5))) T.proof_desk (0, 0)) :: ([(g4, mapO int [] 0)] ++ [(g5, mapO int [] 0)] ++ rest5)) := by
      refine ⟨g4, g5, rfl, by simpa using nd9, fun q hq => ?_⟩
      rcases List.mem_cons.1 hq with rfl | hq
      · exact s5 (d, .cells (dc.setIfInBounds (0 + j) (.map (some g4))) T.proof_desk (0, 0)) (s3.mem_iff.2 (List.mem_cons_self ..))
      · exact s5 q (s3.mem_iff.2 (List.mem_cons_of_mem _ hq))
    refine st5_cong (b4 := ld 4) (b5 := ld 5) (b9 := ld 9) (or_f rfl) (or_f rfl) (or_f rfl) (or_t rfl) ?_; exact hF
theorem edges5 : ∀ i, i < 14 → ∀ j ∈ edgesOf ops5 i, j < i := fun i hi j hj => by
  have h : ((List.range 14).all fun i => (edgesOf ops5 i).all fun j => Nat.blt j i) = true := by kernel_rfl
  have h1 := List.all_eq_true.1 (List.all_eq_true.1 h i (List.mem_range.2 hi)) j hj
  simpa using h1
theorem maps_T {n : Nat} (hk2 : b.kind ≠ .early) (hr : j < 2) (hdc : dc.size = 4) (h0 : lk fr 0 = some va) (h1 : lk fr 1 = some vb) (h5 : lk fr 5 = some (ptrB d)) (h6 : lk fr 6 = some (int (j : Int))) (h15 : lk fr 15 = some (int (j : Int))) (hpp : hp.Perm ((d, .cells dc T.proof_desk (0, 0)) :: rest5)) (nd : (hp.map (·.1)).Nodup) (inn : Inn W o hp)
    (hend : ∀ g4 g5 hp', hp' = (d, Obj.cells ((dc.setIfInBounds (0 + j) (.map (some g4))).setIfInBounds (2 + j) (.map (some g5))) T.proof_desk (0, 0)) :: ([(g4, mapO int [] 0)] ++ [(g5, mapO int [] 0)] ++ rest5) → (hp'.map (·.1)).Nodup → Inn W o hp' → TC (XM W o v nn z BW Goal ms ro) (cC bx) b cs n k [(0, va), (1, vb), (5, ptrB d), (6, int (j : Int)), (15, int (j : Int))] hp') :
    TC (XM W o v nn z BW Goal ms ro) (cC bx) b cs (n + 1 + 14 + 1) (.code (.region 5 ops5 true) :: k) fr hp := by
  refine tc_sub (fr' := [(0, va), (1, vb), (5, ptrB d), (6, int (j : Int)), (15, int (j : Int))]) ⟨h0, h1, h5, h6, h15, trivial⟩ ?_; refine tc_regionAll (m := 14) mixed (by kernel_rfl) (fun ld fr hp1 => Tab (tab5 d j va vb) ld fr ∧ St5 W o d j dc rest5 (ld 4) (ld 5) (ld 9) (ld 13) fr hp1) (step5 hk2 hr hdc) edges5 ⟨?_, ?_⟩ ?_
  · intro e he hl
    simp only [tab5, List.mem_cons, List.not_mem_nil, or_false] at he
    rcases he with rfl | rfl | rfl | rfl | rfl | he
    · rfl
    · rfl
    · rfl
    · rfl
    · rfl
    · exfalso
      rcases he with rfl | rfl | rfl | rfl | rfl | rfl | rfl | rfl | rfl | rfl <;> cases hl
  · show ∃ g4 g5, _
    exact ⟨0, 0, (fun h => by cases h), (fun h => by cases h), hpp, nd, inn⟩
  · rintro ld fr hp1 hall ⟨ht, hm⟩
    rw [hall 13 (by omega)] at hm; obtain ⟨g4, g5, e, h1, h2⟩ := (show Fin5 W o d j dc rest5 hp1 from hm); refine tc_nil ?_; exact tc_sub (fr' := [(0, va), (1, vb), (5, ptrB d), (6, int (j : Int)), (15, int (j : Int))]) ⟨ht.base (by repeat constructor), ht.base (by repeat constructor), ht.base (by repeat constructor), ht.base (by repeat constructor), ht.base (by repeat constructor), trivial⟩ (hend g4 g5 hp1 e h1 h2)
end
end Go.Proofs.Ytpfbbggmcbhboaa
end
section
namespace Go.Proofs.Ytpfbbggmcbhboaa
open Go Go.W Go.Conc
set_option maxRecDepth 20000
attribute [local irreducible] HL HC HQ HB Row Rows2 Blk Facts
set_option maxRecDepth 20000
def seqR : Code → Code
  | .seq _ y => y
  | _ => .skip
section
variable {c : Cx} {Q : Exit → Act → World → Prop} {fr : Fr} {hp : Hp} {L : List Fact} {ops : Array Oper} {rest : List Oper} {d : Tmp} {t ty : TypeId} {pos : String} {af : Array Edge} {x y : Operand}
theorem r_neqChan {e yt : TypeId} {dir : ChanDir} {p q : Option Nat} (hd : Nat.blt d c.n = true) (ht : c.P.underlying t = some (.chan dir e)) (hx : ev fr x = some (.chan p)) (hy : ev fr y = some (.chan q)) (k : HL c ops Q rest ((d, .bool (!(p == q))) :: fr) hp L) : HL c ops Q (⟨some d, .binOp .neq t x y yt, ty, pos, af, none⟩ :: rest) fr hp L :=
  hl_val _ rfl rfl hd (fun a w ha _ => by
    obtain ⟨h1, h2, h3, h4⟩ := run_neqChan ht x y p q w
    simp only [execOp, ha.ev hx, ha.ev hy, Sem.run_bind, h1, h3, Result.andThen_ok, Sem.run_pure]) k
end
section
variable {b : Frame} {k : List Item} {cs : List Frame} {bx : Bx} {c0 c1 d : Nat} {hp : Hp} {L : List Fact} {Goal : Goroutine → World → Prop}
theorem tail_0 (hk : b.kind ≠ .early) (hro : b.roundOf = none) {a : Act} {w : World} (ha : Ok (cC bx) a ((43, .tuple #[int (0 : Nat), .bool false, zM, zM]) :: frC d false true c0 c1)) (hw : WI bx w hp L)
    (hend : ∀ a w, Ok (cC bx) a [(5, ptrB d)] → WI bx w hp L → Co Try.prog (G (b.at a k) cs) w Goal) : Co Try.prog (G (b.at a (.inRegion ops11 [1, 2, 3] :: .code blk4 :: .inBlock 3 :: kC k)) cs) w Goal := by
  let Q1 : Exit → Act → World → Prop := fun e a w => e = .normal ∧ Ok (cC bx) a ((46, .bool false) :: (45, .bool true) :: (43, .tuple #[int (0 : Nat), .bool false, zM, zM]) :: frC d false true c0 c1) ∧ WI bx w hp L
  have h1 : HL (cC bx) ops11 Q1 (ops11.toList.drop 1) ((43, .tuple #[int (0 : Nat), .bool false, zM, zM]) :: frC d false true c0 c1) hp L := by
    refine r_extract rfl rfl rfl (r_eql rfl rfl rfl ?_); refine r_eql rfl rfl rfl (hl_nil ?_); exact hq_of fun a w ha hw => ⟨rfl, ha.sub (by repeat constructor), hw⟩
  refine co_hl (i := 1) h1 rfl ha hw hk hro fun e a1 w1 hq => ?_; obtain ⟨rfl, ha1, hw1⟩ := hq; show Co Try.prog (G (b.at a1 (.code blk4 :: .inBlock 3 :: kC k)) cs) w1 Goal
  let Q2 : Exit → Act → World → Prop := fun e a w => e = .exit 3 ∧ Ok (cC bx) a (frC d true true c0 c1) ∧ WI bx w hp L
  refine co_hc (c := cC bx) (Q := Q2) (L := L) (hp := hp) ?_ ha1 hw1 hk hro fun e a2 w2 hq => ?_
  · refine hc_block ?_
    refine hc_cond_t rfl ?_; refine hc_seq (hc_region ?_); refine r_extract rfl rfl rfl (r_extract rfl rfl rfl ?_); refine r_alloc rfl T.al_api_Mark fun g => ?_; refine r_storeS (cs := #[int 0, int 0, str []]) rfl rfl (.refl _) T.sz_api_Mark rfl rfl ?_; refine r_assign rfl rfl (hl_nil (then_n (hc_seq (hc_seq (hc_region ?_))))); refine r_move rfl rfl ?_; refine r_not rfl rfl (hl_nil (then_n ?_)); refine hc_cond_t rfl (hc_seq (hc_region ?_)); refine r_assign rfl rfl (hl_nil (then_n (hc_exit (then_exit (inb_miss rfl ?_))))); exact hq_of fun a w ha hw => ⟨rfl, ha.sub (by repeat constructor), hw.weak (List.sublist_cons_self _ _) fun _ h => h⟩
  obtain ⟨rfl, ha2, hw2⟩ := hq; intro k₁ hk1; refine co_ctl rfl (fun _ => stepG_exit (k' := kC k) (hk1.trans rfl)) ?_; refine co_ctl rfl (fun _ => stepG_inLoop) ?_
  let Q3 : Exit → Act → World → Prop := fun e a w => e = .exit 2 ∧ Ok (cC bx) a [(5, ptrB d)] ∧ WI bx w hp L
  refine co_hc (c := cC bx) (Q := Q3) (L := L) (hp := hp) ?_ ha2 hw2 hk hro fun e a3 w3 hq => ?_
  · refine hc_seq (hc_seq (hc_region ?_))
    refine r_move rfl rfl ?_; refine r_neqChan (p := none) (q := none) rfl Try.underlying96 rfl rfl ?_; refine r_move rfl rfl (g_yes rfl rfl rfl (r_move rfl rfl (g_yes rfl rfl rfl ?_))); refine r_neqChan (p := none) (q := none) rfl Try.underlying96 rfl rfl ?_; refine r_pick_f rfl rfl rfl (hl_nil (then_n ?_)); refine hc_cond_f rfl (hc_exit (then_exit ?_)); exact hq_of fun a w ha hw => ⟨rfl, ha.sub (by repeat constructor), hw⟩
  obtain ⟨rfl, ha3, hw3⟩ := hq; intro k₂ hk2; refine co_ctl rfl (fun _ => stepG_exit (k' := k) (hk2.trans rfl)) ?_; exact hend a3 w3 ha3 hw3
theorem tail_1 (hk : b.kind ≠ .early) (hro : b.roundOf = none) {a : Act} {w : World} (ha : Ok (cC bx) a ((43, .tuple #[int (1 : Nat), .bool false, zM, zM]) :: frC d true false c0 c1)) (hw : WI bx w hp L)
    (hend : ∀ a w, Ok (cC bx) a [(5, ptrB d)] → WI bx w hp L → Co Try.prog (G (b.at a k) cs) w Goal) : Co Try.prog (G (b.at a (.inRegion ops11 [1, 2, 3] :: .code blk4 :: .inBlock 3 :: kC k)) cs) w Goal := by
  let Q1 : Exit → Act → World → Prop := fun e a w => e = .normal ∧ Ok (cC bx) a ((46, .bool true) :: (45, .bool false) :: (43, .tuple #[int (1 : Nat), .bool false, zM, zM]) :: frC d true false c0 c1) ∧ WI bx w hp L
  have h1 : HL (cC bx) ops11 Q1 (ops11.toList.drop 1) ((43, .tuple #[int (1 : Nat), .bool false, zM, zM]) :: frC d true false c0 c1) hp L := by
    refine r_extract rfl rfl rfl (r_eql rfl rfl rfl ?_); refine r_eql rfl rfl rfl (hl_nil ?_); exact hq_of fun a w ha hw => ⟨rfl, ha.sub (by repeat constructor), hw⟩
  refine co_hl (i := 1) h1 rfl ha hw hk hro fun e a1 w1 hq => ?_; obtain ⟨rfl, ha1, hw1⟩ := hq; show Co Try.prog (G (b.at a1 (.code blk4 :: .inBlock 3 :: kC k)) cs) w1 Goal
  let Q2 : Exit → Act → World → Prop := fun e a w => e = .exit 3 ∧ Ok (cC bx) a (frC d true true c0 c1) ∧ WI bx w hp L
  refine co_hc (c := cC bx) (Q := Q2) (L := L) (hp := hp) ?_ ha1 hw1 hk hro fun e a2 w2 hq => ?_
  · refine hc_block ?_
    refine hc_cond_f rfl (hc_cond_t rfl ?_); refine hc_seq (hc_region ?_); refine r_extract rfl rfl rfl (r_extract rfl rfl rfl ?_); refine r_alloc rfl T.al_api_Mark fun g => ?_; refine r_storeS (cs := #[int 0, int 0, str []]) rfl rfl (.refl _) T.sz_api_Mark rfl rfl ?_; refine r_assign rfl rfl (hl_nil (then_n (hc_seq (hc_seq (hc_region ?_))))); refine r_move rfl rfl ?_; refine r_not rfl rfl (hl_nil (then_n ?_)); refine hc_cond_t rfl (hc_seq (hc_region ?_)); refine r_assign rfl rfl (hl_nil (then_n (hc_exit (then_exit (inb_miss rfl ?_))))); exact hq_of fun a w ha hw => ⟨rfl, ha.sub (by repeat constructor), hw.weak (List.sublist_cons_self _ _) fun _ h => h⟩
  obtain ⟨rfl, ha2, hw2⟩ := hq; intro k₁ hk1; refine co_ctl rfl (fun _ => stepG_exit (k' := kC k) (hk1.trans rfl)) ?_; refine co_ctl rfl (fun _ => stepG_inLoop) ?_
  let Q3 : Exit → Act → World → Prop := fun e a w => e = .exit 2 ∧ Ok (cC bx) a [(5, ptrB d)] ∧ WI bx w hp L
  refine co_hc (c := cC bx) (Q := Q3) (L := L) (hp := hp) ?_ ha2 hw2 hk hro fun e a3 w3 hq => ?_
  · refine hc_seq (hc_seq (hc_region ?_))
    refine r_move rfl rfl ?_; refine r_neqChan (p := none) (q := none) rfl Try.underlying96 rfl rfl ?_; refine r_move rfl rfl (g_yes rfl rfl rfl (r_move rfl rfl (g_yes rfl rfl rfl ?_))); refine r_neqChan (p := none) (q := none) rfl Try.underlying96 rfl rfl ?_; refine r_pick_f rfl rfl rfl (hl_nil (then_n ?_)); refine hc_cond_f rfl (hc_exit (then_exit ?_)); exact hq_of fun a w ha hw => ⟨rfl, ha.sub (by repeat constructor), hw⟩
  obtain ⟨rfl, ha3, hw3⟩ := hq; intro k₂ hk2; refine co_ctl rfl (fun _ => stepG_exit (k' := k) (hk2.trans rfl)) ?_; exact hend a3 w3 ha3 hw3
end
noncomputable def rest20 : Code := seqR (seqR (seqR (seqR (Try.f35.body.getD .skip))))
structure DeskR where
  (d m0 m1 q0 q1 ci0 ci1 cl0 cl1 : Nat)
  (li0 li1 ll0 ll1 : List (Ment Int))
  Ls : List Fact
def InF (l : List (Ment Int)) (xs : List Mk) (Ls : List Fact) : Prop := ∀ k, (getM l k = none ∧ insAt xs k = []) ∨ ∃ A cap, getM l k = some (.slice A (insAt xs k).length cap) ∧ Row A (rows (insAt xs k)) ∈ Ls
theorem inF_of {l : List (Ment Int)} {xs : List Mk} {Ls Ls' : List Fact} (h : ∀ k, (getM l k = none ∧ getE (insE xs) k = none) ∨ ∃ A cap ws, getE (insE xs) k = some ws ∧ getM l k = some (.slice A ws.length cap) ∧ Row A (rows ws) ∈ Ls) (hs : ∀ F ∈ Ls, F ∈ Ls') : InF l xs Ls' := fun k => by
  have e := getE_insE xs k
  rcases h k with ⟨h1, h2⟩ | ⟨A, cap, ws, h1, h2, h3⟩
  · rw [h2] at e
    exact .inl ⟨h1, e.symm⟩
  · rw [h1] at e
    have e' : ws = insAt xs k := e; subst e'; exact .inr ⟨A, cap, h2, hs _ h3⟩
abbrev collCon (xs ys : List Mk) (A B : Option Addr) : Con DeskR := { LI := [Row A (rows xs), Row B (rows ys)], inv := fun x => InF x.li0 xs x.Ls ∧ InF x.li1 ys x.Ls ∧ LaM x.ll0 xs ∧ LaM x.ll1 ys, val := fun x => ptrB x.d, LO := fun x => Blk x.d (.cells (dkC x.m0 x.m1 x.q0 x.q1) T.proof_desk (0, 0)) :: Blk x.m0 (mapO int x.li0 x.ci0) :: Blk x.m1 (mapO int x.li1 x.ci1) :: Blk x.q0 (mapO int x.ll0 x.cl0) :: Blk x.q1 (mapO int x.ll1 x.cl1) :: [Facts x.Ls] }
theorem ds_facts {W : World} {o : List Nat} {b : Bx} {w : World} {L : List Fact} {d m0 m1 q0 q1 : Nat} {xs ys : List Mk} {hp : Hq} (hD : DS W o d m0 m1 q0 q1 xs ys hp) (hw : WI b w hp L) :
    ∃ x : DeskR, x.d = d ∧ (collCon xs ys none none).inv x ∧ WI b w [] ((collCon xs ys none none).LO x ++ L) := by
  obtain ⟨li0, ci0, ll0, cl0, og0, li1, ci1, ll1, cl1, og1, h1, h2, h3, h4, h5, h6, h7⟩ := hD; have w1 := hw.perm h5; have w2 : WI b w (og0 ++ (og1 ++ [(d, Obj.cells (dkC m0 m1 q0 q1) T.proof_desk (0, 0)), (m0, mapO int li0 ci0), (m1, mapO int li1 ci1), (q0, mapO int ll0 cl0), (q1, mapO int ll1 cl1)])) L := w1.perm (perm_of fun p => by simp only [dsk, List.countP_append, List.countP_cons, List.countP_nil]; omega); obtain ⟨L0, w3, a1⟩ := h1.rows w2; obtain ⟨L1, w4, a2⟩ := h3.rows w3; have w5 := wi_letgoB (wi_letgoB (wi_letgoB (wi_letgoB (wi_letgoB w4))))
  have w6 := wi_facts (Fs := L1 ++ L0) (fun F hF => .inl (by
    rcases List.mem_append.1 hF with h | h <;> simp [h])) w5
  refine ⟨⟨d, m0, m1, q0, q1, ci0, ci1, cl0, cl1, li0, li1, ll0, ll1, L1 ++ L0⟩, rfl, ⟨inF_of a1 (by simp +contextual), inF_of a2 (by simp +contextual), h2, h4⟩, w6.weak (.refl _) fun F hF => ?_⟩; simp only [List.cons_append, List.nil_append, List.append_assoc, List.mem_cons, List.mem_append] at hF ⊢
  rcases hF with h | h | h | h | h | h | h <;> simp [h]
set_option maxHeartbeats 1000000 in
theorem proof_collect_meets {A B : Option Addr} {cA cB : Nat} (xs ys : List Mk) (hx : xs.length ≤ 1000000) (hy : ys.length ≤ 1000000) : Meets Try.prog F.proof_collect [.slice A xs.length cA, .slice B ys.length cB] (collCon xs ys A B) := by
  refine meets_intro F.proof_collect_f rfl (Nat.le_of_ble_eq_true rfl) fun w0 => ?_; refine hc_co fun a w ha hw b k cs Goal hk hro hc => ?_; have rA := hw.fs (Row A (rows xs)) (by simp); have rB := hw.fs (Row B (rows ys)) (by simp); refine duo (p := ⟨Try.prog, w, [], vM xs ys, nM xs ys, zM, 40 * (xs.length + ys.length) + 60⟩) (B := 150 * (xs.length + ys.length + 2) + 1 + 400) (hp := []) ?_ (fun q hq => by cases hq) (fun q hq => by cases hq); refine folM_of (c := cC ((collCon xs ys A B).entry w0)) (fr := argFr 0 [.slice A xs.length cA, .slice B ys.length cB]) ?_ ha; refine tc_seq (tc_region (tr_assign rfl rfl hk rfl (tc_nil (tc_seq (tc_region ?_))))); refine tr_build [] rfl rfl hk rfl T.bd_proof_desk_ (fun _ _ => by kernel_rfl) ?_; refine tr_box rfl rfl hk rfl fun d hd hnd => ?_; refine tr_assign rfl rfl hk rfl (tc_nil (tc_seq (tc_seq (tc_region ?_)))); refine tr_move (v := int (0 : Nat)) rfl rfl hk rfl ?_; refine tc_nil (tc_block (tc_loop (tc_seq (tc_region ?_)))); refine tr_lss (b' := 2) (a := (0 : Nat)) rfl rfl hk rfl rfl ?_; refine tc_nil (tc_seq (tc_cond true rfl (tc_skip (tc_seq (tc_block (tc_seq (tc_region (tr_move rfl rfl hk rfl (tr_assign rfl rfl hk rfl (tc_nil ?_)))))))))); refine tc_more (m := 150 * (xs.length + ys.length + 2) + 1 + 300 + 1 + 14 + 1) (by omega) ?_; refine maps_T (W := w) (d := d) (j := 0) (dc := #[.map none, .map none, .map none, .map none]) (rest5 := []) (n := 150 * (xs.length + ys.length + 2) + 1 + 300) hk (by omega) rfl (by rfl) (by rfl) (by rfl) (by rfl) (by rfl) (.refl _) (by simp) (fun q hq => by simp at hq; subst hq; exact .inr hd) fun m0 q0 hp1 e1 nd1 in1 => ?_; refine tc_inBlock (tc_region ?_); refine tr_add (1 : Nat) rfl rfl hk rfl rfl (by omega) (by unfold I64; omega) ?_; refine tr_move rfl rfl hk rfl (tc_nil (tc_inLoop (tc_seq (tc_region ?_)))); refine tr_lss (b' := 2) (a := (1 : Nat)) rfl rfl hk rfl rfl ?_; refine tc_nil (tc_seq (tc_cond true rfl (tc_skip (tc_seq (tc_block (tc_seq (tc_region (tr_move rfl rfl hk rfl (tr_assign rfl rfl hk rfl (tc_nil ?_)))))))))); refine tc_more (m := 150 * (xs.length + ys.length + 2) + 1 + 250 + 1 + 14 + 1) (by omega) ?_; refine maps_T (W := w) (d := d) (j := 1) (dc := #[.map (some m0), .map none, .map (some q0), .map none]) (rest5 := [(m0, mapO int [] 0), (q0, mapO int [] 0)]) (n := 150 * (xs.length + ys.length + 2) + 1 + 250) hk (by omega) rfl (by rfl) (by rfl) (by rfl) (by rfl) (by rfl) (by rw [e1]; exact .refl _) nd1 in1 fun m1 q1 hp2 e2 nd2 in2 => ?_; refine tc_inBlock (tc_region ?_); refine tr_add (2 : Nat) rfl rfl hk rfl rfl (by omega) (by unfold I64; omega) ?_; refine tr_move rfl rfl hk rfl (tc_nil (tc_inLoop (tc_seq (tc_region ?_)))); refine tr_lss (b' := 2) (a := (2 : Nat)) rfl rfl hk rfl rfl ?_; refine tc_nil (tc_seq (tc_cond false rfl (tc_exit _ rfl (tc_seq (tc_seq (tc_region ?_)))))); refine tr_move (v := .slice A xs.length cA) rfl rfl hk rfl ?_; refine tc_more (m := 150 * (xs.length + ys.length + 2) + 1 + 60 + 40 + 40 + 1) (by omega) ?_; refine tr_into (hp' := hp2) (vs := [.slice A xs.length cA]) (.inl rfl) hk F.proof_send_cb rfl (fun q hq => hq) fun a1 ha1 => ?_; refine send_T0 (n := 150 * (xs.length + ys.length + 2) + 1 + 60 + 40) rA (fun ad _ _ h => by cases h) rfl (fun i hi => rfl) hx (by omega) fun c0 r0 => t_back rfl rfl rfl ha1 ?_; refine tr_move (v := .slice B ys.length cB) rfl rfl hk rfl ?_; refine tc_more (m := 150 * (xs.length + ys.length + 2) + 1 + 40 + 40 + 1) (by omega) ?_; refine tr_into (hp' := hp2) (vs := [.slice B ys.length cB]) (.inl rfl) hk F.proof_send_cb rfl (fun q hq => hq) fun a2 ha2 => ?_; refine send_T1 (n := 150 * (xs.length + ys.length + 2) + 1 + 40) rB (fun ad _ _ h => by cases h) rfl (fun i hi => rfl) hy (by omega) fun c1 r1 => t_back rfl rfl rfl ha2 ?_; refine tr_assign rfl rfl hk rfl (tr_assign rfl rfl hk rfl (tc_nil (tc_block (tc_loop ?_)))); refine tc_more (m := 150 * (xs.length + ys.length + 2) + 1) (by omega) ?_
  have fin : ∀ w' hp', Sur ⟨Try.prog, w, [], vM xs ys, nM xs ys, zM, 40 * (xs.length + ys.length) + 60⟩ w' → Held hp' w' → DS w [] d m0 m1 q0 q1 xs ys hp' → WI ((collCon xs ys A B).entry w0) w' hp' (collCon xs ys A B).LI := fun w' hp' hS hH hD => by
    obtain ⟨_, _, _, _, _, _, _, _, _, _, _, _, _, _, _, nd, inn⟩ := hD; have := wi_out (p := ⟨Try.prog, w, [], vM xs ys, nM xs ys, zM, 40 * (xs.length + ys.length) + 60⟩) (hp := []) (rest := []) hw (.refl _) rfl hS hH nd inn
    rwa [List.append_nil] at this
  have out : ∀ hp', DS w [] d m0 m1 q0 q1 xs ys hp' → ∀ a w, Ok (cC ((collCon xs ys A B).entry w0)) a [(5, ptrB d)] → WI ((collCon xs ys A B).entry w0) w hp' (collCon xs ys A B).LI → Co Try.prog (G (b.at a (.code (rest20 : Code) :: k)) cs) w Goal := fun hp' hD a w ha hw => by
    obtain ⟨x, rfl, hi, hw2⟩ := ds_facts hD hw; refine co_hc (c := cC ((collCon xs ys A B).entry w0)) (fr := [(5, ptrB x.d)]) ?_ ha hw2 hk hro hc; refine hc_seq (hc_region ?_); refine r_move rfl rfl ?_; refine r_assign rfl rfl (hl_nil (then_n (hc_ret ?_))); exact ret1 x rfl rfl rfl hi (List.nil_sublist _) (LSub.of_mem fun F hF => List.mem_append.2 (.inl hF))
  refine tc_sub (fr' := frC d false false c0 c1) (by repeat constructor) (loop_T (bx := (collCon xs ys A B).entry w0) hk hx hy (fun w' hp' hS hH hD a' ha' => tail_0 hk hro ha' (fin w' hp' hS hH hD) (out hp' hD)) (fun w' hp' hS hH hD a' ha' => tail_1 hk hro ha' (fin w' hp' hS hH hD) (out hp' hD)) (xs.length + ys.length + 2) 0 0 false false hp2 (by omega) (by omega) (by simp) (fun h => by cases h) (fun h => by cases h) (fun h => by cases h.1) ?_); have e3 : hp2 = (d, Obj.cells (dkC m0 m1 q0 q1) T.proof_desk (0, 0)) :: ([(m1, mapO int [] 0)] ++ [(q1, mapO int [] 0)] ++ [(m0, mapO int [] 0), (q0, mapO int [] 0)]) := e2; rw [e3]; rw [e3] at nd2 in2; exact ⟨[], 0, [], 0, [], [], 0, [], 0, [], .nil, LaM.nil, .nil, LaM.nil, perm_of fun p => by simp only [dsk, List.countP_append, List.countP_cons, List.countP_nil]; omega, nd2, in2⟩
end Go.Proofs.Ytpfbbggmcbhboaa
end
section
namespace Go.Proofs.Ytpfbbggmcbhboaa
open Go Go.W
set_option maxRecDepth 20000
attribute [local irreducible] HL HC HQ HB Row Rows2 Blk Facts
theorem take_succ_getD {α : Type} [Inhabited α] (l : List α) (k : Nat) (h : k < l.length) : l.take (k + 1) = l.take k ++ [l.getD k default] := by
  rw [List.take_succ_eq_append_getElem h]
  simp [List.getD_eq_getElem?_getD, h]
theorem eq_of_takes {α : Type} {a b : List α} {k : Nat} (h : a.take k = b.take k) (ha : a.length ≤ k) (hb : b.length ≤ k) : a = b := by
  rwa [List.take_of_length_le ha, List.take_of_length_le hb] at h
theorem ne_at {α : Type} [Inhabited α] {a b : List α} {k : Nat} (h : ¬ a.getD k default = b.getD k default) : ¬ a = b := fun e => h (by rw [e])
theorem kit_EqStrings_meets {A B : Option Addr} {ca cb : Nat} (a b : List Str) (ha : a.length ≤ 9223372036854775806) :
    Meets Try.prog F.kit_EqStrings [.slice A a.length ca, .slice B b.length cb] { LI := [Row A (rows a), Row B (rows b)], val := fun _ : Unit => .bool (decide (a = b)) } := by
 refine meets_intro F.kit_EqStrings_f rfl (Nat.le_of_ble_eq_true rfl) fun w0 => ?_; refine hc_seq (hc_region (r_assign rfl rfl (hl_nil (then_n (hc_seq (hc_seq (hc_region (r_move rfl rfl ?_)))))))); refine r_len_sl rfl T.u_strs rfl ?_; refine r_move rfl rfl ?_; refine r_len_sl rfl T.u_strs rfl ?_; refine r_neq rfl rfl rfl (hl_nil (then_n ?_))
 first | refine c_dec rfl (fun hb1 => ?_) (fun hb1 => ?_) | refine hc_cond rfl (fun hb1 => ?_) (fun hb1 => ?_)
 ·have hb1' := hb1; try simp at hb1'
  have hb1 : ¬ a = b := fun e => by subst e; exact hb1 rfl
  refine hc_seq (hc_region (r_assign rfl rfl (hl_nil (then_n (hc_ret (then_ret ?_)))))); exact ret1 () rfl (by rw [decide_eq_false hb1]; rfl) rfl trivial (.refl _) trivial
 ·have hb1' := hb1; try simp at hb1'
  have hb1 : a.length = b.length := by omega
  refine hc_skip (then_n (hc_seq (hc_seq (hc_region (r_assign rfl rfl (hl_nil (then_n (hc_block ?_)))))))); refine hc_loop (β := Nat) ⟨fun k => k ≤ a.length ∧ a.take k = b.take k, fun k => [(0, .slice A a.length ca), (1, .slice B b.length cb), (5, int k)], fun _ => [], fun _ => [Row A (rows a), Row B (rows b)]⟩ (fun k => a.length - k) 0 ⟨Nat.zero_le _, rfl⟩ ⟨rfl, rfl, rfl, trivial⟩ (.refl _) ⟨m0, m1, trivial⟩ fun k hk => ?_; obtain ⟨hk, ht⟩ := hk; refine hc_seq (hc_seq (hc_region (r_move rfl rfl (r_move rfl rfl ?_)))); refine r_len_sl rfl T.u_strs rfl ?_; refine r_lss rfl rfl rfl (hl_nil (then_n ?_))
  first | refine c_dec rfl (fun hb2 => ?_) (fun hb2 => ?_) | refine hc_cond rfl (fun hb2 => ?_) (fun hb2 => ?_)
  ·have hb2' := hb2; try simp at hb2'
   have hb2 : k < a.length := by omega
   refine hc_skip (then_n (hc_seq (hc_block (hc_seq ?_)))); refine hc_draw 8 mixed (by decide) (by decide) rfl rfl ?_; refine hb_ex _ rfl rfl rfl (fun w1 => r_move rfl rfl (hl_nil (qe_done rfl))) ?_; refine hb_ex _ rfl rfl rfl (fun w1 => r_move rfl rfl (hl_nil (qe_done rfl))) ?_; refine hb_ex _ rfl rfl rfl (fun w1 => r_elem (α := Str) _ _ rfl T.u_strs T.sz_string rfl rfl rfl mB rfl (by omega) (by decide) (hl_nil (qe_done rfl))) ?_; refine hb_ex _ rfl rfl rfl (fun w1 => r_load rfl T.cell_string rfl (cell_row mB (rows_get0 (by omega) rfl)) (hl_nil (qe_done rfl))) ?_; refine hb_ex _ rfl rfl rfl (fun w1 => r_move rfl rfl (hl_nil (qe_done rfl))) ?_; refine hb_ex _ rfl rfl rfl (fun w1 => r_move rfl rfl (hl_nil (qe_done rfl))) ?_; refine hb_ex _ rfl rfl rfl (fun w1 => r_elem (α := Str) _ _ rfl T.u_strs T.sz_string rfl rfl rfl mB rfl (by omega) (by decide) (hl_nil (qe_done rfl))) ?_; refine hb_ex _ rfl rfl rfl (fun w1 => r_load rfl T.cell_string rfl (cell_row mB (rows_get0 (by omega) rfl)) (hl_nil (qe_done rfl))) ?_; refine hb_nil ⟨rfl, ?_⟩; refine r_sneq rfl rfl rfl (hl_nil (then_n ?_))
   first | refine c_dec rfl (fun hb3 => ?_) (fun hb3 => ?_) | refine hc_cond rfl (fun hb3 => ?_) (fun hb3 => ?_)
   ·have hb3' := hb3; try simp at hb3'
    have hb3 : ¬ a = b := ne_at (a := a) (b := b) (k := k) hb3; refine hc_seq (hc_region (r_assign rfl rfl (hl_nil (then_n (hc_ret (inb_ret (then_ret (then_ret (inb_ret (then_ret ?_)))))))))); exact ret1 () rfl (by rw [decide_eq_false hb3]; rfl) rfl trivial (.refl _) trivial
   ·have hb3' := hb3; try simp at hb3'
    have hb3 : a.getD k default = b.getD k default := Classical.not_not.1 hb3; refine hc_skip (inb_n (then_n (hc_region (r_move rfl rfl ?_)))); refine r_add _ rfl rfl rfl rfl (by unfold I64; omega) ?_; refine r_assign rfl rfl (hl_nil ?_); exact again _ (k + 1) ⟨by omega, by rw [take_succ_getD a k hb2, take_succ_getD b k (by omega), ht, hb3]⟩ (by first | omega | (simp only; omega)) ⟨rfl, rfl, rfl, trivial⟩ (.refl _) ⟨m0, m1, trivial⟩
  ·have hb2' := hb2; try simp at hb2'
   have hb2 : k = a.length := by omega
   refine hc_exit (then_exit (then_exit (inb_hit (then_n (hc_seq (hc_region (r_assign rfl rfl (hl_nil (then_n (hc_ret ?_)))))))))); exact ret1 () rfl (by rw [decide_eq_true (eq_of_takes ht (by omega) (by omega))]; rfl) rfl trivial (.refl _) trivial
theorem kit_EqInts_meets {A B : Option Addr} {ca cb : Nat} (a b : List Int) (ha : a.length ≤ 9223372036854775806) :
    Meets Try.prog F.kit_EqInts [.slice A a.length ca, .slice B b.length cb] { LI := [Row A (rows a), Row B (rows b)], val := fun _ : Unit => .bool (decide (a = b)) } := by
 refine meets_intro F.kit_EqInts_f rfl (Nat.le_of_ble_eq_true rfl) fun w0 => ?_; refine hc_seq (hc_region (r_assign rfl rfl (hl_nil (then_n (hc_seq (hc_seq (hc_region (r_move rfl rfl ?_)))))))); refine r_len_sl rfl T.u_ints rfl ?_; refine r_move rfl rfl ?_; refine r_len_sl rfl T.u_ints rfl ?_; refine r_neq rfl rfl rfl (hl_nil (then_n ?_))
 first | refine c_dec rfl (fun hb1 => ?_) (fun hb1 => ?_) | refine hc_cond rfl (fun hb1 => ?_) (fun hb1 => ?_)
 ·have hb1' := hb1; try simp at hb1'
  have hb1 : ¬ a = b := fun e => by subst e; exact hb1 rfl
  refine hc_seq (hc_region (r_assign rfl rfl (hl_nil (then_n (hc_ret (then_ret ?_)))))); exact ret1 () rfl (by rw [decide_eq_false hb1]; rfl) rfl trivial (.refl _) trivial
 ·have hb1' := hb1; try simp at hb1'
  have hb1 : a.length = b.length := by omega
  refine hc_skip (then_n (hc_seq (hc_seq (hc_region (r_assign rfl rfl (hl_nil (then_n (hc_block ?_)))))))); refine hc_loop (β := Nat) ⟨fun k => k ≤ a.length ∧ a.take k = b.take k, fun k => [(0, .slice A a.length ca), (1, .slice B b.length cb), (5, int k)], fun _ => [], fun _ => [Row A (rows a), Row B (rows b)]⟩ (fun k => a.length - k) 0 ⟨Nat.zero_le _, rfl⟩ ⟨rfl, rfl, rfl, trivial⟩ (.refl _) ⟨m0, m1, trivial⟩ fun k hk => ?_; obtain ⟨hk, ht⟩ := hk; refine hc_seq (hc_seq (hc_region (r_move rfl rfl (r_move rfl rfl ?_)))); refine r_len_sl rfl T.u_ints rfl ?_; refine r_lss rfl rfl rfl (hl_nil (then_n ?_))
  first | refine c_dec rfl (fun hb2 => ?_) (fun hb2 => ?_) | refine hc_cond rfl (fun hb2 => ?_) (fun hb2 => ?_)
  ·have hb2' := hb2; try simp at hb2'
   have hb2 : k < a.length := by omega
   refine hc_skip (then_n (hc_seq (hc_block (hc_seq ?_)))); refine hc_draw 8 mixed (by decide) (by decide) rfl rfl ?_; refine hb_ex _ rfl rfl rfl (fun w1 => r_move rfl rfl (hl_nil (qe_done rfl))) ?_; refine hb_ex _ rfl rfl rfl (fun w1 => r_move rfl rfl (hl_nil (qe_done rfl))) ?_; refine hb_ex _ rfl rfl rfl (fun w1 => r_elem (α := Int) _ _ rfl T.u_ints T.sz_int rfl rfl rfl mB rfl (by omega) (by decide) (hl_nil (qe_done rfl))) ?_; refine hb_ex _ rfl rfl rfl (fun w1 => r_load rfl T.cell_int rfl (cell_row mB (rows_get0 (by omega) rfl)) (hl_nil (qe_done rfl))) ?_; refine hb_ex _ rfl rfl rfl (fun w1 => r_move rfl rfl (hl_nil (qe_done rfl))) ?_; refine hb_ex _ rfl rfl rfl (fun w1 => r_move rfl rfl (hl_nil (qe_done rfl))) ?_; refine hb_ex _ rfl rfl rfl (fun w1 => r_elem (α := Int) _ _ rfl T.u_ints T.sz_int rfl rfl rfl mB rfl (by omega) (by decide) (hl_nil (qe_done rfl))) ?_; refine hb_ex _ rfl rfl rfl (fun w1 => r_load rfl T.cell_int rfl (cell_row mB (rows_get0 (by omega) rfl)) (hl_nil (qe_done rfl))) ?_; refine hb_nil ⟨rfl, ?_⟩; refine r_neq rfl rfl rfl (hl_nil (then_n ?_))
   first | refine c_dec rfl (fun hb3 => ?_) (fun hb3 => ?_) | refine hc_cond rfl (fun hb3 => ?_) (fun hb3 => ?_)
   ·have hb3' := hb3; try simp at hb3'
    have hb3 : ¬ a = b := ne_at (a := a) (b := b) (k := k) hb3; refine hc_seq (hc_region (r_assign rfl rfl (hl_nil (then_n (hc_ret (inb_ret (then_ret (then_ret (inb_ret (then_ret ?_)))))))))); exact ret1 () rfl (by rw [decide_eq_false hb3]; rfl) rfl trivial (.refl _) trivial
   ·have hb3' := hb3; try simp at hb3'
    have hb3 : a.getD k default = b.getD k default := Classical.not_not.1 hb3; refine hc_skip (inb_n (then_n (hc_region (r_move rfl rfl ?_)))); refine r_add _ rfl rfl rfl rfl (by unfold I64; omega) ?_; refine r_assign rfl rfl (hl_nil ?_); exact again _ (k + 1) ⟨by omega, by rw [take_succ_getD a k hb2, take_succ_getD b k (by omega), ht, hb3]⟩ (by first | omega | (simp only; omega)) ⟨rfl, rfl, rfl, trivial⟩ (.refl _) ⟨m0, m1, trivial⟩
  ·have hb2' := hb2; try simp at hb2'
   have hb2 : k = a.length := by omega
   refine hc_exit (then_exit (then_exit (inb_hit (then_n (hc_seq (hc_region (r_assign rfl rfl (hl_nil (then_n (hc_ret ?_)))))))))); exact ret1 () rfl (by rw [decide_eq_true (eq_of_takes ht (by omega) (by omega))]; rfl) rfl trivial (.refl _) trivial
theorem kit_EqMarks_meets {A B : Option Addr} {ca cb : Nat} (a b : List Mk) (ha : a.length ≤ 9223372036854775806) :
    Meets Try.prog F.kit_EqMarks [.slice A a.length ca, .slice B b.length cb] { LI := [Row A (rows a), Row B (rows b)], val := fun _ : Unit => .bool (decide (a = b)) } := by
 refine meets_intro F.kit_EqMarks_f rfl (Nat.le_of_ble_eq_true rfl) fun w0 => ?_; refine hc_seq (hc_region (r_assign rfl rfl (hl_nil (then_n (hc_seq (hc_seq (hc_region (r_move rfl rfl ?_)))))))); refine r_len_sl rfl T.u_L_api_Mark rfl ?_; refine r_move rfl rfl ?_; refine r_len_sl rfl T.u_L_api_Mark rfl ?_; refine r_neq rfl rfl rfl (hl_nil (then_n ?_))
 first | refine c_dec rfl (fun hb1 => ?_) (fun hb1 => ?_) | refine hc_cond rfl (fun hb1 => ?_) (fun hb1 => ?_)
 ·have hb1' := hb1; try simp at hb1'
  have hb1 : ¬ a = b := fun e => by subst e; exact hb1 rfl
  refine hc_seq (hc_region (r_assign rfl rfl (hl_nil (then_n (hc_ret (then_ret ?_)))))); exact ret1 () rfl (by rw [decide_eq_false hb1]; rfl) rfl trivial (.refl _) trivial
 ·have hb1' := hb1; try simp at hb1'
  have hb1 : a.length = b.length := by omega
  refine hc_skip (then_n (hc_seq (hc_seq (hc_region (r_assign rfl rfl (hl_nil (then_n (hc_block ?_)))))))); refine hc_loop (β := Nat) ⟨fun k => k ≤ a.length ∧ a.take k = b.take k, fun k => [(0, .slice A a.length ca), (1, .slice B b.length cb), (5, int k)], fun _ => [], fun _ => [Row A (rows a), Row B (rows b)]⟩ (fun k => a.length - k) 0 ⟨Nat.zero_le _, rfl⟩ ⟨rfl, rfl, rfl, trivial⟩ (.refl _) ⟨m0, m1, trivial⟩ fun k hk => ?_; obtain ⟨hk, ht⟩ := hk; refine hc_seq (hc_seq (hc_region (r_move rfl rfl (r_move rfl rfl ?_)))); refine r_len_sl rfl T.u_L_api_Mark rfl ?_; refine r_lss rfl rfl rfl (hl_nil (then_n ?_))
  first | refine c_dec rfl (fun hb2 => ?_) (fun hb2 => ?_) | refine hc_cond rfl (fun hb2 => ?_) (fun hb2 => ?_)
  ·have hb2' := hb2; try simp at hb2'
   have hb2 : k < a.length := by omega
   refine hc_skip (then_n (hc_seq (hc_block (hc_seq ?_)))); refine hc_draw 8 mixed (by decide) (by decide) rfl rfl ?_; refine hb_ex _ rfl rfl rfl (fun w1 => r_move rfl rfl (hl_nil (qe_done rfl))) ?_; refine hb_ex _ rfl rfl rfl (fun w1 => r_move rfl rfl (hl_nil (qe_done rfl))) ?_; refine hb_ex _ rfl rfl rfl (fun w1 => r_elem (α := Mk) _ _ rfl T.u_L_api_Mark T.sz_api_Mark rfl rfl rfl mB rfl (by omega) (by decide) (hl_nil (qe_done rfl))) ?_; refine hb_ex _ rfl rfl rfl (fun w1 => r_loadS rfl T.row_api_Mark T.sz_api_Mark rfl rfl (cells_row mB (rows_all (by omega))) (hl_nil (qe_done rfl))) ?_; refine hb_ex _ rfl rfl rfl (fun w1 => r_move rfl rfl (hl_nil (qe_done rfl))) ?_; refine hb_ex _ rfl rfl rfl (fun w1 => r_move rfl rfl (hl_nil (qe_done rfl))) ?_; refine hb_ex _ rfl rfl rfl (fun w1 => r_elem (α := Mk) _ _ rfl T.u_L_api_Mark T.sz_api_Mark rfl rfl rfl mB rfl (by omega) (by decide) (hl_nil (qe_done rfl))) ?_; refine hb_ex _ rfl rfl rfl (fun w1 => r_loadS rfl T.row_api_Mark T.sz_api_Mark rfl rfl (cells_row mB (rows_all (by omega))) (hl_nil (qe_done rfl))) ?_; refine hb_nil ⟨rfl, ?_⟩; refine r_bin _ rfl rfl rfl (fun _ => T.eqg_api_Mark ..) (fun _ => T.neq_api_Mark ..) ?_; refine hl_nil (then_n ?_)
   first | refine c_dec rfl (fun hb3 => ?_) (fun hb3 => ?_) | refine hc_cond rfl (fun hb3 => ?_) (fun hb3 => ?_)
   ·have hb3' := hb3; try simp at hb3'
    have hb3 : ¬ a = b := ne_at (a := a) (b := b) (k := k) hb3; refine hc_seq (hc_region (r_assign rfl rfl (hl_nil (then_n (hc_ret (inb_ret (then_ret (then_ret (inb_ret (then_ret ?_)))))))))); exact ret1 () rfl (by rw [decide_eq_false hb3]; rfl) rfl trivial (.refl _) trivial
   ·have hb3' := hb3; try simp at hb3'
    have hb3 : a.getD k default = b.getD k default := Classical.not_not.1 hb3; refine hc_skip (inb_n (then_n (hc_region (r_move rfl rfl ?_)))); refine r_add _ rfl rfl rfl rfl (by unfold I64; omega) ?_; refine r_assign rfl rfl (hl_nil ?_); exact again _ (k + 1) ⟨by omega, by rw [take_succ_getD a k hb2, take_succ_getD b k (by omega), ht, hb3]⟩ (by first | omega | (simp only; omega)) ⟨rfl, rfl, rfl, trivial⟩ (.refl _) ⟨m0, m1, trivial⟩
  ·have hb2' := hb2; try simp at hb2'
   have hb2 : k = a.length := by omega
   refine hc_exit (then_exit (then_exit (inb_hit (then_n (hc_seq (hc_region (r_assign rfl rfl (hl_nil (then_n (hc_ret ?_)))))))))); exact ret1 () rfl (by rw [decide_eq_true (eq_of_takes ht (by omega) (by omega))]; rfl) rfl trivial (.refl _) trivial
abbrev OutC := Option Addr × Nat
def outSl {α : Type} [El α] (l : List α) : Con OutC := { inv := fun x => l.length ≤ x.2, val := fun x => .slice x.1 l.length x.2, LO := fun x => [Row x.1 (rows l)] }
end Go.Proofs.Ytpfbbggmcbhboaa
end
