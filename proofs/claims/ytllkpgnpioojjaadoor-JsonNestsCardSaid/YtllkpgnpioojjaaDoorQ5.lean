import Derived.Test.YtllkpgnpioojjaaDoorQ4
namespace Go.Proofs.YtllkpgnpioojjaaDoor
open Go.Ab Go.Tb
set_option maxRecDepth 10000
attribute [local irreducible] W WO Pu QS QB QL QF QV QV1 CH QE
theorem jvc_obj (keys : List ByteArray) (acc : List JV) : (JV.mk 6 0 (B #[]) keys acc).c = [ci 6, ci 0, cs (B #[]), .sl (keys.map sc), .sl (acc.map JV.c)] := by simp [JV.c, JV.kc_eq, JV.op, JV.n, JV.s, JV.keys, JV.kids]
theorem object_step (s : ByteArray) (K : Nat) (hs : s.size ≤ 1000000000) (hV : ValD s K) (level : Int) (i0 : Nat) (hi : i0 ≤ s.size) (hl1 : 1 ≤ level) (hl2 : level ≤ 16) (hK : 3 * (s.size - i0) + 3 ≤ K) :
  DoesE Tryd.prog 53 [.ptr 0 0, .d (.v (.int .i64 level))] [pbox s i0] 0 (outP 57 s (fun v : JV => .ag v.c) (objJ (bys s) K level i0)) := by
 have hle : skipB (bys s) i0 ≤ s.size := by have := skipB_le (l := bys s) (i := i0) (by rw [bytes_len]; exact hi); rwa [bytes_len] at this
 have hge := skipB_ge (bys s) i0
 obtain ⟨K', rfl⟩ : ∃ K', K = K' + 1 := ⟨K - 1, by omega⟩
 have hv := objJ_eq (bys s) K' level i0
 generalize hA : objJ (bys s) (K' + 1) level i0 = A at hv ⊢
 clear hA
 refine DoesE.of_V tab (n := 61) (rs := [.cell 4 26]) Tryd.func53 (by kernel_rfl) rfl Tryd.ntmps53 Tryd.results53 rfl (outP_len ..) fun C hC hG => ?_
 refine W.seq (W.region ?_)
 refine allocR tab rfl rfl rfl ?_
 refine WO.nil (qs (W.seq (W.region ?_)))
 refine pu (build tab rfl rfl rfl rfl) rfl ?_
 refine allocR tab rfl rfl rfl ?_
 refine storeR tab rfl rfl rfl rfl rfl rfl rfl rfl ?_
 refine WO.nil (qs ?_)
 iterate 2 refine W.seq ?_
 refine W.region ?_
 refine pE rfl ?_
 refine callB [0] [] rfl rfl rfl rfl rfl ((peek_fn s i0 hi hs)) rfl rfl (by rfl) (by rfl) rfl rfl rfl rfl ?_
 refine pE rfl ?_
 refine WO.nil (qs ?_)
 refine condK rfl (fun h13 => ?_) (fun h13 => ?_)
 ·
  rw [if_pos (eq_of (d := 125) h13)] at hv
  have hjs : skipB (bys s) i0 < s.size := by
   have := here_lt (l := bys s) (i := skipB (bys s) i0) (by rw [eq_of (d := 125) h13]; decide)
   rwa [bytes_len] at this
  refine W.seq (W.region ?_)
  iterate 3 refine pE rfl ?_
  first | refine pE rfl ?_ | refine pR rfl rfl rfl rfl rfl ?_ | refine pB rfl rfl rfl rfl rfl rfl ?_
  refine pu (puI (ev tab rfl) (y := ((skipB (bys s) i0 + 1 : Nat) : Int)) (wrap64 (by omega))) rfl ?_
  iterate 2 refine pE rfl ?_
  refine storeR tab rfl rfl rfl rfl rfl rfl rfl rfl ?_
  refine WO.nil (qs (W.seq (W.region ?_)))
  first | refine pE rfl ?_ | refine pR rfl rfl rfl rfl rfl ?_ | refine pB rfl rfl rfl rfl rfl rfl ?_
  refine storeR tab rfl rfl rfl rfl rfl rfl rfl rfl ?_
  refine WO.nil (qs ?_)
  try refine nilBox 1 3 rfl rfl rfl ?_
  try refine nilBox 1 4 rfl rfl rfl ?_
  refine W.ret (qsRet ?_)
  refine qxRet (outP_ok (hv)) ?_
  refine QB1.end tab [] trivial rfl rfl rfl rfl ?_ ?_
  · exact ⟨rfl, trivial⟩
  rfl
 ·
  rw [if_neg (ne_of (d := 125) h13)] at hv
  refine W.skip (qs (W.seq (W.region ?_)))
  refine mkMap rfl ?_
  refine pE rfl ?_
  refine WO.nil (qs ?_)
  iterate 2 refine W.seq ?_
  refine W.region ?_
  refine pE rfl ?_
  refine WO.nil (qs (W.block ?_))
  refine ownNilBox 2 3 rfl rfl rfl ?_
  refine ownNilBox 2 4 rfl rfl rfl ?_
  refine W.loopR (ι := {x : Nat × Nat × List ByteArray × List JV × Bool // match x with | (k, j, keys, acc, on) => k ≤ K' ∧ keys.Nodup ∧ (on = true → j ≤ s.size ∧ keys.length ≤ j ∧ acc.length ≤ j ∧ 3 * (s.size - j) + 2 ≤ k ∧ objGo (bys s) k level j keys acc = A) ∧ (on = false → A = .ok (.mk 6 0 (B #[]) keys acc) j)})
   (fun x => match x.1 with | (k, j, keys, acc, on) => [(0, .ptr 0 0), (1, .d (.v (.int .i64 level))), (4, .ptr 1 0), (5, .ptr 2 0), (6, .mp 3 (mes sk bv (seenM keys))), (7, .d (.v (.bool on)))]) []
   (fun x => match x.1 with | (k, j, keys, acc, on) => [(0, pbox s j), (2, [.d (ci 6), .d (ci 0), .d (cs (B #[])), .own 4 (keys.map sc), .own 5 (acc.map JV.c)])]) [(1, _)] [5, 4, 3] 6 (fun x => match x.1 with | (k, j, keys, acc, on) => k)
   [0, 1, 2, 4, 5, 6] ⟨(K', skipB (bys s) i0, [], [], true), ?_⟩ rfl ?_ trivial ?_ ⟨rfl, rfl, trivial⟩ rfl ?_
  · exact ⟨Nat.le_refl _, List.nodup_nil, fun _ => ⟨hle, Nat.zero_le _, Nat.zero_le _, by omega, hv.symm⟩, fun h => by cases h⟩
  · repeat' first | exact trivial | refine ⟨rfl, ?_⟩ | refine ⟨congrArg some (renL_boxE _ _ _), ?_⟩ | refine ⟨step_nat (by assumption) (by assumption), ?_⟩
  · repeat' first | exact trivial | refine ⟨rfl, ?_⟩ | refine ⟨congrArg some (renL_boxE _ _ _), ?_⟩ | refine ⟨step_nat (by assumption) (by assumption), ?_⟩
  rintro ⟨⟨k, j, keys, acc, on⟩, hkK, hn, hT, hF⟩
  show W _ _ _ _ _ ⟨[(0, .ptr 0 0), (1, .d (.v (.int .i64 level))), (4, .ptr 1 0), (5, .ptr 2 0), (6, .mp 3 (mes sk bv (seenM keys))), (7, .d (.v (.bool on)))], [(0, pbox s j), (2, [.d (ci 6), .d (ci 0), .d (cs (B #[])), .own 4 (keys.map sc), .own 5 (acc.map JV.c)]), (1, _)], [5, 4, 3], 6⟩
  iterate 2 refine W.seq ?_
  refine W.region ?_
  refine pE rfl ?_
  refine WO.nil (qs ?_)
  refine condK rfl (fun h23 => ?_) (fun h23 => ?_)
  ·
   obtain ⟨hj, hka, ha, hk, hI⟩ := hT h23
   obtain ⟨k', rfl⟩ : ∃ k', k = k' + 1 := ⟨k - 1, by omega⟩
   rw [objGo_eq] at hI
   have hle1 : skipB (bys s) j ≤ s.size := by have := skipB_le (l := bys s) (i := j) (by rw [bytes_len]; exact hj); rwa [bytes_len] at this
   have hge1 := skipB_ge (bys s) j
   have hbt := textJ_bd (l := bys s) (i := skipB (bys s) j) (by rw [bytes_len]; exact hle1)
   refine W.skip (qs (W.seq (W.block (W.seq (W.region ?_)))))
   refine pE rfl ?_
   refine callB [0] [] rfl rfl rfl rfl rfl ((peek_fn s j hj hs)) rfl rfl (by rfl) (by rfl) rfl rfl rfl rfl ?_
   refine WO.nil (qs (W.seq (W.region ?_)))
   iterate 3 refine pE rfl ?_
   first | refine pE rfl ?_ | refine pR rfl rfl rfl rfl rfl ?_ | refine pB rfl rfl rfl rfl rfl rfl ?_
   refine pE rfl ?_
   refine WO.nil (qs (W.seq (W.region ?_)))
   refine pE rfl ?_
   cases hc33 : textJ (bys s) (skipB (bys s) j) with
   | no a33 w33 =>
    refine callP [0] [] rfl rfl rfl rfl rfl ((ptext_fn s (skipB (bys s) j) hle1 hs).pan (outP_no hc33)) rfl rfl (by rfl) (fun st' => ?_)
    repeat' first | refine qsPan ?_ | refine qbPan ?_ | refine qlPan ?_ | refine qcPan ?_
    refine qxPan (outP_no (by rw [← hI, hc33]))
   | ok y33 i33 =>
    refine callB [0] [] rfl rfl rfl rfl rfl ((ptext_fn s (skipB (bys s) j) hle1 hs).ret (outP_ok hc33)) rfl rfl (by rfl) (by rfl) rfl rfl rfl rfl ?_
    rw [hc33] at hI hbt
    dsimp only at hI
    have hb1 : skipB (bys s) j < i33 := hbt.1
    have hb2 : i33 ≤ s.size := by have := hbt.2; rwa [bytes_len] at this
    have hle2 : skipB (bys s) i33 ≤ s.size := by have := skipB_le (l := bys s) (i := i33) (by rw [bytes_len]; exact hb2); rwa [bytes_len] at this
    have hge2 := skipB_ge (bys s) i33
    refine pE rfl ?_
    refine WO.nil (qs ?_)
    iterate 2 refine W.seq ?_
    refine W.region ?_
    iterate 2 refine pE rfl ?_
    refine pu (mapGet (kf := sk) (vf := bv) (l := seenM keys) (a := bytesOf y33) (z := false) (zx := .bool false) tab rfl rfl rfl rfl rfl (keyStr (tab.u_str rfl rfl)) rfl rfl rfl (fun w pv => .v _ rfl) (by rw [seenM_keys]; exact hn) (congrArg bv (seenM_get hn (bytesOf y33)))) rfl ?_
    refine WO.nil (qs ?_)
    refine condK rfl (fun h36 => ?_) (fun h36 => ?_)
    ·
     rw [if_pos h36] at hI
     refine W.region ?_
     refine pE rfl ?_
     refine callP [] [] rfl rfl rfl rfl rfl (fails_fn (skipB (bys s) j) 4) rfl rfl (by rfl) (fun st' => ?_)
     repeat' first | refine qsPan ?_ | refine qbPan ?_ | refine qlPan ?_ | refine qcPan ?_
     exact qxPan (outP_no hI.symm)
    ·
     rw [if_neg (by rw [h36]; decide)] at hI
     have hn2 := nodup_snoc hn h36
     refine W.skip (qs (W.seq (W.region ?_)))
     iterate 2 refine pE rfl ?_
     refine mapPut (kf := sk) (vf := bv) (l := seenM keys) (a := bytesOf y33) (y := true) tab 6 rfl rfl rfl rfl rfl rfl rfl (keyStr (tab.u_str rfl rfl)) rfl rfl (by rw [seenM_keys]; exact hn) (congrArg (mes sk bv) (seenM_put h36)) rfl ?_
     refine WO.nil (qs (W.seq (W.region ?_)))
     refine pE rfl ?_
     refine callB [0] [] rfl rfl rfl rfl rfl ((peek_fn s i33 hb2 hs)) rfl rfl (by rfl) (by rfl) rfl rfl rfl rfl ?_
     refine WO.nil (qs (W.seq (W.region ?_)))
     refine pE rfl ?_
     cases hc44 : takeJ (bys s) 58 (skipB (bys s) i33) with
     | no a44 w44 =>
      refine callP [0] [] rfl rfl rfl rfl rfl ((take_fn s 58 (skipB (bys s) i33) hs).pan (outP_no hc44)) rfl rfl (by rfl) (fun st' => ?_)
      repeat' first | refine qsPan ?_ | refine qbPan ?_ | refine qlPan ?_ | refine qcPan ?_
      refine qxPan (outP_no (by rw [← hI, hc44]))
     | ok y44 i44 =>
      refine callB [0] [] rfl rfl rfl rfl rfl ((take_fn s 58 (skipB (bys s) i33) hs).ret (outP_ok hc44)) rfl rfl (by rfl) (by rfl) rfl rfl rfl rfl ?_
      rw [hc44] at hI
      dsimp only at hI
      obtain ⟨e44, hlt44⟩ := takeJ_at hc44
      rw [bytes_len] at hlt44
      have hb := (allBd (bys s) k').v (level + 1) i44 (by rw [bytes_len]; omega)
      refine WO.nil (qs ?_)
      cases hc55 : valJ (bys s) k' (level + 1) i44 with
      | no a55 w55 =>
       refine' W.regionP2 tab (faultV 57 a55 w55) [11, 8, 5] 12 _ [4, 10, 11, 12] 14 (by kernel_rfl) (by kernel_rfl) rfl rfl (fun st => ?hQ_1) ?hL_1
       case hQ_1 =>
        repeat' first | refine qsPan ?_ | refine qbPan ?_ | refine qlPan ?_ | refine qcPan ?_
        refine qxPan (outP_no (by rw [← hI, hc55]))
       case' hL_1 => skip
       refine' cdPu' (ev tab rfl) ?p_2 rfl rfl rfl (by kernel_rfl) rfl ?h_2
       case' h_2 => skip
       first | (refine' cdPu' (ev tab rfl) ?p_3 rfl rfl rfl (by kernel_rfl) rfl ?h_3) | (refine' cdPu' (loadRow tab rfl rfl rfl rfl) ?p_3 rfl rfl rfl (by kernel_rfl) rfl ?h_3) | (refine' cdPu' (loadBox tab rfl rfl rfl rfl rfl) ?p_3 rfl rfl rfl (by kernel_rfl) rfl ?h_3)
       case' h_3 => skip
       refine' cdPu' (ev tab rfl) ?p_4 rfl rfl rfl (by kernel_rfl) rfl ?h_4
       case' h_4 => skip
       refine' cdPu' (buildV tab rfl rfl rfl rfl rfl rfl rfl rfl rfl) ?p_5 rfl rfl rfl (by kernel_rfl) rfl ?h_5
       case' h_5 => skip
       refine' cdX ?x_6 rfl rfl rfl (by kernel_rfl) (fun h => (alwNo h (by kernel_rfl)).elim) rfl ?h_6
       case x_6 =>
        intro b hb g; cases b
        · exact (alwNo hb (by kernel_rfl)).elim
        ·
         refine appendM (fn := sc) (a := bytesOf y33) tab rfl rfl rfl rfl rfl rfl rfl rfl rfl rfl (fun _ => rfl) (by show (keys.length + 1) * 16 ≤ _; omega) ?_
         refine WO.nil ?_
         refine' stE1 rfl ?_ ?_ ?_ ?_
         all_goals try exact rfl
       case' h_6 => skip
       refine' cdPu' (ev tab rfl) ?p_7 rfl rfl rfl (by kernel_rfl) rfl ?h_7
       case' h_7 => skip
       first | (refine' cdPu' (ev tab rfl) ?p_8 rfl rfl rfl (by kernel_rfl) rfl ?h_8) | (refine' cdPu' (loadRow tab rfl rfl rfl rfl) ?p_8 rfl rfl rfl (by kernel_rfl) rfl ?h_8) | (refine' cdPu' (loadBox tab rfl rfl rfl rfl rfl) ?p_8 rfl rfl rfl (by kernel_rfl) rfl ?h_8)
       case' h_8 => skip
       refine' cdPu' (ev tab rfl) ?p_9 rfl rfl rfl (by kernel_rfl) rfl ?h_9
       case' h_9 => skip
       refine' cdPu' (ev tab rfl) ?p_10 rfl rfl rfl (by kernel_rfl) rfl ?h_10
       case' h_10 => skip
       refine' cdPu' (puI (ev tab rfl) (y := level + 1) (wrap64 (by omega))) ?p_11 rfl rfl rfl (by kernel_rfl) rfl ?h_11
       case' h_11 => skip
       refine' cdP ?x_12 rfl rfl rfl (by kernel_rfl) rfl ?h_12
       case x_12 =>
        intro b hb g; cases b
        · exact (alwNo hb (by kernel_rfl)).elim
        · exact callP [0] [] rfl rfl rfl rfl rfl ((hV k' (by omega) (level + 1) i44 (by omega) (by omega) (by omega) (by omega)).pan (outP_no hc55)) rfl rfl (by rfl) (fun st' => ⟨_, rfl, rfl⟩)
       case' h_12 => skip
       refine cdB 55 rfl rfl rfl rfl (by kernel_rfl) rfl ?_
       refine cdB 56 rfl rfl rfl rfl (by kernel_rfl) rfl ?_
       refine' cdPu' (ev tab rfl) ?p_15 rfl rfl rfl (by kernel_rfl) rfl ?h_15
       case' h_15 => skip
       case p_2 => refine ⟨fun ha => (alwNo ha (by kernel_rfl)).elim, ?_, fun ha => (alwNo ha (by kernel_rfl)).elim, ?_, fun ha => (alwNo ha (by kernel_rfl)).elim, ?_, fun ha => (alwNo ha (by kernel_rfl)).elim, ?_, fun ha => (alwNo ha (by kernel_rfl)).elim, ?_⟩ <;> intro ha <;> first | exact ⟨ev tab rfl, fun h => nomatch h⟩ | exact (alwNo ha (by kernel_rfl)).elim
       case p_3 => refine ⟨fun ha => (alwNo ha (by kernel_rfl)).elim, ?_, fun ha => (alwNo ha (by kernel_rfl)).elim, ?_, fun ha => (alwNo ha (by kernel_rfl)).elim, ?_, fun ha => (alwNo ha (by kernel_rfl)).elim, ?_, fun ha => (alwNo ha (by kernel_rfl)).elim, ?_⟩ <;> intro ha <;> first | exact ⟨ev tab rfl, fun h => nomatch h⟩ | exact ⟨loadRow tab rfl rfl rfl rfl, fun h => nomatch h⟩ | exact ⟨loadBox tab rfl rfl rfl rfl rfl, fun h => nomatch h⟩ | exact (alwNo ha (by kernel_rfl)).elim
       case p_4 => refine ⟨fun ha => (alwNo ha (by kernel_rfl)).elim, ?_, fun ha => (alwNo ha (by kernel_rfl)).elim, ?_, fun ha => (alwNo ha (by kernel_rfl)).elim, ?_, fun ha => (alwNo ha (by kernel_rfl)).elim, ?_, fun ha => (alwNo ha (by kernel_rfl)).elim, ?_⟩ <;> intro ha <;> first | exact ⟨ev tab rfl, fun h => nomatch h⟩ | exact (alwNo ha (by kernel_rfl)).elim
       case p_5 => refine ⟨fun ha => (alwNo ha (by kernel_rfl)).elim, ?_, fun ha => (alwNo ha (by kernel_rfl)).elim, ?_, fun ha => (alwNo ha (by kernel_rfl)).elim, ?_, fun ha => (alwNo ha (by kernel_rfl)).elim, ?_, fun ha => (alwNo ha (by kernel_rfl)).elim, ?_⟩ <;> intro ha <;> first | exact ⟨buildV tab rfl rfl rfl rfl rfl rfl rfl rfl rfl, fun h => nomatch h⟩ | exact (alwNo ha (by kernel_rfl)).elim
       case p_7 => refine ⟨fun ha => (alwNo ha (by kernel_rfl)).elim, ?_, fun ha => (alwNo ha (by kernel_rfl)).elim, ?_, fun ha => (alwNo ha (by kernel_rfl)).elim, ?_, fun ha => (alwNo ha (by kernel_rfl)).elim, ?_, fun ha => (alwNo ha (by kernel_rfl)).elim, ?_⟩ <;> intro ha <;> first | exact ⟨ev tab rfl, fun h => nomatch h⟩ | exact (alwNo ha (by kernel_rfl)).elim
       case p_8 => refine ⟨fun ha => (alwNo ha (by kernel_rfl)).elim, ?_, fun ha => (alwNo ha (by kernel_rfl)).elim, ?_, fun ha => (alwNo ha (by kernel_rfl)).elim, ?_, fun ha => (alwNo ha (by kernel_rfl)).elim, ?_, fun ha => (alwNo ha (by kernel_rfl)).elim, ?_⟩ <;> intro ha <;> first | exact ⟨ev tab rfl, fun h => nomatch h⟩ | exact ⟨loadRow tab rfl rfl rfl rfl, fun h => nomatch h⟩ | exact ⟨loadBox tab rfl rfl rfl rfl rfl, fun h => nomatch h⟩ | exact (alwNo ha (by kernel_rfl)).elim
       case p_9 => refine ⟨fun ha => (alwNo ha (by kernel_rfl)).elim, ?_, fun ha => (alwNo ha (by kernel_rfl)).elim, ?_, fun ha => (alwNo ha (by kernel_rfl)).elim, ?_, fun ha => (alwNo ha (by kernel_rfl)).elim, ?_, fun ha => (alwNo ha (by kernel_rfl)).elim, ?_⟩ <;> intro ha <;> first | exact ⟨ev tab rfl, fun h => nomatch h⟩ | exact (alwNo ha (by kernel_rfl)).elim
       case p_10 => refine ⟨fun ha => (alwNo ha (by kernel_rfl)).elim, ?_, fun ha => (alwNo ha (by kernel_rfl)).elim, ?_, fun ha => (alwNo ha (by kernel_rfl)).elim, ?_, fun ha => (alwNo ha (by kernel_rfl)).elim, ?_, fun ha => (alwNo ha (by kernel_rfl)).elim, ?_⟩ <;> intro ha <;> first | exact ⟨ev tab rfl, fun h => nomatch h⟩ | exact (alwNo ha (by kernel_rfl)).elim
       case p_11 => refine ⟨fun ha => (alwNo ha (by kernel_rfl)).elim, ?_, fun ha => (alwNo ha (by kernel_rfl)).elim, ?_, fun ha => (alwNo ha (by kernel_rfl)).elim, ?_, fun ha => (alwNo ha (by kernel_rfl)).elim, ?_, fun ha => (alwNo ha (by kernel_rfl)).elim, ?_⟩ <;> intro ha <;> first | exact ⟨puI (ev tab rfl) (y := level + 1) (wrap64 (by omega)), fun h => nomatch h⟩ | exact (alwNo ha (by kernel_rfl)).elim
       case p_15 => refine ⟨fun ha => (alwNo ha (by kernel_rfl)).elim, ?_, fun ha => (alwNo ha (by kernel_rfl)).elim, ?_, fun ha => (alwNo ha (by kernel_rfl)).elim, ?_, fun ha => (alwNo ha (by kernel_rfl)).elim, ?_, fun ha => (alwNo ha (by kernel_rfl)).elim, ?_⟩ <;> intro ha <;> first | exact ⟨ev tab rfl, fun h => nomatch h⟩ | exact (alwNo ha (by kernel_rfl)).elim
       refine CD.nil ?_ rfl
       exact botO 55 rfl
      | ok y55 i55 =>
       rw [hc55] at hI hb
       dsimp only at hI
       have hb3 : i44 < i55 := hb.1
       have hb4 : i55 ≤ s.size := by have := hb.2; rwa [bytes_len] at this
       have hbn := nextJ_bd (l := bys s) (c := 125) (i := i55) (by rw [bytes_len]; exact hb4)
       refine' W.regionLF tab (fun bx => [bx, (0, pbox s i55) :: bx, (0, pbox s i55) :: bx]) [[11, 8, 5], [11, 8, 5], [13, 11, 8]] [12, 13, 14] [4, 10, 12] 14 (by kernel_rfl) (by kernel_rfl) rfl rfl ?hL_16
       case' hL_16 => skip
       refine' cdPu' (ev tab rfl) ?p_17 rfl rfl rfl (by kernel_rfl) rfl ?h_17
       case' h_17 => skip
       first | (refine' cdPu' (ev tab rfl) ?p_18 rfl rfl rfl (by kernel_rfl) rfl ?h_18) | (refine' cdPu' (loadRow tab rfl rfl rfl rfl) ?p_18 rfl rfl rfl (by kernel_rfl) rfl ?h_18) | (refine' cdPu' (loadBox tab rfl rfl rfl rfl rfl) ?p_18 rfl rfl rfl (by kernel_rfl) rfl ?h_18)
       case' h_18 => skip
       refine' cdPu' (ev tab rfl) ?p_19 rfl rfl rfl (by kernel_rfl) rfl ?h_19
       case' h_19 => skip
       refine' cdPu' (buildV tab rfl rfl rfl rfl rfl rfl rfl rfl rfl) ?p_20 rfl rfl rfl (by kernel_rfl) rfl ?h_20
       case' h_20 => skip
       refine' cdX ?x_21 rfl rfl rfl (by kernel_rfl) (fun h => (alwNo h (by kernel_rfl)).elim) rfl ?h_21
       case x_21 =>
        intro b hb g; cases b
        · exact (alwNo hb (by kernel_rfl)).elim
        ·
         refine appendM (fn := sc) (a := bytesOf y33) tab rfl rfl rfl rfl rfl rfl rfl rfl rfl rfl (fun _ => rfl) (by show (keys.length + 1) * 16 ≤ _; omega) ?_
         refine WO.nil ?_
         refine' stE1 rfl ?_ ?_ ?_ ?_
         all_goals try exact rfl
       case' h_21 => skip
       refine' cdPu' (ev tab rfl) ?p_22 rfl rfl rfl (by kernel_rfl) rfl ?h_22
       case' h_22 => skip
       first | (refine' cdPu' (ev tab rfl) ?p_23 rfl rfl rfl (by kernel_rfl) rfl ?h_23) | (refine' cdPu' (loadRow tab rfl rfl rfl rfl) ?p_23 rfl rfl rfl (by kernel_rfl) rfl ?h_23) | (refine' cdPu' (loadBox tab rfl rfl rfl rfl rfl) ?p_23 rfl rfl rfl (by kernel_rfl) rfl ?h_23)
       case' h_23 => skip
       refine' cdPu' (ev tab rfl) ?p_24 rfl rfl rfl (by kernel_rfl) rfl ?h_24
       case' h_24 => skip
       refine' cdPu' (ev tab rfl) ?p_25 rfl rfl rfl (by kernel_rfl) rfl ?h_25
       case' h_25 => skip
       refine' cdPu' (puI (ev tab rfl) (y := level + 1) (wrap64 (by omega))) ?p_26 rfl rfl rfl (by kernel_rfl) rfl ?h_26
       case' h_26 => skip
       refine' cdX ?x_27 rfl rfl rfl (by kernel_rfl) (fun h => (alwNo h (by kernel_rfl)).elim) rfl ?h_27
       case x_27 =>
        intro b hb g; cases b
        · exact (alwNo hb (by kernel_rfl)).elim
        ·
         refine callB [0] [] rfl rfl rfl rfl rfl (((hV k' (by omega) (level + 1) i44 (by omega) (by omega) (by omega) (by omega)).ret (outP_ok hc55))) rfl rfl (by rfl) (by rfl) rfl rfl rfl rfl ?_
         refine WO.nil ?_
         refine' stE1 rfl ?_ ?_ ?_ ?_
         all_goals try exact rfl
       case' h_27 => skip
       refine' cdPu' (buildV tab rfl rfl rfl rfl rfl rfl rfl rfl rfl) ?p_28 rfl rfl rfl (by kernel_rfl) rfl ?h_28
       case' h_28 => skip
       refine' cdX ?x_29 rfl rfl rfl (by kernel_rfl) (fun h => (alwNo h (by kernel_rfl)).elim) rfl ?h_29
       case x_29 =>
        intro b hb g; cases b
        · exact (alwNo hb (by kernel_rfl)).elim
        ·
         refine appendM (fn := JV.c) (a := y55) tab rfl rfl rfl rfl rfl rfl rfl rfl rfl rfl (fun _ => rfl) (by show (acc.length + 1) * 80 ≤ _; omega) ?_
         refine WO.nil ?_
         refine' stE1 rfl ?_ ?_ ?_ ?_
         all_goals try exact rfl
       case' h_29 => skip
       case p_17 => refine ⟨fun ha => (alwNo ha (by kernel_rfl)).elim, ?_, fun ha => (alwNo ha (by kernel_rfl)).elim, ?_, fun ha => (alwNo ha (by kernel_rfl)).elim, ?_, fun ha => (alwNo ha (by kernel_rfl)).elim, ?_⟩ <;> intro ha <;> first | exact ⟨ev tab rfl, fun h => nomatch h⟩ | exact (alwNo ha (by kernel_rfl)).elim
       case p_18 => refine ⟨fun ha => (alwNo ha (by kernel_rfl)).elim, ?_, fun ha => (alwNo ha (by kernel_rfl)).elim, ?_, fun ha => (alwNo ha (by kernel_rfl)).elim, ?_, fun ha => (alwNo ha (by kernel_rfl)).elim, ?_⟩ <;> intro ha <;> first | exact ⟨ev tab rfl, fun h => nomatch h⟩ | exact ⟨loadRow tab rfl rfl rfl rfl, fun h => nomatch h⟩ | exact ⟨loadBox tab rfl rfl rfl rfl rfl, fun h => nomatch h⟩ | exact (alwNo ha (by kernel_rfl)).elim
       case p_19 => refine ⟨fun ha => (alwNo ha (by kernel_rfl)).elim, ?_, fun ha => (alwNo ha (by kernel_rfl)).elim, ?_, fun ha => (alwNo ha (by kernel_rfl)).elim, ?_, fun ha => (alwNo ha (by kernel_rfl)).elim, ?_⟩ <;> intro ha <;> first | exact ⟨ev tab rfl, fun h => nomatch h⟩ | exact (alwNo ha (by kernel_rfl)).elim
       case p_20 => refine ⟨fun ha => (alwNo ha (by kernel_rfl)).elim, ?_, fun ha => (alwNo ha (by kernel_rfl)).elim, ?_, fun ha => (alwNo ha (by kernel_rfl)).elim, ?_, fun ha => (alwNo ha (by kernel_rfl)).elim, ?_⟩ <;> intro ha <;> first | exact ⟨buildV tab rfl rfl rfl rfl rfl rfl rfl rfl rfl, fun h => nomatch h⟩ | exact (alwNo ha (by kernel_rfl)).elim
       case p_22 => refine ⟨fun ha => (alwNo ha (by kernel_rfl)).elim, ?_, fun ha => (alwNo ha (by kernel_rfl)).elim, ?_, fun ha => (alwNo ha (by kernel_rfl)).elim, ?_, fun ha => (alwNo ha (by kernel_rfl)).elim, ?_⟩ <;> intro ha <;> first | exact ⟨ev tab rfl, fun h => nomatch h⟩ | exact (alwNo ha (by kernel_rfl)).elim
       case p_23 => refine ⟨fun ha => (alwNo ha (by kernel_rfl)).elim, ?_, fun ha => (alwNo ha (by kernel_rfl)).elim, ?_, fun ha => (alwNo ha (by kernel_rfl)).elim, ?_, fun ha => (alwNo ha (by kernel_rfl)).elim, ?_⟩ <;> intro ha <;> first | exact ⟨ev tab rfl, fun h => nomatch h⟩ | exact ⟨loadRow tab rfl rfl rfl rfl, fun h => nomatch h⟩ | exact ⟨loadBox tab rfl rfl rfl rfl rfl, fun h => nomatch h⟩ | exact (alwNo ha (by kernel_rfl)).elim
       case p_24 => refine ⟨fun ha => (alwNo ha (by kernel_rfl)).elim, ?_, fun ha => (alwNo ha (by kernel_rfl)).elim, ?_, fun ha => (alwNo ha (by kernel_rfl)).elim, ?_, fun ha => (alwNo ha (by kernel_rfl)).elim, ?_⟩ <;> intro ha <;> first | exact ⟨ev tab rfl, fun h => nomatch h⟩ | exact (alwNo ha (by kernel_rfl)).elim
       case p_25 => refine ⟨fun ha => (alwNo ha (by kernel_rfl)).elim, ?_, fun ha => (alwNo ha (by kernel_rfl)).elim, ?_, fun ha => (alwNo ha (by kernel_rfl)).elim, ?_, fun ha => (alwNo ha (by kernel_rfl)).elim, ?_⟩ <;> intro ha <;> first | exact ⟨ev tab rfl, fun h => nomatch h⟩ | exact (alwNo ha (by kernel_rfl)).elim
       case p_26 => refine ⟨fun ha => (alwNo ha (by kernel_rfl)).elim, ?_, fun ha => (alwNo ha (by kernel_rfl)).elim, ?_, fun ha => (alwNo ha (by kernel_rfl)).elim, ?_, fun ha => (alwNo ha (by kernel_rfl)).elim, ?_⟩ <;> intro ha <;> first | exact ⟨puI (ev tab rfl) (y := level + 1) (wrap64 (by omega)), fun h => nomatch h⟩ | exact (alwNo ha (by kernel_rfl)).elim
       case p_28 => refine ⟨fun ha => (alwNo ha (by kernel_rfl)).elim, ?_, fun ha => (alwNo ha (by kernel_rfl)).elim, ?_, fun ha => (alwNo ha (by kernel_rfl)).elim, ?_, fun ha => (alwNo ha (by kernel_rfl)).elim, ?_⟩ <;> intro ha <;> first | exact ⟨buildV tab rfl rfl rfl rfl rfl rfl rfl rfl rfl, fun h => nomatch h⟩ | exact (alwNo ha (by kernel_rfl)).elim
       refine' cdPu' (ev tab rfl) ?p_30 rfl rfl rfl (by kernel_rfl) rfl ?h_30
       case' h_30 => skip
       case p_30 => refine ⟨fun ha => (alwNo ha (by kernel_rfl)).elim, ?_, fun ha => (alwNo ha (by kernel_rfl)).elim, ?_, fun ha => (alwNo ha (by kernel_rfl)).elim, ?_, fun ha => (alwNo ha (by kernel_rfl)).elim, ?_⟩ <;> intro ha <;> first | exact ⟨ev tab rfl, fun h => nomatch h⟩ | exact (alwNo ha (by kernel_rfl)).elim
       refine CD.nil ?_ rfl
       refine storeR tab rfl rfl rfl rfl rfl rfl rfl rfl ?_
       refine pE rfl ?_
       refine storeR tab rfl rfl rfl rfl rfl rfl rfl rfl ?_
       refine WO.nil (qbN (qs (W.region ?_)))
       refine pE rfl ?_
       cases hc25 : nextJ (bys s) 125 i55 with
       | no a25 w25 =>
        refine callP [0] [] rfl rfl rfl rfl rfl ((next_fn s 125 i55 hb4 hs).pan (outP_no hc25)) rfl rfl (by rfl) (fun st' => ?_)
        repeat' first | refine qsPan ?_ | refine qbPan ?_ | refine qlPan ?_ | refine qcPan ?_
        refine qxPan (outP_no (by rw [← hI, if_neg (next_no hc25).1, (next_no hc25).2]))
       | ok y25 i25 =>
        refine callB [0] [] rfl rfl rfl rfl rfl ((next_fn s 125 i55 hb4 hs).ret (outP_ok hc25)) rfl rfl (by rfl) (by rfl) rfl rfl rfl rfl ?_
        rw [hc25] at hbn
        have hb5 : i55 < i25 := hbn.1
        have hb6 : i25 ≤ s.size := by have := hbn.2; rwa [bytes_len] at this
        refine pE rfl ?_
        refine WO.nil ?_
        refine W.endR [0, 1, 2, 8, 11, 13] ⟨(k', i25, keys ++ [bytesOf y33], acc ++ [y55], y25), ?_⟩ ?_ rfl ?_ trivial ?_ ⟨rfl, rfl, trivial⟩ rfl
        ·
         refine ⟨by omega, hn2, fun h => ?_, fun h => ?_⟩
         ·
          subst h
          rw [if_pos (next_true hc25).1, ← (next_true hc25).2] at hI
          exact ⟨hb6, by rw [List.length_append, List.length_singleton]; omega, by rw [List.length_append, List.length_singleton]; omega, by omega, hI⟩
         ·
          subst h
          rw [if_neg (next_false hc25).1, (next_false hc25).2] at hI
          exact hI.symm
        · dsimp only; omega
        · repeat' first | exact trivial | refine ⟨rfl, ?_⟩ | refine ⟨congrArg some (renL_boxE _ _ _), ?_⟩ | refine ⟨step_nat (by assumption) (by assumption), ?_⟩
        · repeat' first | exact trivial | refine ⟨rfl, ?_⟩ | refine ⟨congrArg some (renL_boxE _ _ _), ?_⟩ | refine ⟨step_nat (by assumption) (by assumption), ?_⟩
  ·
   have hx := hF h23
   refine W.exit (qsExit (qlExit (qbExit (qs (W.seq (W.region ?_))))))
   first | refine pE rfl ?_ | refine pR rfl rfl rfl rfl rfl ?_ | refine pB rfl rfl rfl rfl rfl rfl ?_
   refine storeR tab rfl rfl rfl rfl rfl rfl rfl rfl ?_
   refine WO.nil (qs ?_)
   try refine nilBox 1 3 rfl rfl rfl ?_
   try refine nilBox 1 4 rfl rfl rfl ?_
   refine W.ret ?_
   refine qxRet (outP_ok (hx)) ?_
   refine QB1.end tab [] trivial rfl rfl rfl rfl ?_ ?_
   · exact ⟨rfl, trivial⟩
   rw [jvc_obj]
   rfl
end Go.Proofs.YtllkpgnpioojjaaDoor
namespace Go.Proofs.YtllkpgnpioojjaaDoor
open Go.Ab Go.Tb
set_option maxRecDepth 10000
attribute [local irreducible] W WO Pu QS QB QL QF QV QV1 CH QE
theorem value_all (s : ByteArray) (hs : s.size ≤ 1000000000) : ∀ K, ValD s K
 | 0 => fun k hk => by omega
 | K + 1 => fun k hk level i hl1 hl2 hi hf => by
  obtain ⟨k', rfl⟩ : ∃ k', k = k' + 1 := ⟨k - 1, by omega⟩
  have ih : ValD s k' := fun k hk2 => value_all s hs K k (by omega)
  exact value_step s k' hs level i hi (fun j h1 h2 h3 => array_step s k' hs ih level j h2 hl1 h3 (by omega)) (fun j h1 h2 h3 => object_step s k' hs ih level j h2 hl1 h3 (by omega))
theorem value_fn (s : ByteArray) (hs : s.size ≤ 1000000000) : DoesE Tryd.prog 32 [.ptr 0 0, .d (.v (.int .i64 1))] [pbox s 0] 0 (outP 57 s (fun v : JV => .ag v.c) (valJ (bys s) (3 * (bys s).length + 1) 1 0)) :=
 value_all s hs (3 * (bys s).length + 2) _ (Nat.lt_succ_self _) 1 0 (by decide) (by decide) (Nat.zero_le _) (by rw [bytes_len]; omega)
end Go.Proofs.YtllkpgnpioojjaaDoor
namespace Go.Proofs.YtllkpgnpioojjaaDoor
open Go.Ab Go.Tb
set_option maxRecDepth 10000
attribute [local irreducible] W WO Pu QS QB QL QF QV QV1 CH QE
abbrev zc : List A := [.d (ci 0), .d (ci 0), .d (cs (B #[])), .d (.sl []), .d (.sl [])]
theorem clo_sim {C : Ctx} {n : Nat} {f : List (Nat × A)} {bx : List (Nat × List A)} {gen : Nat} {G : Gh} {tmps : Array Value} {w : World} {b0 b1 b2 : Nat} {ds2 : List Deferred} (hbx : C.bx = [b0, b1, b2]) (hs : SimG C n ⟨f, bx, [], gen⟩ G tmps w) {X : Value} (hX : okc X = true) {k : Nat} (hk : k = 22) :
  SimG { C with bx := [b0, b1, b2], ds := ds2 } 22 ⟨[(3, .d (.v X)), (0, .ptr 0 0), (1, .ptr 1 0), (2, .ptr 2 0)], bx, [], gen⟩ G (((#[pp b0, pp b1, pp b2] ++ Array.replicate (k - #[pp b0, pp b1, pp b2].size) undef).setIfInBounds 6 X).setIfInBounds 3 X) w := by
 subst hk
 have h5 := hs.chg (bs := [b0, b1, b2]) (ds := ds2) (fun i b hb => hs.lent i b (by rw [hbx]; exact hb))
 have hl : ∀ (i b : Nat), [b0, b1, b2][i]? = some b → i < gen ∧ G.box i = some b := fun i b hb => by
  have := hs.lent i b (by rw [hbx]; exact hb)
  exact ⟨(hs.gbox i b this).1, this⟩
 have t3 : (((#[pp b0, pp b1, pp b2] ++ Array.replicate (22 - #[pp b0, pp b1, pp b2].size) undef).setIfInBounds 6 X).setIfInBounds 3 X)[3]? = some X := by simp [Array.getElem?_setIfInBounds]
 have t0 : (((#[pp b0, pp b1, pp b2] ++ Array.replicate (22 - #[pp b0, pp b1, pp b2].size) undef).setIfInBounds 6 X).setIfInBounds 3 X)[0]? = some (pp b0) := by simp [Array.getElem?_setIfInBounds]
 have t1 : (((#[pp b0, pp b1, pp b2] ++ Array.replicate (22 - #[pp b0, pp b1, pp b2].size) undef).setIfInBounds 6 X).setIfInBounds 3 X)[1]? = some (pp b1) := by simp [Array.getElem?_setIfInBounds]
 have t2 : (((#[pp b0, pp b1, pp b2] ++ Array.replicate (22 - #[pp b0, pp b1, pp b2].size) undef).setIfInBounds 6 X).setIfInBounds 3 X)[2]? = some (pp b2) := by simp [Array.getElem?_setIfInBounds]
 have ts : (((#[pp b0, pp b1, pp b2] ++ Array.replicate (22 - #[pp b0, pp b1, pp b2].size) undef).setIfInBounds 6 X).setIfInBounds 3 X).size = 22 := by simp
 generalize (((#[pp b0, pp b1, pp b2] ++ Array.replicate (22 - #[pp b0, pp b1, pp b2].size) undef).setIfInBounds 6 X).setIfInBounds 3 X) = tm at t3 t0 t1 t2 ts ⊢
 exact { h5 with
  size := ts
  frame := fun t a ha => by
   have ha : Go.Ab.look [(3, A.d (.v X)), (0, .ptr 0 0), (1, .ptr 1 0), (2, .ptr 2 0)] t = some a := ha
   rw [look_cons, look_cons, look_cons, look_cons] at ha
   split at ha
   ·
    rename_i e
    cases ha; subst e
    exact ⟨X, t3, .d (.v X hX)⟩
   ·
    split at ha
    ·
     rename_i e
     cases ha; subst e
     exact ⟨pp b0, t0, .ptr _ _ _ b0 (hl 0 b0 rfl).1 (hl 0 b0 rfl).2 rfl⟩
    ·
     split at ha
     ·
      rename_i e
      cases ha; subst e
      exact ⟨pp b1, t1, .ptr _ _ _ b1 (hl 1 b1 rfl).1 (hl 1 b1 rfl).2 rfl⟩
     ·
      split at ha
      ·
       rename_i e
       cases ha; subst e
       exact ⟨pp b2, t2, .ptr _ _ _ b2 (hl 2 b2 rfl).1 (hl 2 b2 rfl).2 rfl⟩
      · cases ha }
theorem clo_ret {C : Ctx} (hG : GC Tryd.prog C) {n : Nat} {f : List (Nat × A)} {bx : List (Nat × List A)} {gen : Nat} {G : Gh} {tmps : Array Value} {w : World} {b0 b1 b2 : Nat} (hbx : C.bx = [b0, b1, b2]) (hs : SimG C n ⟨f, bx, [], gen⟩ G tmps w) :
  CallsD Tryd.prog 31 #[pp b0, pp b1, pp b2] .returning w fun e u' w' => ∃ v G', e = .returned v ∧ u' = .returning ∧ SimG { C with bx := [b0, b1, b2], ds := [] } 0 ⟨[], bx, [], gen⟩ G' #[] w' := by
 refine callsD_of_wpS Tryd.func31 rfl (fun c0 cs0 hu => ?_)
 refine wpS_seq (wpS_region (opsS_recover (d := 6) rfl rfl rfl rfl ?_))
 have hrec : recoverD (c0 :: cs0) = none := by cases c0 with | mk a b c d e f g => subst hu; rfl
 rw [hrec]
 refine opsS_copy (d := 3) (d0 := 6) (v := .nilIface) rfl rfl rfl rfl (by rw [Array.getElem?_setIfInBounds_self, if_pos (by rw [Array.size_append, Array.size_replicate, Tryd.ntmps31]; show 6 < 3 + (22 - 3); omega)]) (opsS_nil ?_)
 refine wpS_of_wp ?_
 haveI : NB { C with bx := [b0, b1, b2], ds := [] } 3 := ⟨rfl⟩
 haveI : GC Tryd.prog { C with bx := [b0, b1, b2], ds := [] } := hG.chg
 refine wp_of_W (C := { C with bx := [b0, b1, b2], ds := [] }) (n := 22) (st := ⟨[(3, .d (.v .nilIface)), (0, .ptr 0 0), (1, .ptr 1 0), (2, .ptr 2 0)], bx, [], gen⟩) (Q := fun e st => e = .normal ∧ st.bx = bx ∧ st.gen = gen ∧ st.lv = []) ⟨G, clo_sim hbx hs rfl Tryd.ntmps31⟩ ?hW ?hB
 case hW =>
  refine W.seq (W.region ?_)
  refine pE rfl ?_
  refine pu (nilNeq rfl (by kernel_rfl)) rfl ?_
  refine WO.nil (qs ?_)
  refine W.condF rfl ?_
  refine W.skip ?_
  exact ⟨rfl, rfl, rfl, rfl⟩
 case hB =>
  rintro e ⟨t, df⟩ w' ⟨hd, ⟨f', bx', lv', gen'⟩, ⟨G', hs'⟩, he, e1, e2, e3⟩
  have e1 : bx' = bx := e1
  have e2 : gen' = gen := e2
  have e3 : lv' = [] := e3
  subst he; subst e1; subst e2; subst e3
  refine ⟨hd, .returning, by rw [← hu], _, run_resultsV (rs := []) Tryd.results31 (vs := []) rfl, _, G', rfl, rfl, ?_⟩
  exact { hs' with size := rfl, frame := fun t a ha => by cases ha }
theorem clo_pan {C : Ctx} (hG : GC Tryd.prog C) {n : Nat} {f : List (Nat × A)} {bx : List (Nat × List A)} {gen : Nat} {G : Gh} {tmps : Array Value} {w : World} {b0 b1 b2 : Nat} {a : Nat} {e : Int} (hl : okc (.int .i64 (a : Int)) = true ∧ okc (.int .i64 e) = true) (hbx : C.bx = [b0, b1, b2]) (hs : SimG C n ⟨f, bx, [], gen⟩ G tmps w)
  {x0 x1 x2 x3 x4 y0 z0 : A} (h0 : look' bx 0 = some [x0, x1, x2, x3, x4]) (h1 : look' bx 1 = some [y0]) (h2 : look' bx 2 = some [z0]) :
  CallsD Tryd.prog 31 #[pp b0, pp b1, pp b2] (.panicking [{ v := faultV 57 a e, recovered := false }]) w fun r u' w' => ∃ v G' bx' gen', r = .returned v ∧ u' = .panicking [{ v := faultV 57 a e, recovered := true }] ∧ look' bx' 0 = some zc ∧ look' bx' 1 = some [.d (ci a)] ∧ look' bx' 2 = some [.d (ci e)] ∧ SimG { C with bx := [b0, b1, b2], ds := [] } 0 ⟨[], bx', [], gen'⟩ G' #[] w' := by
 refine callsD_of_wpS Tryd.func31 rfl (fun c0 cs0 hu => ?_)
 refine wpS_seq (wpS_region (opsS_recover (d := 6) rfl rfl rfl rfl ?_))
 have hrec : recoverD (c0 :: cs0) = some (faultV 57 a e, { c0 with mode := .panicking [{ v := faultV 57 a e, recovered := true }] } :: cs0) := by cases c0 with | mk a b c d e f g => subst hu; rfl
 rw [hrec]
 refine opsS_copy (d := 3) (d0 := 6) (v := faultV 57 a e) rfl rfl rfl rfl (by rw [Array.getElem?_setIfInBounds_self, if_pos (by rw [Array.size_append, Array.size_replicate, Tryd.ntmps31]; show 6 < 3 + (22 - 3); omega)]) (opsS_nil ?_)
 refine wpS_of_wp ?_
 haveI : NB { C with bx := [b0, b1, b2], ds := [] } 3 := ⟨rfl⟩
 haveI : GC Tryd.prog { C with bx := [b0, b1, b2], ds := [] } := hG.chg
 have hs' : SimG C n ⟨[], [(0, [.any, .any, .any, .any, .any]), (1, [.any]), (2, [.any])], [], 3⟩ ⟨fun g => if g < 3 then G.box g else none, fun _ => none⟩ tmps w := by
  have hget : ∀ g b, (if g < 3 then G.box g else none) = some b → g < 3 ∧ G.box g = some b := fun g b h => by
   split at h
   · rename_i q; exact ⟨q, h⟩
   · cases h
  have hb : ∀ (g : Nat) (cells cells' : List A), g < 3 → look' bx g = some cells → cells'.length = cells.length → (∀ (i : Nat) (a : A), cells'[i]? = some a → a = .any) → ∃ b cs T, (if g < 3 then G.box g else none) = some b ∧ w.heap[b]? = some (.cells cs T (0, 0)) ∧ cs.size = cells'.length ∧
    (∀ (i : Nat) (u : Value), cs[i]? = some u → u.oneCell' = true) ∧ ∀ (i : Nat) (u : Value) (a : A), cs[i]? = some u → cells'[i]? = some a → Rep (enOf C ⟨fun g => if g < 3 then G.box g else none, fun _ => none⟩ 3 w) u a := fun g cells cells' hg hc hlen hany => by
   obtain ⟨b, cs, T, q1, q2, q3, q4, _⟩ := hs.box g cells hc
   exact ⟨b, cs, T, by rw [if_pos hg]; exact q1, q2, by rw [q3, hlen], q4, fun i u a _ ha => by rw [hany i a ha]; exact .any _⟩
  have hbox : ∀ (g : Nat) (cells : List A), Go.Ab.look' [(0, [A.any, A.any, A.any, A.any, A.any]), (1, [A.any]), (2, [A.any])] g = some cells → ∃ b cs T, (if g < 3 then G.box g else none) = some b ∧ w.heap[b]? = some (.cells cs T (0, 0)) ∧ cs.size = cells.length ∧ (∀ (i : Nat) (u : Value), cs[i]? = some u → u.oneCell' = true) ∧ ∀ (i : Nat) (u : Value) (a : A), cs[i]? = some u → cells[i]? = some a → Rep (enOf C ⟨fun g => if g < 3 then G.box g else none, fun _ => none⟩ 3 w) u a := by
   intro g cells hc
   match g, hc with
   | 0, hc => cases hc; exact hb 0 _ _ (by decide) h0 rfl (fun i a h => by have := List.mem_of_getElem? h; simpa using this)
   | 1, hc => cases hc; exact hb 1 _ _ (by decide) h1 rfl (fun i a h => by have := List.mem_of_getElem? h; simpa using this)
   | 2, hc => cases hc; exact hb 2 _ _ (by decide) h2 rfl (fun i a h => by have := List.mem_of_getElem? h; simpa using this)
   | g + 3, hc => cases hc
  have hlent : ∀ (i b : Nat), C.bx[i]? = some b → (if i < 3 then G.box i else none) = some b := by
   intro i b h
   have hi : i < 3 := by rw [hbx] at h; have := (List.getElem?_eq_some_iff.1 h).1; simpa using this
   rw [if_pos hi]; exact hs.lent i b h
  exact { size := hs.size, frame := fun t a ha => (by cases ha), box := hbox, gbox := fun g b h => ⟨(hget g b h).1, (hs.gbox g b (hget g b h).2).2⟩, inj := fun g g' b h h' => hs.inj g g' b (hget g b h).2 (hget g' b h').2, live := fun g hg => (by cases hg), gown := fun g r hr => (by cases hr), row := fun g b len cap sz pub hr => (by cases hr), mrow := fun g b hr => (by cases hr), xold := hs.xold, kold := hs.kold, lent := hlent, fr := hs.fr }
 refine wp_of_W (C := { C with bx := [b0, b1, b2], ds := [] }) (n := 22) (st := ⟨[(3, .d (.v (faultV 57 a e))), (0, .ptr 0 0), (1, .ptr 1 0), (2, .ptr 2 0)], [(0, [.any, .any, .any, .any, .any]), (1, [.any]), (2, [.any])], [], 3⟩) (Q := fun r st => r = .normal ∧ st.lv = [] ∧ look' st.bx 0 = some zc ∧ look' st.bx 1 = some [.d (ci a)] ∧ look' st.bx 2 = some [.d (ci e)]) ⟨_, clo_sim hbx hs' rfl Tryd.ntmps31⟩ ?hW ?hB
 case hW =>
  refine W.seq (W.region ?_)
  refine pE rfl ?_
  refine pu (ifNeq rfl (by kernel_rfl)) rfl ?_
  refine WO.nil (qs ?_)
  refine W.condT rfl ?_
  refine W.seq (W.region ?_)
  refine pE rfl ?_
  refine pu (assertYes (l := [.int .i64 (a : Int), .int .i64 e]) tab rfl rfl (fun v hv => by rcases List.mem_cons.1 hv with rfl | hv; exact hl.1; rcases List.mem_cons.1 hv with rfl | hv; exact hl.2; cases hv) rfl) rfl ?_
  iterate 3 refine pE rfl ?_
  refine allocR tab rfl rfl rfl ?_
  refine storeR tab rfl rfl rfl rfl rfl rfl rfl rfl ?_
  refine pE rfl ?_
  refine WO.nil (qs ?_)
  iterate 2 refine W.seq ?_
  refine W.region ?_
  iterate 2 refine pE rfl ?_
  refine WO.nil (qs ?_)
  refine W.condF rfl ?_
  refine W.skip (qs ?_)
  refine' W.regionLF tab (fun bx => [(0, zc) :: bx, (1, [.d (ci a)]) :: (0, zc) :: bx]) [[], []] [4, 4] [5, 6] 7 (by kernel_rfl) (by kernel_rfl) rfl rfl ?hL_9
  case' hL_9 => skip
  refine' cdPu' (Pu.nilB (build tab rfl rfl rfl rfl) rfl) ?p_10 rfl rfl rfl (by kernel_rfl) rfl ?h_10
  case' h_10 => skip
  refine' cdPu' (ev tab rfl) ?p_11 rfl rfl rfl (by kernel_rfl) rfl ?h_11
  case' h_11 => skip
  first | (refine' cdPu' (ev tab rfl) ?p_12 rfl rfl rfl (by kernel_rfl) rfl ?h_12) | (refine' cdPu' (loadRow tab rfl rfl rfl rfl) ?p_12 rfl rfl rfl (by kernel_rfl) rfl ?h_12) | (refine' cdPu' (loadBox tab rfl rfl rfl rfl rfl) ?p_12 rfl rfl rfl (by kernel_rfl) rfl ?h_12)
  case' h_12 => skip
  refine' cdPu' (ev tab rfl) ?p_13 rfl rfl rfl (by kernel_rfl) rfl ?h_13
  case' h_13 => skip
  first | (refine' cdPu' (ev tab rfl) ?p_14 rfl rfl rfl (by kernel_rfl) rfl ?h_14) | (refine' cdPu' (loadRow tab rfl rfl rfl rfl) ?p_14 rfl rfl rfl (by kernel_rfl) rfl ?h_14) | (refine' cdPu' (loadBox tab rfl rfl rfl rfl rfl) ?p_14 rfl rfl rfl (by kernel_rfl) rfl ?h_14)
  case' h_14 => skip
  refine' cdX0 ?x_15 rfl rfl rfl (by kernel_rfl) ?h_15
  case x_15 =>
   intro b hb g; cases b
   · exact (alwNo hb (by kernel_rfl)).elim
   ·
    refine storeR tab rfl rfl rfl rfl rfl rfl rfl rfl ?_
    refine WO.nil ?_
    refine' stE0 rfl ?_ ?_ ?_
    all_goals try exact rfl
  case' h_15 => skip
  refine' cdX0 ?x_16 rfl rfl rfl (by kernel_rfl) ?h_16
  case x_16 =>
   intro b hb g; cases b
   · exact (alwNo hb (by kernel_rfl)).elim
   ·
    refine storeR tab rfl rfl rfl rfl rfl rfl rfl rfl ?_
    refine WO.nil ?_
    refine' stE0 rfl ?_ ?_ ?_
    all_goals try exact rfl
  case' h_16 => skip
  case p_10 => refine ⟨fun ha => (alwNo ha (by kernel_rfl)).elim, ?_, fun ha => (alwNo ha (by kernel_rfl)).elim, ?_, fun ha => (alwNo ha (by kernel_rfl)).elim, ?_⟩ <;> intro ha <;> first | exact ⟨Pu.nilB (build tab rfl rfl rfl rfl) rfl, fun h => nomatch h⟩ | exact (alwNo ha (by kernel_rfl)).elim
  case p_11 => refine ⟨fun ha => (alwNo ha (by kernel_rfl)).elim, ?_, fun ha => (alwNo ha (by kernel_rfl)).elim, ?_, fun ha => (alwNo ha (by kernel_rfl)).elim, ?_⟩ <;> intro ha <;> first | exact ⟨ev tab rfl, fun h => nomatch h⟩ | exact (alwNo ha (by kernel_rfl)).elim
  case p_12 => refine ⟨fun ha => (alwNo ha (by kernel_rfl)).elim, ?_, fun ha => (alwNo ha (by kernel_rfl)).elim, ?_, fun ha => (alwNo ha (by kernel_rfl)).elim, ?_⟩ <;> intro ha <;> first | exact ⟨ev tab rfl, fun h => nomatch h⟩ | exact ⟨loadRow tab rfl rfl rfl rfl, fun h => nomatch h⟩ | exact ⟨loadBox tab rfl rfl rfl rfl rfl, fun h => nomatch h⟩ | exact (alwNo ha (by kernel_rfl)).elim
  case p_13 => refine ⟨fun ha => (alwNo ha (by kernel_rfl)).elim, ?_, fun ha => (alwNo ha (by kernel_rfl)).elim, ?_, fun ha => (alwNo ha (by kernel_rfl)).elim, ?_⟩ <;> intro ha <;> first | exact ⟨ev tab rfl, fun h => nomatch h⟩ | exact (alwNo ha (by kernel_rfl)).elim
  case p_14 => refine ⟨fun ha => (alwNo ha (by kernel_rfl)).elim, ?_, fun ha => (alwNo ha (by kernel_rfl)).elim, ?_, fun ha => (alwNo ha (by kernel_rfl)).elim, ?_⟩ <;> intro ha <;> first | exact ⟨ev tab rfl, fun h => nomatch h⟩ | exact ⟨loadRow tab rfl rfl rfl rfl, fun h => nomatch h⟩ | exact ⟨loadBox tab rfl rfl rfl rfl rfl, fun h => nomatch h⟩ | exact (alwNo ha (by kernel_rfl)).elim
  refine CD.nil ?_ rfl
  refine storeR tab rfl rfl rfl rfl rfl rfl rfl rfl ?_
  refine WO.nil ?_
  exact ⟨rfl, rfl, rfl, rfl, rfl⟩
 case hB =>
  rintro r ⟨t, df⟩ w' ⟨hd, ⟨f', bx', lv', gen'⟩, ⟨G', hs'⟩, he, e3, q0, q1, q2⟩
  have e3 : lv' = [] := e3
  subst he; subst e3
  refine ⟨hd, _, rfl, _, run_resultsV (rs := []) Tryd.results31 (vs := []) rfl, _, G', bx', gen', rfl, rfl, q0, q1, q2, ?_⟩
  exact { hs' with size := rfl, frame := fun t a ha => by cases ha }
end Go.Proofs.YtllkpgnpioojjaaDoor
namespace Go.Proofs.YtllkpgnpioojjaaDoor
open Go.Ab Go.Tb
set_option maxRecDepth 10000
attribute [local irreducible] W WO Pu QS QB QL QF QV QV1 CH QE
def parseR (s : ByteArray) : A := if 65536 < s.size then .tup [.ag zeroJ.c, .d (ci 0), .d (ci 7)] else match parseJ (bys s) with
 | .ok v _ => .tup [.ag v.c, .d (ci 0), .d (ci 0)]
 | .no a w => .tup [.ag zeroJ.c, .d (ci a), .d (ci w)]
def PQ (x : PE JV) : Exit → St → Prop := fun e st => (match x with
 | .ok v _ => e = .ret ∧ look' st.bx 0 = some (v.c.map .d) ∧ look' st.bx 1 = some [.d (ci 0)] ∧ look' st.bx 2 = some [.d (ci 0)]
 | .no a w => e = panOf (faultV 57 a w) ∧ ∃ x0 x1 x2 x3 x4 y0 z0, look' st.bx 0 = some [x0, x1, x2, x3, x4] ∧ look' st.bx 1 = some [y0] ∧ look' st.bx 2 = some [z0]) ∧
 Go.Ab.look st.f 2 = some (A.ptr 0 0) ∧ Go.Ab.look st.f 3 = some (A.ptr 1 0) ∧ Go.Ab.look st.f 4 = some (A.ptr 2 0)
theorem sim3 {C : Ctx} {n : Nat} {f : List (Nat × A)} {bx : List (Nat × List A)} {lv : List Nat} {gen : Nat} {G : Gh} {tmps : Array Value} {w : World} {c0 c1 c2 : List A} (hs : SimG C n ⟨f, bx, lv, gen⟩ G tmps w) (h0 : look' bx 0 = some c0) (h1 : look' bx 1 = some c1) (h2 : look' bx 2 = some c2) : SimG C n ⟨f, [(0, c0), (1, c1), (2, c2)], lv, gen⟩ G tmps w := by
 refine { hs with box := fun g cells hc => ?_ }
 have hc : Go.Ab.look' [(0, c0), (1, c1), (2, c2)] g = some cells := hc
 match g, hc with
 | 0, hc => cases hc; exact hs.box 0 _ h0
 | 1, hc => cases hc; exact hs.box 1 _ h1
 | 2, hc => cases hc; exact hs.box 2 _ h2
 | g + 3, hc => cases hc
theorem ok31 : FnOK Tryd.prog 31 := ⟨_, Tryd.func31, by kernel_rfl, rfl⟩
theorem inv31 (b0 b1 b2 : Nat) (w : World) : (invoke (.fn (.func 31) #[pp b0, pp b1, pp b2]) #[]).run Tryd.prog w = .ok (.enter 31 #[pp b0, pp b1, pp b2]) w := by
 obtain ⟨fn, hfn, hname, hbody⟩ := ok31
 simp only [invoke, callFunc, Sem.run_bind, Sem.run_pure, Result.andThen_ok, run_program, hfn, hname, hbody, Bool.false_eq_true, if_false, Array.empty_append]
theorem parse_fn (s : ByteArray) : Does Tryd.prog 19 [.d (.v (.string s))] (parseR s) 0 := by
 refine Does.of_W' (n := 34) Tryd.func19 (by kernel_rfl) rfl Tryd.ntmps19 rfl fun C hC hG hbx hds => ?_
 refine W'.seq ?_
 refine W.region ?_
 iterate 3 refine allocR tab rfl rfl rfl ?_
 refine WO.nil ?_
 refine W'.seq ?_
 refine W.seq (W.region ?_)
 iterate 3 refine pE rfl ?_
 refine WO.nil (qs ?_)
 refine condK rfl (fun h8 => ?_) (fun h8 => ?_)
 ·
  refine W.seq (W.region ?_)
  refine pu (build tab rfl rfl rfl rfl) rfl ?_
  refine nilO 9 rfl rfl rfl ?_
  iterate 3 refine storeR tab rfl rfl rfl rfl rfl rfl rfl rfl ?_
  refine WO.nil (qs (W.ret ?_))
  intro tmps w ⟨G, hs⟩
  have hg : parseR s = .tup [.ag zeroJ.c, .d (ci 0), .d (ci 7)] := by unfold parseR; rw [if_pos (by simp at h8; omega)]
  show Leaves _ _ tmps _ C.ds .returning w
  rw [hds, hg]
  exact fin0 tab (rs := [.cell 2 26, .cell 3 3, .cell 4 29]) hs hbx Tryd.results19 rfl rfl
 ·
  have h65 : ¬ 65536 < s.size := by simp at h8; omega
  have hsz : s.size ≤ 1000000000 := by omega
  have hgR : parseR s = match parseJ (bys s) with | .ok v _ => .tup [.ag v.c, .d (ci 0), .d (ci 0)] | .no a w => .tup [.ag zeroJ.c, .d (ci a), .d (ci w)] := by unfold parseR; rw [if_neg h65]
  refine W.skip ?_
  refine W'.seqRegion ?_
  refine WO'.pu rfl rfl (ev tab rfl) ?_
  refine WO'.deferEnd rfl (fun b0 b1 b2 tmps w G hs e0 e1 e2 => ?_)
  have hNB : NB { C with bx := [b0, b1, b2], ds := dfr 31 b0 b1 b2 :: C.ds } 3 := ⟨rfl⟩
  have hGC : GC Tryd.prog { C with bx := [b0, b1, b2], ds := dfr 31 b0 b1 b2 :: C.ds } := hG.chg
  refine wp_of_W (C := { C with bx := [b0, b1, b2], ds := dfr 31 b0 b1 b2 :: C.ds }) (n := 34) (Q := PQ (parseJ (bys s))) ⟨G, hs.chg (fun i b hb => ?hl)⟩ ?hW ?hB
  case hl =>
   match i, hb with
   | 0, hb => cases hb; exact e0
   | 1, hb => cases hb; exact e1
   | 2, hb => cases hb; exact e2
   | i + 3, hb => cases hb
  case hW =>
   refine W.seq (W.region ?_)
   refine pE rfl ?_
   refine pu (build tab rfl rfl rfl rfl) rfl ?_
   refine boxR rfl rfl rfl ?_
   refine pE rfl ?_
   refine WO.nil (qs (W.seq (W.region ?_)))
   refine pE rfl ?_
   cases hc15 : valJ (bys s) (3 * (bys s).length + 1) 1 0 with
   | no a15 w15 =>
    have hp : parseJ (bys s) = .no a15 w15 := by unfold parseJ; rw [hc15]
    refine callPk [3] [] rfl rfl rfl rfl rfl ((value_fn s hsz).pan (outP_no hc15)) rfl rfl (by rfl) ?_
    repeat' first | refine qsPan ?_ | refine qbPan ?_ | refine qlPan ?_ | refine qcPan ?_
    rw [hp]
    exact ⟨⟨rfl, _, _, _, _, _, _, _, rfl, rfl, rfl⟩, rfl, rfl, rfl⟩
   | ok y15 i15 =>
    have hb := (allBd (bys s) (3 * (bys s).length + 1)).v 1 0 (Nat.zero_le _)
    rw [hc15] at hb
    have hi : i15 ≤ s.size := by have := hb.2; rwa [bytes_len] at this
    refine callB [3] [] rfl rfl rfl rfl rfl ((value_fn s hsz).ret (outP_ok hc15)) rfl rfl (by rfl) (by rfl) rfl rfl rfl rfl ?_
    refine storeR tab rfl rfl rfl rfl rfl rfl rfl rfl ?_
    refine WO.nil (qs ?_)
    iterate 2 refine W.seq ?_
    refine W.region ?_
    refine pE rfl ?_
    refine callB [3] [] rfl rfl rfl rfl rfl ((peek_fn s i15 hi hsz)) rfl rfl (by rfl) (by rfl) rfl rfl rfl rfl ?_
    iterate 2 refine pE rfl ?_
    refine splitG rfl rfl (fun g19 => ?_) (fun g19 => ?_)
    ·
     iterate 7 refine skipT rfl rfl rfl rfl ?_
     refine pE rfl ?_
     refine WO.nil (qs ?_)
     refine W.condT rfl ?_
     refine W.region ?_
     iterate 3 refine pE rfl ?_
     first | refine pE rfl ?_ | refine pR rfl rfl rfl rfl rfl ?_ | refine pB rfl rfl rfl rfl rfl rfl ?_
     have hlt : skipB (bys s) i15 < (bys s).length := here_lt fun e => by rw [e] at g19; simp at g19
     have hp : parseJ (bys s) = .no (skipB (bys s) i15) 10 := by unfold parseJ; rw [hc15]; dsimp only; rw [if_pos hlt]
     refine callPk [] [] rfl rfl rfl rfl rfl (fails_fn (skipB (bys s) i15) 10) rfl rfl (by rfl) ?_
     repeat' first | refine qsPan ?_ | refine qbPan ?_ | refine qlPan ?_ | refine qcPan ?_
     rw [hp]
     exact ⟨⟨rfl, _, _, _, _, _, _, _, rfl, rfl, rfl⟩, rfl, rfl, rfl⟩
    ·
     refine goG rfl rfl ?_
     refine pE rfl ?_
     refine goG rfl rfl ?_
     refine pE rfl ?_
     refine goG rfl rfl ?_
     refine pE rfl ?_
     refine goG rfl rfl ?_
     first | refine pE rfl ?_ | refine pR rfl rfl rfl rfl rfl ?_ | refine pB rfl rfl rfl rfl rfl rfl ?_
     refine goG rfl rfl ?_
     refine pE rfl ?_
     refine goG rfl rfl ?_
     refine pE rfl ?_
     refine goG rfl rfl ?_
     iterate 2 refine pE rfl ?_
     refine WO.nil (qs ?_)
     refine condK rfl (fun h27 => ?_) (fun h27 => ?_)
     ·
      refine W.region ?_
      iterate 3 refine pE rfl ?_
      first | refine pE rfl ?_ | refine pR rfl rfl rfl rfl rfl ?_ | refine pB rfl rfl rfl rfl rfl rfl ?_
      have hlt : skipB (bys s) i15 < (bys s).length := by rw [bytes_len]; simp at h27; omega
      have hp : parseJ (bys s) = .no (skipB (bys s) i15) 10 := by unfold parseJ; rw [hc15]; dsimp only; rw [if_pos hlt]
      refine callPk [] [] rfl rfl rfl rfl rfl (fails_fn (skipB (bys s) i15) 10) rfl rfl (by rfl) ?_
      repeat' first | refine qsPan ?_ | refine qbPan ?_ | refine qlPan ?_ | refine qcPan ?_
      rw [hp]
      exact ⟨⟨rfl, _, _, _, _, _, _, _, rfl, rfl, rfl⟩, rfl, rfl, rfl⟩
     ·
      have hlt : ¬ skipB (bys s) i15 < (bys s).length := by rw [bytes_len]; simp at h27; omega
      have hp : parseJ (bys s) = .ok y15 0 := by unfold parseJ; rw [hc15]; dsimp only; rw [if_neg hlt]
      refine W.skip (qs (W.seq (W.region ?_)))
      first | refine pE rfl ?_ | refine pR rfl rfl rfl rfl rfl ?_ | refine pB rfl rfl rfl rfl rfl rfl ?_
      iterate 3 refine storeR tab rfl rfl rfl rfl rfl rfl rfl rfl ?_
      refine WO.nil (qs (W.ret ?_))
      rw [hp]
      exact ⟨⟨rfl, rfl, rfl, rfl⟩, rfl, rfl, rfl⟩
  case hB =>
   rintro e ⟨tmps2, df⟩ w2 ⟨hd2, ⟨f2, bx2, lv2, gen2⟩, ⟨G2, hs2⟩, hq, k0, k1, k2⟩
   have hd2 : df = dfr 31 b0 b1 b2 :: C.ds := hd2
   subst hd2
   have hs2' : SimG { C with bx := [b0, b1, b2], ds := dfr 31 b0 b1 b2 :: C.ds } 34 ⟨f2, bx2, [], gen2⟩ G2 tmps2 w2 := { hs2 with live := fun g h => by cases h }
   rw [hgR]
   have hE := parse_e (l := bys s)
   have hpl := fun a w => parse_le (l := bys s) (a := a) (w := w)
   cases hA : parseJ (bys s) with
   | ok v i =>
    rw [hA] at hq
    obtain ⟨rfl, q0, q1, q2⟩ := hq
    show Leaves _ _ tmps2 _ (dfr 31 b0 b1 b2 :: C.ds) .returning w2
    rw [hds]
    refine leaves_cons (by simp) (inv31 b0 b1 b2 w2) (CallsD.mono (clo_ret hGC rfl hs2') ?_)
    rintro r u' w3 ⟨v3, G3, rfl, rfl, hs3⟩
    exact leaves_fin tab (rs := [.cell 2 26, .cell 3 3, .cell 4 29]) hbx hs2 k0 k1 k2 (sim3 hs3 q0 q1 q2) Tryd.results19 rfl rfl
   | no a w =>
    rw [hA] at hq hE
    obtain ⟨rfl, x0, x1, x2, x3, x4, y0, z0, q0, q1, q2⟩ := hq
    have ha : a ≤ s.size := by have := hpl a w hA; rwa [bytes_len] at this
    have hw : okc (.int .i64 (a : Int)) = true ∧ okc (.int .i64 w) = true := by
     refine ⟨by simp [okc, IntKind.min, IntKind.max, IntKind.signed, IntKind.bits]; omega, ?_⟩
     rcases hE with rfl | rfl | rfl | rfl <;> rfl
    show Leaves _ _ tmps2 _ (dfr 31 b0 b1 b2 :: C.ds) (.panicking [{ v := faultV 57 a w, recovered := false }]) w2
    rw [hds]
    refine leaves_cons (by simp) (inv31 b0 b1 b2 w2) (CallsD.mono (clo_pan hGC hw rfl hs2' q0 q1 q2) ?_)
    rintro r u' w3 ⟨v3, G3, bx3, gen3, rfl, rfl, r0, r1, r2, hs3⟩
    exact leaves_fin tab (rs := [.cell 2 26, .cell 3 3, .cell 4 29]) hbx hs2 k0 k1 k2 (sim3 hs3 r0 r1 r2) Tryd.results19 rfl rfl
end Go.Proofs.YtllkpgnpioojjaaDoor
namespace Go.Proofs.YtllkpgnpioojjaaDoor
open Go.Ab Go.Tb
set_option maxRecDepth 10000
attribute [local irreducible] W WO Pu QS QB QL QF QV QV1 CH QE
def parsed (s : ByteArray) : JV × Int × Int := if 65536 < s.size then (zeroJ, 0, 7) else match parseJ (bys s) with
 | .ok v _ => (v, 0, 0)
 | .no a w => (zeroJ, (a : Int), w)
theorem parseR_eq (s : ByteArray) : parseR s = .tup [.ag (parsed s).1.c, .d (ci (parsed s).2.1), .d (ci (parsed s).2.2)] := by
 unfold parseR parsed
 split
 · rfl
 · cases parseJ (bys s) <;> rfl
theorem parse_fn' (s : ByteArray) : Does Tryd.prog 19 [.d (.v (.string s))] (.tup [.ag (parsed s).1.c, .d (ci (parsed s).2.1), .d (ci (parsed s).2.2)]) 0 := by
 have := parse_fn s
 rwa [parseR_eq] at this
def faultS (s : ByteArray) (a e : Int) : Bool := eqJ (parsed s).1 zeroJ && (decide ((parsed s).2.1 = a) && decide ((parsed s).2.2 = e))
theorem fault_fn (s : ByteArray) (a e : Int) : Does Tryd.prog 21 [.d (.v (.string s)), .d (.v (.int .i64 a)), .d (.v (.int .i64 e))] (.d (.v (.bool (faultS s a e)))) 0 := by
 refine Does.of_W (n := 29) (ts := [6]) Tryd.func21 (by kernel_rfl) rfl Tryd.ntmps21 Tryd.results21 rfl rfl fun C hC hG => ?_
 refine W.seq (W.region ?_)
 refine pE rfl ?_
 refine WO.nil (qs (W.seq (W.region ?_)))
 refine pE rfl ?_
 refine pu (puCall rfl rfl rfl (parse_fn' s) rfl) rfl ?_
 iterate 4 refine pE rfl ?_
 refine allocR tab rfl rfl rfl ?_
 refine storeR tab rfl rfl rfl rfl rfl rfl rfl rfl ?_
 iterate 2 refine pE rfl ?_
 refine WO.nil (qs (W.seq ?_))
 apply regionB; (case hb => rfl)
 ·
  first | refine pE rfl ?_ | refine pR rfl rfl rfl rfl rfl ?_ | refine pB rfl rfl rfl rfl rfl rfl ?_
  refine pu (build tab rfl rfl rfl rfl) rfl ?_
  try refine nilO 17 rfl rfl rfl ?_
  refine pu (puCall rfl rfl rfl (rSame_fn (parsed s).1 zeroJ) rfl) rfl ?_
  refine pE rfl ?_
  apply splitJ; (case hj => rfl); (case hl => rfl)
  ·
   refine goG rfl rfl ?_
   refine pE rfl ?_
   refine goG rfl rfl ?_
   refine pE rfl ?_
   refine goG rfl rfl ?_
   iterate 3 refine pE rfl ?_
   apply splitJ; (case hj => rfl); (case hl => rfl)
   ·
    refine goG rfl rfl ?_
    refine pE rfl ?_
    refine goG rfl rfl ?_
    refine pE rfl ?_
    refine goG rfl rfl ?_
    iterate 3 refine pE rfl ?_
    refine WO.nil ?_
    refine qv1 rfl rfl rfl
   ·
    iterate 3 refine skipT rfl rfl rfl rfl ?_
    iterate 2 refine pE rfl ?_
    refine WO.nil ?_
    refine qv1 rfl rfl rfl
  ·
   iterate 3 refine skipT rfl rfl rfl rfl ?_
   iterate 2 refine pE rfl ?_
   iterate 3 refine skipT rfl rfl rfl rfl ?_
   iterate 2 refine pE rfl ?_
   refine WO.nil ?_
   refine qv1 rfl rfl rfl
 refine qs (W.ret ?_)
 refine QF.ret0 trivial rfl ?_
 unfold faultS; first | rfl | (simp only [norm, oneA, scal]; cases eqJ (parsed s).1 zeroJ <;> cases decide ((parsed s).2.1 = a) <;> rfl)
end Go.Proofs.YtllkpgnpioojjaaDoor
namespace Go.Proofs.YtllkpgnpioojjaaDoor
open Go.Ab Go.Tb
set_option maxRecDepth 10000
attribute [local irreducible] W WO Pu QS QB QL QF QV QV1 CH QE
def alistJ : JV := .mk 5 0 (B #[]) [] [.mk 1 0 (B #[]) [] [], .mk 2 1 (B #[]) [] [], .mk 3 (-3) (B #[]) [] []]
def txtJ (s : ByteArray) : JV := .mk 4 0 s [] []
def wantJ : JV := .mk 6 0 (B #[]) [B #[97], B #[98]] [alistJ, txtJ (B #[120, 9, 121])]
instance : DecidableEq (JV × Int × Int) := inferInstance
theorem aw1 : parsed (B #[32, 123, 34, 97, 34, 58, 32, 91, 110, 117, 108, 108, 44, 32, 116, 114, 117, 101, 44, 32, 45, 51, 93, 44, 32, 34, 98, 34, 58, 32, 34, 120, 92, 116, 121, 34, 125, 32]) = (wantJ, 0, 0) := by decide +kernel
theorem aw2 : checkJ wantJ 1 = 0 ∧ textOf wantJ = B #[123, 34, 97, 34, 58, 91, 110, 117, 108, 108, 44, 116, 114, 117, 101, 44, 45, 51, 93, 44, 34, 98, 34, 58, 34, 120, 92, 116, 121, 34, 125] := by decide +kernel
theorem aw3 : checkJ (txtJ (B #[34, 10, 47])) 1 = 0 ∧ textOf (txtJ (B #[34, 10, 47])) = B #[34, 92, 34, 92, 110, 47, 34] := by decide +kernel
theorem aw4 : parsed (B #[45, 48]) = (.mk 3 0 (B #[]) [] [], 0, 0) := by decide +kernel
theorem aw5 : getJ wantJ (B #[98]) = some (txtJ (B #[120, 9, 121])) ∧ getJ wantJ (B #[99]) = none := by decide +kernel
theorem aw6 : eqJ wantJ wantJ = true := by decide +kernel
theorem af0 : faultS (B #[91, 49, 44, 93]) 3 10 = true := by decide +kernel
theorem af1 : faultS (B #[91, 49]) 2 10 = true := by decide +kernel
theorem af2 : faultS (B #[48, 49]) 1 10 = true := by decide +kernel
theorem af3 : faultS (B #[]) 0 10 = true := by decide +kernel
theorem af4 : faultS (B #[34, 92, 117, 48, 48, 55, 102, 34]) 6 10 = true := by decide +kernel
theorem af5 : faultS (B #[123, 34, 97, 34, 58, 49, 44, 34, 97, 34, 58, 50, 125]) 7 4 = true := by decide +kernel
theorem af6 : faultS (B #[91, 49, 48, 48, 48, 48, 48, 48, 48, 48, 48, 48, 48, 48, 48, 48, 49, 120]) 1 2 = true := by decide +kernel
theorem af7 : faultS (B #[91, 91, 91, 91, 91, 91, 91, 91, 91, 91, 91, 91, 91, 91, 91, 91, 91]) 16 20 = true := by decide +kernel
theorem awp1 : Does Tryd.prog 19 [.d (.v (.string (B #[32, 123, 34, 97, 34, 58, 32, 91, 110, 117, 108, 108, 44, 32, 116, 114, 117, 101, 44, 32, 45, 51, 93, 44, 32, 34, 98, 34, 58, 32, 34, 120, 92, 116, 121, 34, 125, 32])))] (.tup [.ag wantJ.c, .d (ci 0), .d (ci 0)]) 0 := by
 have h := parse_fn' (B #[32, 123, 34, 97, 34, 58, 32, 91, 110, 117, 108, 108, 44, 32, 116, 114, 117, 101, 44, 32, 45, 51, 93, 44, 32, 34, 98, 34, 58, 32, 34, 120, 92, 116, 121, 34, 125, 32])
 rw [aw1] at h
 exact h
theorem awp4 : Does Tryd.prog 19 [.d (.v (.string (B #[45, 48])))] (.tup [.ag (JV.mk 3 0 (B #[]) [] []).c, .d (ci 0), .d (ci 0)]) 0 := by
 have h := parse_fn' (B #[45, 48])
 rw [aw4] at h
 exact h
theorem awp2 : Does Tryd.prog 11 [.ag wantJ.c] (.tup [.d (.v (.string (B #[123, 34, 97, 34, 58, 91, 110, 117, 108, 108, 44, 116, 114, 117, 101, 44, 45, 51, 93, 44, 34, 98, 34, 58, 34, 120, 92, 116, 121, 34, 125]))), .d (ci 0)]) 0 := by
 have h := pPrint_fn wantJ (fun _ => by decide +kernel)
 rw [aw2.1, aw2.2] at h
 exact h
theorem awp3 : Does Tryd.prog 11 [.ag (txtJ (B #[34, 10, 47])).c] (.tup [.d (.v (.string (B #[34, 92, 34, 92, 110, 47, 34]))), .d (ci 0)]) 0 := by
 have h := pPrint_fn (txtJ (B #[34, 10, 47])) (fun _ => by decide +kernel)
 rw [aw3.1, aw3.2] at h
 exact h
theorem awp5 : Does Tryd.prog 13 [.ag wantJ.c, .d (.v (.string (B #[98])))] (.tup [.ag (txtJ (B #[120, 9, 121])).c, .d (.v (.bool true))]) 0 := by
 have h := pGet_fn wantJ (B #[98])
 rw [aw5.1] at h
 exact h
theorem awp6 : Does Tryd.prog 13 [.ag wantJ.c, .d (.v (.string (B #[99])))] (.tup [.ag zeroJ.c, .d (.v (.bool false))]) 0 := by
 have h := pGet_fn wantJ (B #[99])
 rw [aw5.2] at h
 exact h
theorem awp7 : Does Tryd.prog 17 [.ag wantJ.c, .ag wantJ.c] (.d (.v (.bool true))) 0 := by
 have h := rSame_fn wantJ wantJ
 rw [aw6] at h
 exact h
theorem awp8 : Does Tryd.prog 18 [.ag wantJ.c, .ag wantJ.c] (.d (.v (.bool true))) 0 := by
 have h := pSame_fn wantJ wantJ
 rw [aw6] at h
 exact h
theorem awf0 : Does Tryd.prog 21 [.d (.v (.string (B #[91, 49, 44, 93]))), .d (.v (.int .i64 3)), .d (.v (.int .i64 10))] (.d (.v (.bool true))) 0 := by
 have h := fault_fn (B #[91, 49, 44, 93]) 3 10
 rw [af0] at h
 exact h
theorem awf1 : Does Tryd.prog 21 [.d (.v (.string (B #[91, 49]))), .d (.v (.int .i64 2)), .d (.v (.int .i64 10))] (.d (.v (.bool true))) 0 := by
 have h := fault_fn (B #[91, 49]) 2 10
 rw [af1] at h
 exact h
theorem awf2 : Does Tryd.prog 21 [.d (.v (.string (B #[48, 49]))), .d (.v (.int .i64 1)), .d (.v (.int .i64 10))] (.d (.v (.bool true))) 0 := by
 have h := fault_fn (B #[48, 49]) 1 10
 rw [af2] at h
 exact h
theorem awf3 : Does Tryd.prog 21 [.d (.v (.string (B #[]))), .d (.v (.int .i64 0)), .d (.v (.int .i64 10))] (.d (.v (.bool true))) 0 := by
 have h := fault_fn (B #[]) 0 10
 rw [af3] at h
 exact h
theorem awf4 : Does Tryd.prog 21 [.d (.v (.string (B #[34, 92, 117, 48, 48, 55, 102, 34]))), .d (.v (.int .i64 6)), .d (.v (.int .i64 10))] (.d (.v (.bool true))) 0 := by
 have h := fault_fn (B #[34, 92, 117, 48, 48, 55, 102, 34]) 6 10
 rw [af4] at h
 exact h
theorem awf5 : Does Tryd.prog 21 [.d (.v (.string (B #[123, 34, 97, 34, 58, 49, 44, 34, 97, 34, 58, 50, 125]))), .d (.v (.int .i64 7)), .d (.v (.int .i64 4))] (.d (.v (.bool true))) 0 := by
 have h := fault_fn (B #[123, 34, 97, 34, 58, 49, 44, 34, 97, 34, 58, 50, 125]) 7 4
 rw [af5] at h
 exact h
theorem awf6 : Does Tryd.prog 21 [.d (.v (.string (B #[91, 49, 48, 48, 48, 48, 48, 48, 48, 48, 48, 48, 48, 48, 48, 48, 49, 120]))), .d (.v (.int .i64 1)), .d (.v (.int .i64 2))] (.d (.v (.bool true))) 0 := by
 have h := fault_fn (B #[91, 49, 48, 48, 48, 48, 48, 48, 48, 48, 48, 48, 48, 48, 48, 48, 49, 120]) 1 2
 rw [af6] at h
 exact h
theorem awf7 : Does Tryd.prog 21 [.d (.v (.string (B #[91, 91, 91, 91, 91, 91, 91, 91, 91, 91, 91, 91, 91, 91, 91, 91, 91]))), .d (.v (.int .i64 16)), .d (.v (.int .i64 20))] (.d (.v (.bool true))) 0 := by
 have h := fault_fn (B #[91, 91, 91, 91, 91, 91, 91, 91, 91, 91, 91, 91, 91, 91, 91, 91, 91]) 16 20
 rw [af7] at h
 exact h
theorem awake_fn : Does Tryd.prog 10 [] (.d (.v (.bool true))) 0 := by
 refine Does.of_W (n := 139) (ts := [0]) Tryd.func10 (by kernel_rfl) rfl Tryd.ntmps10 Tryd.results10 rfl rfl fun C hC hG => ?_
 refine W.seq (W.region ?_)
 refine pE rfl ?_
 refine WO.nil (qs (W.seq (W.region ?_)))
 refine pu (puCall rfl rfl rfl awp1 rfl) rfl ?_
 iterate 4 refine pE rfl ?_
 refine allocR tab rfl rfl rfl ?_
 refine storeR tab rfl rfl rfl rfl rfl rfl rfl rfl ?_
 iterate 2 refine pE rfl ?_
 refine WO.nil (qs (W.seq (W.region ?_)))
 refine pu (build tab rfl rfl rfl rfl) rfl ?_
 try refine nilS 22 rfl rfl rfl ?_
 refine pu (build tab rfl rfl rfl rfl) rfl ?_
 try refine nilS 23 rfl rfl rfl ?_
 refine pu (build tab rfl rfl rfl rfl) rfl ?_
 try refine nilS 24 rfl rfl rfl ?_
 refine pu (buildV tab rfl rfl rfl rfl rfl rfl rfl rfl rfl) rfl ?_
 refine pu (build tab rfl rfl rfl rfl) rfl ?_
 try refine nilS 26 rfl rfl rfl ?_
 refine allocR tab rfl rfl rfl ?_
 refine storeR tab rfl rfl rfl rfl rfl rfl rfl rfl ?_
 refine WO.nil (qs (W.seq (W.region ?_)))
 refine pu (buildV tab rfl rfl rfl rfl rfl rfl rfl rfl rfl) rfl ?_
 first | refine pE rfl ?_ | refine pR rfl rfl rfl rfl rfl ?_ | refine pB rfl rfl rfl rfl rfl rfl ?_
 refine pu (build tab rfl rfl rfl rfl) rfl ?_
 try refine nilS 29 rfl rfl rfl ?_
 refine pu (buildV tab rfl rfl rfl rfl rfl rfl rfl rfl rfl) rfl ?_
 refine pu (build tab rfl rfl rfl rfl) rfl ?_
 try refine nilS 31 rfl rfl rfl ?_
 refine allocR tab rfl rfl rfl ?_
 refine storeR tab rfl rfl rfl rfl rfl rfl rfl rfl ?_
 refine WO.nil (qs (W.seq (W.region ?_)))
 first | refine pE rfl ?_ | refine pR rfl rfl rfl rfl rfl ?_ | refine pB rfl rfl rfl rfl rfl rfl ?_
 refine pu (puCall rfl rfl rfl awp2 rfl) rfl ?_
 iterate 5 refine pE rfl ?_
 refine WO.nil (qs (W.seq (W.region ?_)))
 refine pu (build tab rfl rfl rfl rfl) rfl ?_
 try refine nilS 38 rfl rfl rfl ?_
 refine pu (puCall rfl rfl rfl awp3 rfl) rfl ?_
 iterate 5 refine pE rfl ?_
 refine WO.nil (qs (W.seq (W.region ?_)))
 refine pu (puCall rfl rfl rfl awp4 rfl) rfl ?_
 iterate 4 refine pE rfl ?_
 refine allocR tab rfl rfl rfl ?_
 refine storeR tab rfl rfl rfl rfl rfl rfl rfl rfl ?_
 iterate 2 refine pE rfl ?_
 refine WO.nil (qs (W.seq (W.region ?_)))
 first | refine pE rfl ?_ | refine pR rfl rfl rfl rfl rfl ?_ | refine pB rfl rfl rfl rfl rfl rfl ?_
 refine pu (puCall rfl rfl rfl awp5 rfl) rfl ?_
 iterate 3 refine pE rfl ?_
 refine allocR tab rfl rfl rfl ?_
 refine storeR tab rfl rfl rfl rfl rfl rfl rfl rfl ?_
 refine pE rfl ?_
 refine WO.nil (qs (W.seq (W.region ?_)))
 first | refine pE rfl ?_ | refine pR rfl rfl rfl rfl rfl ?_ | refine pB rfl rfl rfl rfl rfl rfl ?_
 refine pu (puCall rfl rfl rfl awp6 rfl) rfl ?_
 iterate 3 refine pE rfl ?_
 refine allocR tab rfl rfl rfl ?_
 refine storeR tab rfl rfl rfl rfl rfl rfl rfl rfl ?_
 refine pE rfl ?_
 refine WO.nil (qs ?_)
 iterate 2 refine W.seq ?_
 refine W.region ?_
 first | refine pE rfl ?_ | refine pR rfl rfl rfl rfl rfl ?_ | refine pB rfl rfl rfl rfl rfl rfl ?_
 first | refine pE rfl ?_ | refine pR rfl rfl rfl rfl rfl ?_ | refine pB rfl rfl rfl rfl rfl rfl ?_
 refine pu (puCall rfl rfl rfl awp7 rfl) rfl ?_
 iterate 2 refine pE rfl ?_
 refine splitG rfl rfl (fun g61 => ?_) (fun g61 => ?_)
 ·
  exfalso
  exact absurd g61 (by decide)
 ·
  refine goG rfl rfl ?_
  first | refine pE rfl ?_ | refine pR rfl rfl rfl rfl rfl ?_ | refine pB rfl rfl rfl rfl rfl rfl ?_
  refine goG rfl rfl ?_
  first | refine pE rfl ?_ | refine pR rfl rfl rfl rfl rfl ?_ | refine pB rfl rfl rfl rfl rfl rfl ?_
  refine goG rfl rfl ?_
  refine pu (puCall rfl rfl rfl awp8 rfl) rfl ?_
  refine goG rfl rfl ?_
  iterate 3 refine pE rfl ?_
  refine splitG rfl rfl (fun g67 => ?_) (fun g67 => ?_)
  ·
   exfalso
   exact absurd g67 (by decide)
  ·
   refine goG rfl rfl ?_
   refine pE rfl ?_
   refine goG rfl rfl ?_
   iterate 3 refine pE rfl ?_
   refine splitG rfl rfl (fun g71 => ?_) (fun g71 => ?_)
   ·
    exfalso
    exact absurd g71 (by decide)
   ·
    refine goG rfl rfl ?_
    refine pE rfl ?_
    refine goG rfl rfl ?_
    iterate 3 refine pE rfl ?_
    refine splitG rfl rfl (fun g75 => ?_) (fun g75 => ?_)
    ·
     exfalso
     exact absurd g75 (by decide)
    ·
     refine goG rfl rfl ?_
     refine pE rfl ?_
     refine goG rfl rfl ?_
     iterate 3 refine pE rfl ?_
     refine splitG rfl rfl (fun g79 => ?_) (fun g79 => ?_)
     ·
      exfalso
      exact absurd g79 (by decide)
     ·
      refine goG rfl rfl ?_
      refine pE rfl ?_
      refine goG rfl rfl ?_
      iterate 3 refine pE rfl ?_
      refine splitG rfl rfl (fun g83 => ?_) (fun g83 => ?_)
      ·
       exfalso
       exact absurd g83 (by decide)
      ·
       refine goG rfl rfl ?_
       refine pE rfl ?_
       refine goG rfl rfl ?_
       iterate 3 refine pE rfl ?_
       refine splitG rfl rfl (fun g87 => ?_) (fun g87 => ?_)
       ·
        exfalso
        exact absurd g87 (by decide)
       ·
        refine goG rfl rfl ?_
        refine pE rfl ?_
        refine goG rfl rfl ?_
        iterate 3 refine pE rfl ?_
        refine splitG rfl rfl (fun g91 => ?_) (fun g91 => ?_)
        ·
         exfalso
         exact absurd g91 (by decide)
        ·
         refine goG rfl rfl ?_
         refine pE rfl ?_
         refine goG rfl rfl ?_
         iterate 3 refine pE rfl ?_
         refine splitG rfl rfl (fun g95 => ?_) (fun g95 => ?_)
         ·
          exfalso
          exact absurd g95 (by decide)
         ·
          refine goG rfl rfl ?_
          refine pE rfl ?_
          refine goG rfl rfl ?_
          first | refine pE rfl ?_ | refine pR rfl rfl rfl rfl rfl ?_ | refine pB rfl rfl rfl rfl rfl rfl ?_
          refine goG rfl rfl ?_
          iterate 3 refine pE rfl ?_
          refine splitG rfl rfl (fun g100 => ?_) (fun g100 => ?_)
          ·
           exfalso
           exact absurd g100 (by decide)
          ·
           refine goG rfl rfl ?_
           refine pE rfl ?_
           refine goG rfl rfl ?_
           first | refine pE rfl ?_ | refine pR rfl rfl rfl rfl rfl ?_ | refine pB rfl rfl rfl rfl rfl rfl ?_
           refine goG rfl rfl ?_
           iterate 3 refine pE rfl ?_
           refine splitG rfl rfl (fun g105 => ?_) (fun g105 => ?_)
           ·
            exfalso
            exact absurd g105 (by decide)
           ·
            refine goG rfl rfl ?_
            refine pE rfl ?_
            refine goG rfl rfl ?_
            iterate 3 refine pE rfl ?_
            refine splitG rfl rfl (fun g109 => ?_) (fun g109 => ?_)
            ·
             exfalso
             exact absurd g109 (by decide)
            ·
             refine goG rfl rfl ?_
             refine pE rfl ?_
             refine goG rfl rfl ?_
             first | refine pE rfl ?_ | refine pR rfl rfl rfl rfl rfl ?_ | refine pB rfl rfl rfl rfl rfl rfl ?_
             refine goG rfl rfl ?_
             iterate 3 refine pE rfl ?_
             refine splitG rfl rfl (fun g114 => ?_) (fun g114 => ?_)
             ·
              exfalso
              exact absurd g114 (by decide)
             ·
              refine goG rfl rfl ?_
              iterate 2 refine pE rfl ?_
              refine WO.nil (qs ?_)
              refine condK rfl (fun h116 => ?_) (fun h116 => ?_)
              ·
               exfalso
               exact absurd h116 (by decide)
              ·
               refine W.skip (qs (W.seq (W.region ?_)))
               refine pu (puCall rfl rfl rfl awf0 rfl) rfl ?_
               refine pE rfl ?_
               refine splitG rfl rfl (fun g118 => ?_) (fun g118 => ?_)
               ·
                refine goG rfl rfl ?_
                refine pu (puCall rfl rfl rfl awf1 rfl) rfl ?_
                iterate 2 refine pE rfl ?_
                refine splitG rfl rfl (fun g121 => ?_) (fun g121 => ?_)
                ·
                 refine goG rfl rfl ?_
                 refine pu (puCall rfl rfl rfl awf2 rfl) rfl ?_
                 iterate 2 refine pE rfl ?_
                 refine splitG rfl rfl (fun g124 => ?_) (fun g124 => ?_)
                 ·
                  refine goG rfl rfl ?_
                  refine pu (puCall rfl rfl rfl awf3 rfl) rfl ?_
                  iterate 2 refine pE rfl ?_
                  refine splitG rfl rfl (fun g127 => ?_) (fun g127 => ?_)
                  ·
                   refine goG rfl rfl ?_
                   refine pu (puCall rfl rfl rfl awf4 rfl) rfl ?_
                   iterate 2 refine pE rfl ?_
                   refine splitG rfl rfl (fun g130 => ?_) (fun g130 => ?_)
                   ·
                    refine goG rfl rfl ?_
                    refine pu (puCall rfl rfl rfl awf5 rfl) rfl ?_
                    iterate 2 refine pE rfl ?_
                    refine splitG rfl rfl (fun g133 => ?_) (fun g133 => ?_)
                    ·
                     refine goG rfl rfl ?_
                     refine pu (puCall rfl rfl rfl awf6 rfl) rfl ?_
                     iterate 2 refine pE rfl ?_
                     refine splitG rfl rfl (fun g136 => ?_) (fun g136 => ?_)
                     ·
                      refine goG rfl rfl ?_
                      refine pu (puCall rfl rfl rfl awf7 rfl) rfl ?_
                      iterate 2 refine pE rfl ?_
                      refine WO.nil (qs (W.ret ?_))
                      refine QF.ret0 trivial rfl ?_
                      rfl
                     ·
                      exfalso
                      exact absurd g136 (by decide)
                    ·
                     exfalso
                     exact absurd g133 (by decide)
                   ·
                    exfalso
                    exact absurd g130 (by decide)
                  ·
                   exfalso
                   exact absurd g127 (by decide)
                 ·
                  exfalso
                  exact absurd g124 (by decide)
                ·
                 exfalso
                 exact absurd g121 (by decide)
               ·
                exfalso
                exact absurd g118 (by decide)
end Go.Proofs.YtllkpgnpioojjaaDoor
namespace Go.Proofs.YtllkpgnpioojjaaDoor
open Go.Ab Go.Tb
set_option maxRecDepth 10000
attribute [local irreducible] W WO Pu QS QB QL QF QV QV1 CH QE
inductive FitJ : JV → Prop
 | mk (j : JV) (hs : j.s.size ≤ maxLen) (hk : j.keys.length ≤ maxLen) (hks : ∀ s ∈ j.keys, s.size ≤ maxLen) (hz : ∀ z ∈ j.kids, FitJ z) : FitJ j
end Go.Proofs.YtllkpgnpioojjaaDoor
namespace Go.Proofs.YtllkpgnpioojjaaDoor
open Go.Ab Go.Tb
set_option maxRecDepth 10000
attribute [local irreducible] W WO Pu QS QB QL QF QV QV1 CH QE
end Go.Proofs.YtllkpgnpioojjaaDoor
namespace Go.Proofs.YtllkpgnpioojjaaDoor
open Go.Ab Go.Tb
set_option maxRecDepth 10000
attribute [local irreducible] W WO Pu QS QB QL QF QV QV1 CH QE
theorem eqJ_refl (a : JV) : eqJ a a = true := (eqJ_iff a a).2 rfl
end Go.Proofs.YtllkpgnpioojjaaDoor
namespace Go.Proofs.YtllkpgnpioojjaaDoor
open Go.Ab Go.Tb
set_option maxRecDepth 10000
attribute [local irreducible] W WO Pu QS QB QL QF QV QV1 CH QE
theorem bys_cat (a b : ByteArray) : bys (a ++ b) = bys a ++ bys b := by show (a ++ b).data.toList = _; rw [ByteArray.data_append, Array.toList_append]; rfl
end Go.Proofs.YtllkpgnpioojjaaDoor
namespace Go.Proofs.YtllkpgnpioojjaaDoor
open Go.Ab Go.Tb
set_option maxRecDepth 10000
attribute [local irreducible] W WO Pu QS QB QL QF QV QV1 CH QE
end Go.Proofs.YtllkpgnpioojjaaDoor
namespace Go.Proofs.YtllkpgnpioojjaaDoor
open Go.Ab Go.Tb
set_option maxRecDepth 10000
attribute [local irreducible] W WO Pu QS QB QL QF QV QV1 CH QE
end Go.Proofs.YtllkpgnpioojjaaDoor
namespace Go.Proofs.YtllkpgnpioojjaaDoor
open Go.Ab Go.Tb
set_option maxRecDepth 10000
attribute [local irreducible] W WO Pu QS QB QL QF QV QV1 CH QE
def nestJ : Nat → JV
 | 0 => .mk 3 7 (B #[]) [] []
 | i + 1 => .mk 5 0 (B #[]) [] [nestJ i]
def opB (i : Nat) : ByteArray := bytesOf (List.replicate i 91)
def clB (i : Nat) : ByteArray := bytesOf (List.replicate i 93)
theorem bytes_snoc (i : Nat) (c : UInt8) : bytesOf (List.replicate i c) ++ B #[c] = bytesOf (List.replicate (i + 1) c) := bys_inj (by show bys _ = bys _; rw [bys_cat, bys_bytesOf, bys_bytesOf, List.replicate_succ']; rfl)
theorem opB_size (i : Nat) : (opB i).size = i := by show ((List.replicate i (91 : UInt8)).toArray).size = i; simp
theorem clB_size (i : Nat) : (clB i).size = i := by show ((List.replicate i (93 : UInt8)).toArray).size = i; simp
theorem nests : ∀ k : Fin 41, parsed (opB k.val ++ B #[55] ++ clB k.val) = (if 16 < k.val then (zeroJ, 16, 20) else (nestJ k.val, 0, 0)) ∧ checkJ (nestJ k.val) 1 = (if 16 < k.val then 20 else 0) ∧ textOf (nestJ k.val) = (if 16 < k.val then B #[] else opB k.val ++ B #[55] ++ clB k.val) ∧ (printJ (nestJ k.val)).length ≤ 1000 := by decide +kernel
theorem jnests_fn (m : Int) (hu : okc (.int .u8 m) = true) : Does Tryd.prog 8 [.d (.v (.int .u8 m))] (.d (.v (.bool true))) 0 := by
 have hm : 0 ≤ m ∧ m ≤ 255 := by simpa [okc, IntKind.min, IntKind.max, IntKind.signed, IntKind.bits] using hu
 obtain ⟨k, hk, hk40⟩ : ∃ k : Nat, m.tmod 41 = (k : Int) ∧ k ≤ 40 := by
  have h1 := Int.tmod_nonneg 41 hm.1
  have h2 := Int.tmod_lt_of_pos m (show (0 : Int) < 41 by decide)
  exact ⟨(m.tmod 41).toNat, by omega, by omega⟩
 obtain ⟨e1, e2, e3, e4⟩ := nests ⟨k, by omega⟩
 have e1 : parsed (opB k ++ B #[55] ++ clB k) = (if 16 < k then (zeroJ, 16, 20) else (nestJ k, 0, 0)) := e1
 have e2 : checkJ (nestJ k) 1 = (if 16 < k then 20 else 0) := e2
 have e3 : textOf (nestJ k) = (if 16 < k then B #[] else opB k ++ B #[55] ++ clB k) := e3
 have hq1 := parse_fn' (opB k ++ B #[55] ++ clB k)
 have hq2 := pPrint_fn (nestJ k) (fun _ => Nat.le_trans e4 (by decide))
 rw [e1] at hq1
 rw [e2, e3] at hq2
 refine Does.of_W (n := 88) (ts := [2]) Tryd.func8 (by kernel_rfl) rfl Tryd.ntmps8 Tryd.results8 rfl rfl fun C hC hG => ?_
 refine W.seq (W.region ?_)
 refine pE rfl ?_
 refine WO.nil (qs (W.seq (W.region ?_)))
 refine pE rfl ?_
 refine pu (puI (remR rfl rfl (by decide) (by rw [hk]; simp [okc, IntKind.min, IntKind.max, IntKind.signed, IntKind.bits]; omega)) (y := (k : Int)) hk) rfl ?_
 refine pu (puI (ev tab rfl) (y := (k : Int)) (wrap64 (by omega))) rfl ?_
 refine pE rfl ?_
 refine WO.nil (qs (W.seq (W.region ?_)))
 iterate 2 refine pE rfl ?_
 refine WO.nil (qs (W.seq (W.region ?_)))
 refine pu (build tab rfl rfl rfl rfl) rfl ?_
 try refine nilS 16 rfl rfl rfl ?_
 refine allocR tab rfl rfl rfl ?_
 refine storeR tab rfl rfl rfl rfl rfl rfl rfl rfl ?_
 refine WO.nil (qs ?_)
 iterate 2 refine W.seq ?_
 refine W.region ?_
 refine pE rfl ?_
 refine WO.nil (qs (W.block ?_))
 refine W.loopR (ι := {x : Nat // match x with | i => i ≤ k ∧ True})
  (fun x => match x.1 with | i => [(3, .d (.v (.int .i64 ((k : Nat) : Int)))), (4, .d (.v (.string (opB i)))), (5, .d (.v (.string (clB i)))), (6, .ptr 0 0), (7, .d (.v (.int .i64 ((i : Nat) : Int))))]) []
  (fun x => match x.1 with | i => [(0, [.d (ci (nestJ i).op), .d (ci (nestJ i).n), .d (cs (nestJ i).s), .d (.sl ((nestJ i).keys.map sc)), .d (.sl (nestJ i).kc)])]) [] [] 1 (fun x => match x.1 with | i => k - i)
  [0] ⟨0, ?_⟩ rfl ?_ trivial ?_ trivial rfl ?_
 · exact ⟨Nat.zero_le _, trivial⟩
 · repeat' first | exact trivial | refine ⟨rfl, ?_⟩ | refine ⟨congrArg some (renL_boxE _ _ _), ?_⟩ | refine ⟨step_nat (by assumption) (by assumption), ?_⟩
 · repeat' first | exact trivial | refine ⟨rfl, ?_⟩ | refine ⟨congrArg some (renL_boxE _ _ _), ?_⟩ | refine ⟨step_nat (by assumption) (by assumption), ?_⟩
 rintro ⟨i, hik, hT⟩
 show W _ _ _ _ _ ⟨[(3, .d (.v (.int .i64 ((k : Nat) : Int)))), (4, .d (.v (.string (opB i)))), (5, .d (.v (.string (clB i)))), (6, .ptr 0 0), (7, .d (.v (.int .i64 ((i : Nat) : Int))))], [(0, [.d (ci (nestJ i).op), .d (ci (nestJ i).n), .d (cs (nestJ i).s), .d (.sl ((nestJ i).keys.map sc)), .d (.sl (nestJ i).kc)])], [], 1⟩
 iterate 2 refine W.seq ?_
 refine W.region ?_
 iterate 3 refine pE rfl ?_
 refine WO.nil (qs ?_)
 refine condK rfl (fun h19 => ?_) (fun h19 => ?_)
 ·
  have hlt : i < k := by simp at h19; omega
  refine W.skip (qs (W.seq (W.block (W.seq (W.region ?_)))))
  refine pE rfl ?_
  refine pu (puS (strAdd rfl rfl (by rw [opB_size]; show i + 1 ≤ _; omega)) (bytes_snoc i 91)) rfl ?_
  refine pE rfl ?_
  refine WO.nil (qs (W.seq (W.region ?_)))
  refine pE rfl ?_
  refine pu (puS (strAdd rfl rfl (by rw [clB_size]; show i + 1 ≤ _; omega)) (bytes_snoc i 93)) rfl ?_
  refine pE rfl ?_
  refine WO.nil (qs (W.region ?_))
  first | refine pE rfl ?_ | refine pR rfl rfl rfl rfl rfl ?_ | refine pB rfl rfl rfl rfl rfl rfl ?_
  refine pu (buildV tab rfl rfl rfl rfl rfl rfl rfl rfl rfl) rfl ?_
  refine pu (build tab rfl rfl rfl rfl) rfl ?_
  try refine nilS 28 rfl rfl rfl ?_
  refine storeR tab rfl rfl rfl rfl rfl rfl rfl rfl ?_
  refine WO.nil (qbN (qs (W.region ?_)))
  refine pE rfl ?_
  refine pu (puI (ev tab rfl) (y := ((i + 1 : Nat) : Int)) (by rw [wrap64 (by omega)]; rfl)) rfl ?_
  refine pE rfl ?_
  refine WO.nil ?_
  refine W.endR [0] ⟨i + 1, ?_⟩ ?_ rfl ?_ trivial ?_ trivial rfl
  · exact ⟨hlt, trivial⟩
  · dsimp only; omega
  · repeat' first | exact trivial | refine ⟨rfl, ?_⟩ | refine ⟨congrArg some (renL_boxE _ _ _), ?_⟩ | refine ⟨step_nat (by assumption) (by assumption), ?_⟩
  · repeat' first | exact trivial | refine ⟨rfl, ?_⟩ | refine ⟨congrArg some (renL_boxE _ _ _), ?_⟩ | refine ⟨step_nat (by assumption) (by assumption), ?_⟩
 ·
  have hi : i = k := by simp at h19; omega
  subst hi
  refine W.exit (qsExit (qlExit (qbExit (qs (W.seq (W.region ?_))))))
  refine pE rfl ?_
  refine pu (strAdd rfl rfl (by rw [opB_size]; show i + 1 ≤ _; omega)) rfl ?_
  refine pE rfl ?_
  refine pu (strAdd rfl rfl (by rw [ByteArray.size_append, opB_size, clB_size]; show i + 1 + i ≤ _; omega)) rfl ?_
  refine pu (puCall rfl rfl rfl hq1 rfl) rfl ?_
  iterate 4 refine pE rfl ?_
  refine allocR tab rfl rfl rfl ?_
  refine storeR tab rfl rfl rfl rfl rfl rfl rfl rfl ?_
  iterate 2 refine pE rfl ?_
  refine WO.nil (qs (W.seq (W.region ?_)))
  first | refine pE rfl ?_ | refine pR rfl rfl rfl rfl rfl ?_ | refine pB rfl rfl rfl rfl rfl rfl ?_
  refine pu (puCall rfl rfl rfl hq2 rfl) rfl ?_
  iterate 5 refine pE rfl ?_
  refine WO.nil (qs ?_)
  iterate 2 refine W.seq ?_
  refine W.region ?_
  iterate 2 refine pE rfl ?_
  refine WO.nil (qs ?_)
  refine condK rfl (fun h44 => ?_) (fun h44 => ?_)
  ·
   have h16 : 16 < i := by simp at h44; omega
   refine W.seq ?_
   apply regionB; (case hb => rfl)
   ·
    iterate 3 refine pE rfl ?_
    apply splitJ; (case hj => rfl); (case hl => rfl)
    ·
     refine goG rfl rfl ?_
     refine pE rfl ?_
     refine goG rfl rfl ?_
     iterate 3 refine pE rfl ?_
     apply splitJ; (case hj => rfl); (case hl => rfl)
     ·
      refine goG rfl rfl ?_
      refine pE rfl ?_
      refine goG rfl rfl ?_
      iterate 3 refine pE rfl ?_
      apply splitJ; (case hj => rfl); (case hl => rfl)
      ·
       refine goG rfl rfl ?_
       refine pE rfl ?_
       refine goG rfl rfl ?_
       iterate 3 refine pE rfl ?_
       apply splitJ; (case hj => rfl); (case hl => rfl)
       ·
        refine goG rfl rfl ?_
        refine pu (puCall rfl rfl rfl (awake_fn ..) rfl) rfl ?_
        iterate 2 refine pE rfl ?_
        refine WO.nil ?_
        refine qv1 rfl rfl rfl
       ·
        refine skipT rfl rfl rfl rfl ?_
        iterate 2 refine pE rfl ?_
        refine WO.nil ?_
        refine qv1 rfl rfl rfl
      ·
       iterate 2 refine skipT rfl rfl rfl rfl ?_
       iterate 2 refine pE rfl ?_
       refine skipT rfl rfl rfl rfl ?_
       iterate 2 refine pE rfl ?_
       refine WO.nil ?_
       refine qv1 rfl rfl rfl
     ·
      iterate 2 refine skipT rfl rfl rfl rfl ?_
      iterate 2 refine pE rfl ?_
      iterate 2 refine skipT rfl rfl rfl rfl ?_
      iterate 2 refine pE rfl ?_
      refine skipT rfl rfl rfl rfl ?_
      iterate 2 refine pE rfl ?_
      refine WO.nil ?_
      refine qv1 rfl rfl rfl
    ·
     iterate 2 refine skipT rfl rfl rfl rfl ?_
     iterate 2 refine pE rfl ?_
     iterate 2 refine skipT rfl rfl rfl rfl ?_
     iterate 2 refine pE rfl ?_
     iterate 2 refine skipT rfl rfl rfl rfl ?_
     iterate 2 refine pE rfl ?_
     refine skipT rfl rfl rfl rfl ?_
     iterate 2 refine pE rfl ?_
     refine WO.nil ?_
     refine qv1 rfl rfl rfl
   refine qs (W.ret (qsRet ?_))
   refine QF.ret0 trivial rfl ?_
   simp [norm, oneA, h16]
  ·
   have h16 : ¬ 16 < i := by simp at h44; omega
   refine W.skip (qs (W.seq ?_))
   apply regionB; (case hb => rfl)
   ·
    iterate 3 refine pE rfl ?_
    apply splitJ; (case hj => rfl); (case hl => rfl)
    ·
     refine goG rfl rfl ?_
     refine pE rfl ?_
     refine goG rfl rfl ?_
     iterate 3 refine pE rfl ?_
     apply splitJ; (case hj => rfl); (case hl => rfl)
     ·
      refine goG rfl rfl ?_
      first | refine pE rfl ?_ | refine pR rfl rfl rfl rfl rfl ?_ | refine pB rfl rfl rfl rfl rfl rfl ?_
      refine goG rfl rfl ?_
      first | refine pE rfl ?_ | refine pR rfl rfl rfl rfl rfl ?_ | refine pB rfl rfl rfl rfl rfl rfl ?_
      refine goG rfl rfl ?_
      refine pu (puCall rfl rfl rfl (pSame_fn (if 16 < i then (zeroJ, (16 : Int), (20 : Int)) else (nestJ i, 0, 0)).1 (nestJ i)) rfl) rfl ?_
      iterate 2 refine pE rfl ?_
      apply splitJ; (case hj => rfl); (case hl => rfl)
      ·
       refine goG rfl rfl ?_
       refine pE rfl ?_
       refine goG rfl rfl ?_
       iterate 3 refine pE rfl ?_
       apply splitJ; (case hj => rfl); (case hl => rfl)
       ·
        refine goG rfl rfl ?_
        refine pE rfl ?_
        refine goG rfl rfl ?_
        refine pE rfl ?_
        refine goG rfl rfl ?_
        refine pu (strAdd rfl rfl (by rw [opB_size]; show i + 1 ≤ _; omega)) rfl ?_
        refine goG rfl rfl ?_
        refine pE rfl ?_
        refine goG rfl rfl ?_
        refine pu (strAdd rfl rfl (by rw [ByteArray.size_append, opB_size, clB_size]; show i + 1 + i ≤ _; omega)) rfl ?_
        refine goG rfl rfl ?_
        iterate 3 refine pE rfl ?_
        apply splitJ; (case hj => rfl); (case hl => rfl)
        ·
         refine goG rfl rfl ?_
         refine pu (puCall rfl rfl rfl (awake_fn ..) rfl) rfl ?_
         iterate 2 refine pE rfl ?_
         refine WO.nil ?_
         refine qv1 rfl rfl rfl
        ·
         refine skipT rfl rfl rfl rfl ?_
         iterate 2 refine pE rfl ?_
         refine WO.nil ?_
         refine qv1 rfl rfl rfl
       ·
        iterate 6 refine skipT rfl rfl rfl rfl ?_
        iterate 2 refine pE rfl ?_
        refine skipT rfl rfl rfl rfl ?_
        iterate 2 refine pE rfl ?_
        refine WO.nil ?_
        refine qv1 rfl rfl rfl
      ·
       iterate 2 refine skipT rfl rfl rfl rfl ?_
       iterate 2 refine pE rfl ?_
       iterate 6 refine skipT rfl rfl rfl rfl ?_
       iterate 2 refine pE rfl ?_
       refine skipT rfl rfl rfl rfl ?_
       iterate 2 refine pE rfl ?_
       refine WO.nil ?_
       refine qv1 rfl rfl rfl
     ·
      iterate 3 refine skipT rfl rfl rfl rfl ?_
      iterate 2 refine pE rfl ?_
      iterate 2 refine skipT rfl rfl rfl rfl ?_
      iterate 2 refine pE rfl ?_
      iterate 6 refine skipT rfl rfl rfl rfl ?_
      iterate 2 refine pE rfl ?_
      refine skipT rfl rfl rfl rfl ?_
      iterate 2 refine pE rfl ?_
      refine WO.nil ?_
      refine qv1 rfl rfl rfl
    ·
     iterate 2 refine skipT rfl rfl rfl rfl ?_
     iterate 2 refine pE rfl ?_
     iterate 3 refine skipT rfl rfl rfl rfl ?_
     iterate 2 refine pE rfl ?_
     iterate 2 refine skipT rfl rfl rfl rfl ?_
     iterate 2 refine pE rfl ?_
     iterate 6 refine skipT rfl rfl rfl rfl ?_
     iterate 2 refine pE rfl ?_
     refine skipT rfl rfl rfl rfl ?_
     iterate 2 refine pE rfl ?_
     refine WO.nil ?_
     refine qv1 rfl rfl rfl
   refine qs (W.ret ?_)
   refine QF.ret0 trivial rfl ?_
   simp [norm, oneA, h16, eqJ_refl]
end Go.Proofs.YtllkpgnpioojjaaDoor
