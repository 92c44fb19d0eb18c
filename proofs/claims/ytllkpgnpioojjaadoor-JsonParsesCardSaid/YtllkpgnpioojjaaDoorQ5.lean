import Derived.Test.YtllkpgnpioojjaaDoorQ4
namespace Go.Proofs.YtllkpgnpioojjaaDoor
open Go.Ab Go.Tb
set_option maxRecDepth 10000
attribute [local irreducible] W WO Pu QS QB QL QF QV QV1 CH QE
theorem jvc_obj (keys : List ByteArray) (acc : List JV) : (JV.mk 6 0 (B #[]) keys acc).c = [ci 6, ci 0, cs (B #[]), .sl (keys.map sc), .sl (acc.map JV.c)] := by simp [JV.c, JV.kc_eq, JV.op, JV.n, JV.s, JV.keys, JV.kids]
theorem object_step (s : ByteArray) (K : Nat) (hs : s.size ≤ 1000000000) (hV : ValD s K) (level : Int) (i0 : Nat) (hi : i0 ≤ s.size) (hl1 : 1 ≤ level) (hl2 : level ≤ 16) (hK : 3 * (s.size - i0) + 3 ≤ K) :
  DoesE Tryd.prog 53 [.ptr 0 0, .d (.v (.int .i64 level))] [pbox s i0] 0 (outP 57 s (fun v : JV => .ag v.c) (objJ (bys s) K level i0)) := by
 have hle : skipB (bys s) i0 ≤ s.size := by have := skipB_le (l := bys s) (i := i0) (by rw [bytes_len]; exact hi); rwa [bytes_len] at this
 have hge := skipB_ge (bys s) i0
 obtain ⟨K', rfl⟩ : ∃ K', K = K' + 1 := ⟨K - 1, by omega⟩
 have hv := objJ_eq (bys s) K' level i0
 generalize hA : objJ (bys s) (K' + 1) level i0 = A at hv ⊢
 clear hA
 refine DoesE.of_V tab (n := 61) (rs := [.cell 4 26]) Tryd.func53 (by kernel_rfl) rfl Tryd.ntmps53 Tryd.results53 rfl (outP_len ..) fun C hC hG => ?_
 refine W.seq (W.region ?_)
 refine allocR tab rfl rfl rfl ?_
 refine WO.nil (qs (W.seq (W.region ?_)))
 refine pu (build tab rfl rfl rfl rfl) rfl ?_
 refine allocR tab rfl rfl rfl ?_
 refine storeR tab rfl rfl rfl rfl rfl rfl rfl rfl ?_
 refine WO.nil (qs ?_)
 iterate 2 refine W.seq ?_
 refine W.region ?_
 refine pE rfl ?_
 refine callB [0] [] rfl rfl rfl rfl rfl ((peek_fn s i0 hi hs)) rfl rfl (by rfl) (by rfl) rfl rfl rfl rfl ?_
 refine pE rfl ?_
 refine WO.nil (qs ?_)
 refine condK rfl (fun h13 => ?_) (fun h13 => ?_)
 ·
  rw [if_pos (eq_of (d := 125) h13)] at hv
  have hjs : skipB (bys s) i0 < s.size := by
   have := here_lt (l := bys s) (i := skipB (bys s) i0) (by rw [eq_of (d := 125) h13]; decide)
   rwa [bytes_len] at this
  refine W.seq (W.region ?_)
  iterate 3 refine pE rfl ?_
  first | refine pE rfl ?_ | refine pR rfl rfl rfl rfl rfl ?_ | refine pB rfl rfl rfl rfl rfl rfl ?_
  refine pu (puI (ev tab rfl) (y := ((skipB (bys s) i0 + 1 : Nat) : Int)) (wrap64 (by omega))) rfl ?_
  iterate 2 refine pE rfl ?_
  refine storeR tab rfl rfl rfl rfl rfl rfl rfl rfl ?_
  refine WO.nil (qs (W.seq (W.region ?_)))
  first | refine pE rfl ?_ | refine pR rfl rfl rfl rfl rfl ?_ | refine pB rfl rfl rfl rfl rfl rfl ?_
  refine storeR tab rfl rfl rfl rfl rfl rfl rfl rfl ?_
  refine WO.nil (qs ?_)
  try refine nilBox 1 3 rfl rfl rfl ?_
  try refine nilBox 1 4 rfl rfl rfl ?_
  refine W.ret (qsRet ?_)
  refine qxRet (outP_ok (hv)) ?_
  refine QB1.end tab [] trivial rfl rfl rfl rfl ?_ ?_
  · exact ⟨rfl, trivial⟩
  rfl
 ·
  rw [if_neg (ne_of (d := 125) h13)] at hv
  refine W.skip (qs (W.seq (W.region ?_)))
  refine mkMap rfl ?_
  refine pE rfl ?_
  refine WO.nil (qs ?_)
  iterate 2 refine W.seq ?_
  refine W.region ?_
  refine pE rfl ?_
  refine WO.nil (qs (W.block ?_))
  refine ownNilBox 2 3 rfl rfl rfl ?_
  refine ownNilBox 2 4 rfl rfl rfl ?_
  refine W.loopR (ι := {x : Nat × Nat × List ByteArray × List JV × Bool // match x with | (k, j, keys, acc, on) => k ≤ K' ∧ keys.Nodup ∧ (on = true → j ≤ s.size ∧ keys.length ≤ j ∧ acc.length ≤ j ∧ 3 * (s.size - j) + 2 ≤ k ∧ objGo (bys s) k level j keys acc = A) ∧ (on = false → A = .ok (.mk 6 0 (B #[]) keys acc) j)})
   (fun x => match x.1 with | (k, j, keys, acc, on) => [(0, .ptr 0 0), (1, .d (.v (.int .i64 level))), (4, .ptr 1 0), (5, .ptr 2 0), (6, .mp 3 (mes sk bv (seenM keys))), (7, .d (.v (.bool on)))]) []
   (fun x => match x.1 with | (k, j, keys, acc, on) => [(0, pbox s j), (2, [.d (ci 6), .d (ci 0), .d (cs (B #[])), .own 4 (keys.map sc), .own 5 (acc.map JV.c)])]) [(1, _)] [5, 4, 3] 6 (fun x => match x.1 with | (k, j, keys, acc, on) => k)
   [0, 1, 2, 4, 5, 6] ⟨(K', skipB (bys s) i0, [], [], true), ?_⟩ rfl ?_ trivial ?_ ⟨rfl, rfl, trivial⟩ rfl ?_
  · exact ⟨Nat.le_refl _, List.nodup_nil, fun _ => ⟨hle, Nat.zero_le _, Nat.zero_le _, by omega, hv.symm⟩, fun h => by cases h⟩
  · repeat' first | exact trivial | refine ⟨rfl, ?_⟩ | refine ⟨congrArg some (renL_boxE _ _ _), ?_⟩ | refine ⟨step_nat (by assumption) (by assumption), ?_⟩
  · repeat' first | exact trivial | refine ⟨rfl, ?_⟩ | refine ⟨congrArg some (renL_boxE _ _ _), ?_⟩ | refine ⟨step_nat (by assumption) (by assumption), ?_⟩
  rintro ⟨⟨k, j, keys, acc, on⟩, hkK, hn, hT, hF⟩
  show W _ _ _ _ _ ⟨[(0, .ptr 0 0), (1, .d (.v (.int .i64 level))), (4, .ptr 1 0), (5, .ptr 2 0), (6, .mp 3 (mes sk bv (seenM keys))), (7, .d (.v (.bool on)))], [(0, pbox s j), (2, [.d (ci 6), .d (ci 0), .d (cs (B #[])), .own 4 (keys.map sc), .own 5 (acc.map JV.c)]), (1, _)], [5, 4, 3], 6⟩
  iterate 2 refine W.seq ?_
  refine W.region ?_
  refine pE rfl ?_
  refine WO.nil (qs ?_)
  refine condK rfl (fun h23 => ?_) (fun h23 => ?_)
  ·
   obtain ⟨hj, hka, ha, hk, hI⟩ := hT h23
   obtain ⟨k', rfl⟩ : ∃ k', k = k' + 1 := ⟨k - 1, by omega⟩
   rw [objGo_eq] at hI
   have hle1 : skipB (bys s) j ≤ s.size := by have := skipB_le (l := bys s) (i := j) (by rw [bytes_len]; exact hj); rwa [bytes_len] at this
   have hge1 := skipB_ge (bys s) j
   have hbt := textJ_bd (l := bys s) (i := skipB (bys s) j) (by rw [bytes_len]; exact hle1)
   refine W.skip (qs (W.seq (W.block (W.seq (W.region ?_)))))
   refine pE rfl ?_
   refine callB [0] [] rfl rfl rfl rfl rfl ((peek_fn s j hj hs)) rfl rfl (by rfl) (by rfl) rfl rfl rfl rfl ?_
   refine WO.nil (qs (W.seq (W.region ?_)))
   iterate 3 refine pE rfl ?_
   first | refine pE rfl ?_ | refine pR rfl rfl rfl rfl rfl ?_ | refine pB rfl rfl rfl rfl rfl rfl ?_
   refine pE rfl ?_
   refine WO.nil (qs (W.seq (W.region ?_)))
   refine pE rfl ?_
   cases hc33 : textJ (bys s) (skipB (bys s) j) with
   | no a33 w33 =>
    refine callP [0] [] rfl rfl rfl rfl rfl ((ptext_fn s (skipB (bys s) j) hle1 hs).pan (outP_no hc33)) rfl rfl (by rfl) (fun st' => ?_)
    repeat' first | refine qsPan ?_ | refine qbPan ?_ | refine qlPan ?_ | refine qcPan ?_
    refine qxPan (outP_no (by rw [← hI, hc33]))
   | ok y33 i33 =>
    refine callB [0] [] rfl rfl rfl rfl rfl ((ptext_fn s (skipB (bys s) j) hle1 hs).ret (outP_ok hc33)) rfl rfl (by rfl) (by rfl) rfl rfl rfl rfl ?_
    rw [hc33] at hI hbt
    dsimp only at hI
    have hb1 : skipB (bys s) j < i33 := hbt.1
    have hb2 : i33 ≤ s.size := by have := hbt.2; rwa [bytes_len] at this
    have hle2 : skipB (bys s) i33 ≤ s.size := by have := skipB_le (l := bys s) (i := i33) (by rw [bytes_len]; exact hb2); rwa [bytes_len] at this
    have hge2 := skipB_ge (bys s) i33
    refine pE rfl ?_
    refine WO.nil (qs ?_)
    iterate 2 refine W.seq ?_
    refine W.region ?_
    iterate 2 refine pE rfl ?_
    refine pu (mapGet (kf := sk) (vf := bv) (l := seenM keys) (a := bytesOf y33) (z := false) (zx := .bool false) tab rfl rfl rfl rfl rfl (keyStr (tab.u_str rfl rfl)) rfl rfl rfl (fun w pv => .v _ rfl) (by rw [seenM_keys]; exact hn) (congrArg bv (seenM_get hn (bytesOf y33)))) rfl ?_
    refine WO.nil (qs ?_)
    refine condK rfl (fun h36 => ?_) (fun h36 => ?_)
    ·
     rw [if_pos h36] at hI
     refine W.region ?_
     refine pE rfl ?_
     refine callP [] [] rfl rfl rfl rfl rfl (fails_fn (skipB (bys s) j) 4) rfl rfl (by rfl) (fun st' => ?_)
     repeat' first | refine qsPan ?_ | refine qbPan ?_ | refine qlPan ?_ | refine qcPan ?_
     exact qxPan (outP_no hI.symm)
    ·
     rw [if_neg (by rw [h36]; decide)] at hI
     have hn2 := nodup_snoc hn h36
     refine W.skip (qs (W.seq (W.region ?_)))
     iterate 2 refine pE rfl ?_
     refine mapPut (kf := sk) (vf := bv) (l := seenM keys) (a := bytesOf y33) (y := true) tab 6 rfl rfl rfl rfl rfl rfl rfl (keyStr (tab.u_str rfl rfl)) rfl rfl (by rw [seenM_keys]; exact hn) (congrArg (mes sk bv) (seenM_put h36)) rfl ?_
     refine WO.nil (qs (W.seq (W.region ?_)))
     refine pE rfl ?_
     refine callB [0] [] rfl rfl rfl rfl rfl ((peek_fn s i33 hb2 hs)) rfl rfl (by rfl) (by rfl) rfl rfl rfl rfl ?_
     refine WO.nil (qs (W.seq (W.region ?_)))
     refine pE rfl ?_
     cases hc44 : takeJ (bys s) 58 (skipB (bys s) i33) with
     | no a44 w44 =>
      refine callP [0] [] rfl rfl rfl rfl rfl ((take_fn s 58 (skipB (bys s) i33) hs).pan (outP_no hc44)) rfl rfl (by rfl) (fun st' => ?_)
      repeat' first | refine qsPan ?_ | refine qbPan ?_ | refine qlPan ?_ | refine qcPan ?_
      refine qxPan (outP_no (by rw [← hI, hc44]))
     | ok y44 i44 =>
      refine callB [0] [] rfl rfl rfl rfl rfl ((take_fn s 58 (skipB (bys s) i33) hs).ret (outP_ok hc44)) rfl rfl (by rfl) (by rfl) rfl rfl rfl rfl ?_
      rw [hc44] at hI
      dsimp only at hI
      obtain ⟨e44, hlt44⟩ := takeJ_at hc44
      rw [bytes_len] at hlt44
      have hb := (allBd (bys s) k').v (level + 1) i44 (by rw [bytes_len]; omega)
      refine WO.nil (qs ?_)
      cases hc55 : valJ (bys s) k' (level + 1) i44 with
      | no a55 w55 =>
       refine' W.regionP2 tab (faultV 57 a55 w55) [11, 8, 5] 12 _ [4, 10, 11, 12] 14 (by kernel_rfl) (by kernel_rfl) rfl rfl (fun st => ?hQ_1) ?hL_1
       case hQ_1 =>
        repeat' first | refine qsPan ?_ | refine qbPan ?_ | refine qlPan ?_ | refine qcPan ?_
        refine qxPan (outP_no (by rw [← hI, hc55]))
       case' hL_1 => skip
       refine' cdPu' (ev tab rfl) ?p_2 rfl rfl rfl (by kernel_rfl) rfl ?h_2
       case' h_2 => skip
       first | (refine' cdPu' (ev tab rfl) ?p_3 rfl rfl rfl (by kernel_rfl) rfl ?h_3) | (refine' cdPu' (loadRow tab rfl rfl rfl rfl) ?p_3 rfl rfl rfl (by kernel_rfl) rfl ?h_3) | (refine' cdPu' (loadBox tab rfl rfl rfl rfl rfl) ?p_3 rfl rfl rfl (by kernel_rfl) rfl ?h_3)
       case' h_3 => skip
       refine' cdPu' (ev tab rfl) ?p_4 rfl rfl rfl (by kernel_rfl) rfl ?h_4
       case' h_4 => skip
       refine' cdPu' (buildV tab rfl rfl rfl rfl rfl rfl rfl rfl rfl) ?p_5 rfl rfl rfl (by kernel_rfl) rfl ?h_5
       case' h_5 => skip
       refine' cdX ?x_6 rfl rfl rfl (by kernel_rfl) (fun h => (alwNo h (by kernel_rfl)).elim) rfl ?h_6
       case x_6 =>
        intro b hb g; cases b
        · exact (alwNo hb (by kernel_rfl)).elim
        ·
         refine appendM (fn := sc) (a := bytesOf y33) tab rfl rfl rfl rfl rfl rfl rfl rfl rfl rfl (fun _ => rfl) (by show (keys.length + 1) * 16 ≤ _; omega) ?_
         refine WO.nil ?_
         refine' stE1 rfl ?_ ?_ ?_ ?_
         all_goals try exact rfl
       case' h_6 => skip
       refine' cdPu' (ev tab rfl) ?p_7 rfl rfl rfl (by kernel_rfl) rfl ?h_7
       case' h_7 => skip
       first | (refine' cdPu' (ev tab rfl) ?p_8 rfl rfl rfl (by kernel_rfl) rfl ?h_8) | (refine' cdPu' (loadRow tab rfl rfl rfl rfl) ?p_8 rfl rfl rfl (by kernel_rfl) rfl ?h_8) | (refine' cdPu' (loadBox tab rfl rfl rfl rfl rfl) ?p_8 rfl rfl rfl (by kernel_rfl) rfl ?h_8)
       case' h_8 => skip
       refine' cdPu' (ev tab rfl) ?p_9 rfl rfl rfl (by kernel_rfl) rfl ?h_9
       case' h_9 => skip
       refine' cdPu' (ev tab rfl) ?p_10 rfl rfl rfl (by kernel_rfl) rfl ?h_10
       case' h_10 => skip
       refine' cdPu' (puI (ev tab rfl) (y := level + 1) (wrap64 (by omega))) ?p_11 rfl rfl rfl (by kernel_rfl) rfl ?h_11
       case' h_11 => skip
       refine' cdP ?x_12 rfl rfl rfl (by kernel_rfl) rfl ?h_12
       case x_12 =>
        intro b hb g; cases b
        · exact (alwNo hb (by kernel_rfl)).elim
        · exact callP [0] [] rfl rfl rfl rfl rfl ((hV k' (by omega) (level + 1) i44 (by omega) (by omega) (by omega) (by omega)).pan (outP_no hc55)) rfl rfl (by rfl) (fun st' => ⟨_, rfl, rfl⟩)
       case' h_12 => skip
       refine cdB 55 rfl rfl rfl rfl (by kernel_rfl) rfl ?_
       refine cdB 56 rfl rfl rfl rfl (by kernel_rfl) rfl ?_
       refine' cdPu' (ev tab rfl) ?p_15 rfl rfl rfl (by kernel_rfl) rfl ?h_15
       case' h_15 => skip
       case p_2 => refine ⟨fun ha => (alwNo ha (by kernel_rfl)).elim, ?_, fun ha => (alwNo ha (by kernel_rfl)).elim, ?_, fun ha => (alwNo ha (by kernel_rfl)).elim, ?_, fun ha => (alwNo ha (by kernel_rfl)).elim, ?_, fun ha => (alwNo ha (by kernel_rfl)).elim, ?_⟩ <;> intro ha <;> first | exact ⟨ev tab rfl, fun h => nomatch h⟩ | exact (alwNo ha (by kernel_rfl)).elim
       case p_3 => refine ⟨fun ha => (alwNo ha (by kernel_rfl)).elim, ?_, fun ha => (alwNo ha (by kernel_rfl)).elim, ?_, fun ha => (alwNo ha (by kernel_rfl)).elim, ?_, fun ha => (alwNo ha (by kernel_rfl)).elim, ?_, fun ha => (alwNo ha (by kernel_rfl)).elim, ?_⟩ <;> intro ha <;> first | exact ⟨ev tab rfl, fun h => nomatch h⟩ | exact ⟨loadRow tab rfl rfl rfl rfl, fun h => nomatch h⟩ | exact ⟨loadBox tab rfl rfl rfl rfl rfl, fun h => nomatch h⟩ | exact (alwNo ha (by kernel_rfl)).elim
       case p_4 => refine ⟨fun ha => (alwNo ha (by kernel_rfl)).elim, ?_, fun ha => (alwNo ha (by kernel_rfl)).elim, ?_, fun ha => (alwNo ha (by kernel_rfl)).elim, ?_, fun ha => (alwNo ha (by kernel_rfl)).elim, ?_, fun ha => (alwNo ha (by kernel_rfl)).elim, ?_⟩ <;> intro ha <;> first | exact ⟨ev tab rfl, fun h => nomatch h⟩ | exact (alwNo ha (by kernel_rfl)).elim
       case p_5 => refine ⟨fun ha => (alwNo ha (by kernel_rfl)).elim, ?_, fun ha => (alwNo ha (by kernel_rfl)).elim, ?_, fun ha => (alwNo ha (by kernel_rfl)).elim, ?_, fun ha => (alwNo ha (by kernel_rfl)).elim, ?_, fun ha => (alwNo ha (by kernel_rfl)).elim, ?_⟩ <;> intro ha <;> first | exact ⟨buildV tab rfl rfl rfl rfl rfl rfl rfl rfl rfl, fun h => nomatch h⟩ | exact (alwNo ha (by kernel_rfl)).elim
       case p_7 => refine ⟨fun ha => (alwNo ha (by kernel_rfl)).elim, ?_, fun ha => (alwNo ha (by kernel_rfl)).elim, ?_, fun ha => (alwNo ha (by kernel_rfl)).elim, ?_, fun ha => (alwNo ha (by kernel_rfl)).elim, ?_, fun ha => (alwNo ha (by kernel_rfl)).elim, ?_⟩ <;> intro ha <;> first | exact ⟨ev tab rfl, fun h => nomatch h⟩ | exact (alwNo ha (by kernel_rfl)).elim
       case p_8 => refine ⟨fun ha => (alwNo ha (by kernel_rfl)).elim, ?_, fun ha => (alwNo ha (by kernel_rfl)).elim, ?_, fun ha => (alwNo ha (by kernel_rfl)).elim, ?_, fun ha => (alwNo ha (by kernel_rfl)).elim, ?_, fun ha => (alwNo ha (by kernel_rfl)).elim, ?_⟩ <;> intro ha <;> first | exact ⟨ev tab rfl, fun h => nomatch h⟩ | exact ⟨loadRow tab rfl rfl rfl rfl, fun h => nomatch h⟩ | exact ⟨loadBox tab rfl rfl rfl rfl rfl, fun h => nomatch h⟩ | exact (alwNo ha (by kernel_rfl)).elim
       case p_9 => refine ⟨fun ha => (alwNo ha (by kernel_rfl)).elim, ?_, fun ha => (alwNo ha (by kernel_rfl)).elim, ?_, fun ha => (alwNo ha (by kernel_rfl)).elim, ?_, fun ha => (alwNo ha (by kernel_rfl)).elim, ?_, fun ha => (alwNo ha (by kernel_rfl)).elim, ?_⟩ <;> intro ha <;> first | exact ⟨ev tab rfl, fun h => nomatch h⟩ | exact (alwNo ha (by kernel_rfl)).elim
       case p_10 => refine ⟨fun ha => (alwNo ha (by kernel_rfl)).elim, ?_, fun ha => (alwNo ha (by kernel_rfl)).elim, ?_, fun ha => (alwNo ha (by kernel_rfl)).elim, ?_, fun ha => (alwNo ha (by kernel_rfl)).elim, ?_, fun ha => (alwNo ha (by kernel_rfl)).elim, ?_⟩ <;> intro ha <;> first | exact ⟨ev tab rfl, fun h => nomatch h⟩ | exact (alwNo ha (by kernel_rfl)).elim
       case p_11 => refine ⟨fun ha => (alwNo ha (by kernel_rfl)).elim, ?_, fun ha => (alwNo ha (by kernel_rfl)).elim, ?_, fun ha => (alwNo ha (by kernel_rfl)).elim, ?_, fun ha => (alwNo ha (by kernel_rfl)).elim, ?_, fun ha => (alwNo ha (by kernel_rfl)).elim, ?_⟩ <;> intro ha <;> first | exact ⟨puI (ev tab rfl) (y := level + 1) (wrap64 (by omega)), fun h => nomatch h⟩ | exact (alwNo ha (by kernel_rfl)).elim
       case p_15 => refine ⟨fun ha => (alwNo ha (by kernel_rfl)).elim, ?_, fun ha => (alwNo ha (by kernel_rfl)).elim, ?_, fun ha => (alwNo ha (by kernel_rfl)).elim, ?_, fun ha => (alwNo ha (by kernel_rfl)).elim, ?_, fun ha => (alwNo ha (by kernel_rfl)).elim, ?_⟩ <;> intro ha <;> first | exact ⟨ev tab rfl, fun h => nomatch h⟩ | exact (alwNo ha (by kernel_rfl)).elim
       refine CD.nil ?_ rfl
       exact botO 55 rfl
      | ok y55 i55 =>
       rw [hc55] at hI hb
       dsimp only at hI
       have hb3 : i44 < i55 := hb.1
       have hb4 : i55 ≤ s.size := by have := hb.2; rwa [bytes_len] at this
       have hbn := nextJ_bd (l := bys s) (c := 125) (i := i55) (by rw [bytes_len]; exact hb4)
       refine' W.regionLF tab (fun bx => [bx, (0, pbox s i55) :: bx, (0, pbox s i55) :: bx]) [[11, 8, 5], [11, 8, 5], [13, 11, 8]] [12, 13, 14] [4, 10, 12] 14 (by kernel_rfl) (by kernel_rfl) rfl rfl ?hL_16
       case' hL_16 => skip
       refine' cdPu' (ev tab rfl) ?p_17 rfl rfl rfl (by kernel_rfl) rfl ?h_17
       case' h_17 => skip
       first | (refine' cdPu' (ev tab rfl) ?p_18 rfl rfl rfl (by kernel_rfl) rfl ?h_18) | (refine' cdPu' (loadRow tab rfl rfl rfl rfl) ?p_18 rfl rfl rfl (by kernel_rfl) rfl ?h_18) | (refine' cdPu' (loadBox tab rfl rfl rfl rfl rfl) ?p_18 rfl rfl rfl (by kernel_rfl) rfl ?h_18)
       case' h_18 => skip
       refine' cdPu' (ev tab rfl) ?p_19 rfl rfl rfl (by kernel_rfl) rfl ?h_19
       case' h_19 => skip
       refine' cdPu' (buildV tab rfl rfl rfl rfl rfl rfl rfl rfl rfl) ?p_20 rfl rfl rfl (by kernel_rfl) rfl ?h_20
       case' h_20 => skip
       refine' cdX ?x_21 rfl rfl rfl (by kernel_rfl) (fun h => (alwNo h (by kernel_rfl)).elim) rfl ?h_21
       case x_21 =>
        intro b hb g; cases b
        · exact (alwNo hb (by kernel_rfl)).elim
        ·
         refine appendM (fn := sc) (a := bytesOf y33) tab rfl rfl rfl rfl rfl rfl rfl rfl rfl rfl (fun _ => rfl) (by show (keys.length + 1) * 16 ≤ _; omega) ?_
         refine WO.nil ?_
         refine' stE1 rfl ?_ ?_ ?_ ?_
         all_goals try exact rfl
       case' h_21 => skip
       refine' cdPu' (ev tab rfl) ?p_22 rfl rfl rfl (by kernel_rfl) rfl ?h_22
       case' h_22 => skip
       first | (refine' cdPu' (ev tab rfl) ?p_23 rfl rfl rfl (by kernel_rfl) rfl ?h_23) | (refine' cdPu' (loadRow tab rfl rfl rfl rfl) ?p_23 rfl rfl rfl (by kernel_rfl) rfl ?h_23) | (refine' cdPu' (loadBox tab rfl rfl rfl rfl rfl) ?p_23 rfl rfl rfl (by kernel_rfl) rfl ?h_23)
       case' h_23 => skip
       refine' cdPu' (ev tab rfl) ?p_24 rfl rfl rfl (by kernel_rfl) rfl ?h_24
       case' h_24 => skip
       refine' cdPu' (ev tab rfl) ?p_25 rfl rfl rfl (by kernel_rfl) rfl ?h_25
       case' h_25 => skip
       refine' cdPu' (puI (ev tab rfl) (y := level + 1) (wrap64 (by omega))) ?p_26 rfl rfl rfl (by kernel_rfl) rfl ?h_26
       case' h_26 => skip
       refine' cdX ?x_27 rfl rfl rfl (by kernel_rfl) (fun h => (alwNo h (by kernel_rfl)).elim) rfl ?h_27
       case x_27 =>
        intro b hb g; cases b
        · exact (alwNo hb (by kernel_rfl)).elim
        ·
         refine callB [0] [] rfl rfl rfl rfl rfl (((hV k' (by omega) (level + 1) i44 (by omega) (by omega) (by omega) (by omega)).ret (outP_ok hc55))) rfl rfl (by rfl) (by rfl) rfl rfl rfl rfl ?_
         refine WO.nil ?_
         refine' stE1 rfl ?_ ?_ ?_ ?_
         all_goals try exact rfl
       case' h_27 => skip
       refine' cdPu' (buildV tab rfl rfl rfl rfl rfl rfl rfl rfl rfl) ?p_28 rfl rfl rfl (by kernel_rfl) rfl ?h_28
       case' h_28 => skip
       refine' cdX ?x_29 rfl rfl rfl (by kernel_rfl) (fun h => (alwNo h (by kernel_rfl)).elim) rfl ?h_29
       case x_29 =>
        intro b hb g; cases b
        · exact (alwNo hb (by kernel_rfl)).elim
        ·
         refine appendM (fn := JV.c) (a := y55) tab rfl rfl rfl rfl rfl rfl rfl rfl rfl rfl (fun _ => rfl) (by show (acc.length + 1) * 80 ≤ _; omega) ?_
         refine WO.nil ?_
         refine' stE1 rfl ?_ ?_ ?_ ?_
         all_goals try exact rfl
       case' h_29 => skip
       case p_17 => refine ⟨fun ha => (alwNo ha (by kernel_rfl)).elim, ?_, fun ha => (alwNo ha (by kernel_rfl)).elim, ?_, fun ha => (alwNo ha (by kernel_rfl)).elim, ?_, fun ha => (alwNo ha (by kernel_rfl)).elim, ?_⟩ <;> intro ha <;> first | exact ⟨ev tab rfl, fun h => nomatch h⟩ | exact (alwNo ha (by kernel_rfl)).elim
       case p_18 => refine ⟨fun ha => (alwNo ha (by kernel_rfl)).elim, ?_, fun ha => (alwNo ha (by kernel_rfl)).elim, ?_, fun ha => (alwNo ha (by kernel_rfl)).elim, ?_, fun ha => (alwNo ha (by kernel_rfl)).elim, ?_⟩ <;> intro ha <;> first | exact ⟨ev tab rfl, fun h => nomatch h⟩ | exact ⟨loadRow tab rfl rfl rfl rfl, fun h => nomatch h⟩ | exact ⟨loadBox tab rfl rfl rfl rfl rfl, fun h => nomatch h⟩ | exact (alwNo ha (by kernel_rfl)).elim
       case p_19 => refine ⟨fun ha => (alwNo ha (by kernel_rfl)).elim, ?_, fun ha => (alwNo ha (by kernel_rfl)).elim, ?_, fun ha => (alwNo ha (by kernel_rfl)).elim, ?_, fun ha => (alwNo ha (by kernel_rfl)).elim, ?_⟩ <;> intro ha <;> first | exact ⟨ev tab rfl, fun h => nomatch h⟩ | exact (alwNo ha (by kernel_rfl)).elim
       case p_20 => refine ⟨fun ha => (alwNo ha (by kernel_rfl)).elim, ?_, fun ha => (alwNo ha (by kernel_rfl)).elim, ?_, fun ha => (alwNo ha (by kernel_rfl)).elim, ?_, fun ha => (alwNo ha (by kernel_rfl)).elim, ?_⟩ <;> intro ha <;> first | exact ⟨buildV tab rfl rfl rfl rfl rfl rfl rfl rfl rfl, fun h => nomatch h⟩ | exact (alwNo ha (by kernel_rfl)).elim
       case p_22 => refine ⟨fun ha => (alwNo ha (by kernel_rfl)).elim, ?_, fun ha => (alwNo ha (by kernel_rfl)).elim, ?_, fun ha => (alwNo ha (by kernel_rfl)).elim, ?_, fun ha => (alwNo ha (by kernel_rfl)).elim, ?_⟩ <;> intro ha <;> first | exact ⟨ev tab rfl, fun h => nomatch h⟩ | exact (alwNo ha (by kernel_rfl)).elim
       case p_23 => refine ⟨fun ha => (alwNo ha (by kernel_rfl)).elim, ?_, fun ha => (alwNo ha (by kernel_rfl)).elim, ?_, fun ha => (alwNo ha (by kernel_rfl)).elim, ?_, fun ha => (alwNo ha (by kernel_rfl)).elim, ?_⟩ <;> intro ha <;> first | exact ⟨ev tab rfl, fun h => nomatch h⟩ | exact ⟨loadRow tab rfl rfl rfl rfl, fun h => nomatch h⟩ | exact ⟨loadBox tab rfl rfl rfl rfl rfl, fun h => nomatch h⟩ | exact (alwNo ha (by kernel_rfl)).elim
       case p_24 => refine ⟨fun ha => (alwNo ha (by kernel_rfl)).elim, ?_, fun ha => (alwNo ha (by kernel_rfl)).elim, ?_, fun ha => (alwNo ha (by kernel_rfl)).elim, ?_, fun ha => (alwNo ha (by kernel_rfl)).elim, ?_⟩ <;> intro ha <;> first | exact ⟨ev tab rfl, fun h => nomatch h⟩ | exact (alwNo ha (by kernel_rfl)).elim
       case p_25 => refine ⟨fun ha => (alwNo ha (by kernel_rfl)).elim, ?_, fun ha => (alwNo ha (by kernel_rfl)).elim, ?_, fun ha => (alwNo ha (by kernel_rfl)).elim, ?_, fun ha => (alwNo ha (by kernel_rfl)).elim, ?_⟩ <;> intro ha <;> first | exact ⟨ev tab rfl, fun h => nomatch h⟩ | exact (alwNo ha (by kernel_rfl)).elim
       case p_26 => refine ⟨fun ha => (alwNo ha (by kernel_rfl)).elim, ?_, fun ha => (alwNo ha (by kernel_rfl)).elim, ?_, fun ha => (alwNo ha (by kernel_rfl)).elim, ?_, fun ha => (alwNo ha (by kernel_rfl)).elim, ?_⟩ <;> intro ha <;> first | exact ⟨puI (ev tab rfl) (y := level + 1) (wrap64 (by omega)), fun h => nomatch h⟩ | exact (alwNo ha (by kernel_rfl)).elim
       case p_28 => refine ⟨fun ha => (alwNo ha (by kernel_rfl)).elim, ?_, fun ha => (alwNo ha (by kernel_rfl)).elim, ?_, fun ha => (alwNo ha (by kernel_rfl)).elim, ?_, fun ha => (alwNo ha (by kernel_rfl)).elim, ?_⟩ <;> intro ha <;> first | exact ⟨buildV tab rfl rfl rfl rfl rfl rfl rfl rfl rfl, fun h => nomatch h⟩ | exact (alwNo ha (by kernel_rfl)).elim
       refine' cdPu' (ev tab rfl) ?p_30 rfl rfl rfl (by kernel_rfl) rfl ?h_30
       case' h_30 => skip
       case p_30 => refine ⟨fun ha => (alwNo ha (by kernel_rfl)).elim, ?_, fun ha => (alwNo ha (by kernel_rfl)).elim, ?_, fun ha => (alwNo ha (by kernel_rfl)).elim, ?_, fun ha => (alwNo ha (by kernel_rfl)).elim, ?_⟩ <;> intro ha <;> first | exact ⟨ev tab rfl, fun h => nomatch h⟩ | exact (alwNo ha (by kernel_rfl)).elim
       refine CD.nil ?_ rfl
       refine storeR tab rfl rfl rfl rfl rfl rfl rfl rfl ?_
       refine pE rfl ?_
       refine storeR tab rfl rfl rfl rfl rfl rfl rfl rfl ?_
       refine WO.nil (qbN (qs (W.region ?_)))
       refine pE rfl ?_
       cases hc25 : nextJ (bys s) 125 i55 with
       | no a25 w25 =>
        refine callP [0] [] rfl rfl rfl rfl rfl ((next_fn s 125 i55 hb4 hs).pan (outP_no hc25)) rfl rfl (by rfl) (fun st' => ?_)
        repeat' first | refine qsPan ?_ | refine qbPan ?_ | refine qlPan ?_ | refine qcPan ?_
        refine qxPan (outP_no (by rw [← hI, if_neg (next_no hc25).1, (next_no hc25).2]))
       | ok y25 i25 =>
        refine callB [0] [] rfl rfl rfl rfl rfl ((next_fn s 125 i55 hb4 hs).ret (outP_ok hc25)) rfl rfl (by rfl) (by rfl) rfl rfl rfl rfl ?_
        rw [hc25] at hbn
        have hb5 : i55 < i25 := hbn.1
        have hb6 : i25 ≤ s.size := by have := hbn.2; rwa [bytes_len] at this
        refine pE rfl ?_
        refine WO.nil ?_
        refine W.endR [0, 1, 2, 8, 11, 13] ⟨(k', i25, keys ++ [bytesOf y33], acc ++ [y55], y25), ?_⟩ ?_ rfl ?_ trivial ?_ ⟨rfl, rfl, trivial⟩ rfl
        ·
         refine ⟨by omega, hn2, fun h => ?_, fun h => ?_⟩
         ·
          subst h
          rw [if_pos (next_true hc25).1, ← (next_true hc25).2] at hI
          exact ⟨hb6, by rw [List.length_append, List.length_singleton]; omega, by rw [List.length_append, List.length_singleton]; omega, by omega, hI⟩
         ·
          subst h
          rw [if_neg (next_false hc25).1, (next_false hc25).2] at hI
          exact hI.symm
        · dsimp only; omega
        · repeat' first | exact trivial | refine ⟨rfl, ?_⟩ | refine ⟨congrArg some (renL_boxE _ _ _), ?_⟩ | refine ⟨step_nat (by assumption) (by assumption), ?_⟩
        · repeat' first | exact trivial | refine ⟨rfl, ?_⟩ | refine ⟨congrArg some (renL_boxE _ _ _), ?_⟩ | refine ⟨step_nat (by assumption) (by assumption), ?_⟩
  ·
   have hx := hF h23
   refine W.exit (qsExit (qlExit (qbExit (qs (W.seq (W.region ?_))))))
   first | refine pE rfl ?_ | refine pR rfl rfl rfl rfl rfl ?_ | refine pB rfl rfl rfl rfl rfl rfl ?_
   refine storeR tab rfl rfl rfl rfl rfl rfl rfl rfl ?_
   refine WO.nil (qs ?_)
   try refine nilBox 1 3 rfl rfl rfl ?_
   try refine nilBox 1 4 rfl rfl rfl ?_
   refine W.ret ?_
   refine qxRet (outP_ok (hx)) ?_
   refine QB1.end tab [] trivial rfl rfl rfl rfl ?_ ?_
   · exact ⟨rfl, trivial⟩
   rw [jvc_obj]
   rfl
end Go.Proofs.YtllkpgnpioojjaaDoor
namespace Go.Proofs.YtllkpgnpioojjaaDoor
open Go.Ab Go.Tb
set_option maxRecDepth 10000
attribute [local irreducible] W WO Pu QS QB QL QF QV QV1 CH QE
theorem value_all (s : ByteArray) (hs : s.size ≤ 1000000000) : ∀ K, ValD s K
 | 0 => fun k hk => by omega
 | K + 1 => fun k hk level i hl1 hl2 hi hf => by
  obtain ⟨k', rfl⟩ : ∃ k', k = k' + 1 := ⟨k - 1, by omega⟩
  have ih : ValD s k' := fun k hk2 => value_all s hs K k (by omega)
  exact value_step s k' hs level i hi (fun j h1 h2 h3 => array_step s k' hs ih level j h2 hl1 h3 (by omega)) (fun j h1 h2 h3 => object_step s k' hs ih level j h2 hl1 h3 (by omega))
theorem value_fn (s : ByteArray) (hs : s.size ≤ 1000000000) : DoesE Tryd.prog 32 [.ptr 0 0, .d (.v (.int .i64 1))] [pbox s 0] 0 (outP 57 s (fun v : JV => .ag v.c) (valJ (bys s) (3 * (bys s).length + 1) 1 0)) :=
 value_all s hs (3 * (bys s).length + 2) _ (Nat.lt_succ_self _) 1 0 (by decide) (by decide) (Nat.zero_le _) (by rw [bytes_len]; omega)
end Go.Proofs.YtllkpgnpioojjaaDoor
namespace Go.Proofs.YtllkpgnpioojjaaDoor
open Go.Ab Go.Tb
set_option maxRecDepth 10000
attribute [local irreducible] W WO Pu QS QB QL QF QV QV1 CH QE
abbrev zc : List A := [.d (ci 0), .d (ci 0), .d (cs (B #[])), .d (.sl []), .d (.sl [])]
theorem clo_sim {C : Ctx} {n : Nat} {f : List (Nat × A)} {bx : List (Nat × List A)} {gen : Nat} {G : Gh} {tmps : Array Value} {w : World} {b0 b1 b2 : Nat} {ds2 : List Deferred} (hbx : C.bx = [b0, b1, b2]) (hs : SimG C n ⟨f, bx, [], gen⟩ G tmps w) {X : Value} (hX : okc X = true) {k : Nat} (hk : k = 22) :
  SimG { C with bx := [b0, b1, b2], ds := ds2 } 22 ⟨[(3, .d (.v X)), (0, .ptr 0 0), (1, .ptr 1 0), (2, .ptr 2 0)], bx, [], gen⟩ G (((#[pp b0, pp b1, pp b2] ++ Array.replicate (k - #[pp b0, pp b1, pp b2].size) undef).setIfInBounds 6 X).setIfInBounds 3 X) w := by
 subst hk
 have h5 := hs.chg (bs := [b0, b1, b2]) (ds := ds2) (fun i b hb => hs.lent i b (by rw [hbx]; exact hb))
 have hl : ∀ (i b : Nat), [b0, b1, b2][i]? = some b → i < gen ∧ G.box i = some b := fun i b hb => by
  have := hs.lent i b (by rw [hbx]; exact hb)
  exact ⟨(hs.gbox i b this).1, this⟩
 have t3 : (((#[pp b0, pp b1, pp b2] ++ Array.replicate (22 - #[pp b0, pp b1, pp b2].size) undef).setIfInBounds 6 X).setIfInBounds 3 X)[3]? = some X := by simp [Array.getElem?_setIfInBounds]
 have t0 : (((#[pp b0, pp b1, pp b2] ++ Array.replicate (22 - #[pp b0, pp b1, pp b2].size) undef).setIfInBounds 6 X).setIfInBounds 3 X)[0]? = some (pp b0) := by simp [Array.getElem?_setIfInBounds]
 have t1 : (((#[pp b0, pp b1, pp b2] ++ Array.replicate (22 - #[pp b0, pp b1, pp b2].size) undef).setIfInBounds 6 X).setIfInBounds 3 X)[1]? = some (pp b1) := by simp [Array.getElem?_setIfInBounds]
 have t2 : (((#[pp b0, pp b1, pp b2] ++ Array.replicate (22 - #[pp b0, pp b1, pp b2].size) undef).setIfInBounds 6 X).setIfInBounds 3 X)[2]? = some (pp b2) := by simp [Array.getElem?_setIfInBounds]
 have ts : (((#[pp b0, pp b1, pp b2] ++ Array.replicate (22 - #[pp b0, pp b1, pp b2].size) undef).setIfInBounds 6 X).setIfInBounds 3 X).size = 22 := by simp
 generalize (((#[pp b0, pp b1, pp b2] ++ Array.replicate (22 - #[pp b0, pp b1, pp b2].size) undef).setIfInBounds 6 X).setIfInBounds 3 X) = tm at t3 t0 t1 t2 ts ⊢
 exact { h5 with
  size := ts
  frame := fun t a ha => by
   have ha : Go.Ab.look [(3, A.d (.v X)), (0, .ptr 0 0), (1, .ptr 1 0), (2, .ptr 2 0)] t = some a := ha
   rw [look_cons, look_cons, look_cons, look_cons] at ha
   split at ha
   ·
    rename_i e
    cases ha; subst e
    exact ⟨X, t3, .d (.v X hX)⟩
   ·
    split at ha
    ·
     rename_i e
     cases ha; subst e
     exact ⟨pp b0, t0, .ptr _ _ _ b0 (hl 0 b0 rfl).1 (hl 0 b0 rfl).2 rfl⟩
    ·
     split at ha
     ·
      rename_i e
      cases ha; subst e
      exact ⟨pp b1, t1, .ptr _ _ _ b1 (hl 1 b1 rfl).1 (hl 1 b1 rfl).2 rfl⟩
     ·
      split at ha
      ·
       rename_i e
       cases ha; subst e
       exact ⟨pp b2, t2, .ptr _ _ _ b2 (hl 2 b2 rfl).1 (hl 2 b2 rfl).2 rfl⟩
      · cases ha }
theorem clo_ret {C : Ctx} (hG : GC Tryd.prog C) {n : Nat} {f : List (Nat × A)} {bx : List (Nat × List A)} {gen : Nat} {G : Gh} {tmps : Array Value} {w : World} {b0 b1 b2 : Nat} (hbx : C.bx = [b0, b1, b2]) (hs : SimG C n ⟨f, bx, [], gen⟩ G tmps w) :
  CallsD Tryd.prog 31 #[pp b0, pp b1, pp b2] .returning w fun e u' w' => ∃ v G', e = .returned v ∧ u' = .returning ∧ SimG { C with bx := [b0, b1, b2], ds := [] } 0 ⟨[], bx, [], gen⟩ G' #[] w' := by
 refine callsD_of_wpS Tryd.func31 rfl (fun c0 cs0 hu => ?_)
 refine wpS_seq (wpS_region (opsS_recover (d := 6) rfl rfl rfl rfl ?_))
 have hrec : recoverD (c0 :: cs0) = none := by cases c0 with | mk a b c d e f g => subst hu; rfl
 rw [hrec]
 refine opsS_copy (d := 3) (d0 := 6) (v := .nilIface) rfl rfl rfl rfl (by rw [Array.getElem?_setIfInBounds_self, if_pos (by rw [Array.size_append, Array.size_replicate, Tryd.ntmps31]; show 6 < 3 + (22 - 3); omega)]) (opsS_nil ?_)
 refine wpS_of_wp ?_
 haveI : NB { C with bx := [b0, b1, b2], ds := [] } 3 := ⟨rfl⟩
 haveI : GC Tryd.prog { C with bx := [b0, b1, b2], ds := [] } := hG.chg
 refine wp_of_W (C := { C with bx := [b0, b1, b2], ds := [] }) (n := 22) (st := ⟨[(3, .d (.v .nilIface)), (0, .ptr 0 0), (1, .ptr 1 0), (2, .ptr 2 0)], bx, [], gen⟩) (Q := fun e st => e = .normal ∧ st.bx = bx ∧ st.gen = gen ∧ st.lv = []) ⟨G, clo_sim hbx hs rfl Tryd.ntmps31⟩ ?hW ?hB
 case hW =>
  refine W.seq (W.region ?_)
  refine pE rfl ?_
  refine pu (nilNeq rfl (by kernel_rfl)) rfl ?_
  refine WO.nil (qs ?_)
  refine W.condF rfl ?_
  refine W.skip ?_
  exact ⟨rfl, rfl, rfl, rfl⟩
 case hB =>
  rintro e ⟨t, df⟩ w' ⟨hd, ⟨f', bx', lv', gen'⟩, ⟨G', hs'⟩, he, e1, e2, e3⟩
  have e1 : bx' = bx := e1
  have e2 : gen' = gen := e2
  have e3 : lv' = [] := e3
  subst he; subst e1; subst e2; subst e3
  refine ⟨hd, .returning, by rw [← hu], _, run_resultsV (rs := []) Tryd.results31 (vs := []) rfl, _, G', rfl, rfl, ?_⟩
  exact { hs' with size := rfl, frame := fun t a ha => by cases ha }
theorem clo_pan {C : Ctx} (hG : GC Tryd.prog C) {n : Nat} {f : List (Nat × A)} {bx : List (Nat × List A)} {gen : Nat} {G : Gh} {tmps : Array Value} {w : World} {b0 b1 b2 : Nat} {a : Nat} {e : Int} (hl : okc (.int .i64 (a : Int)) = true ∧ okc (.int .i64 e) = true) (hbx : C.bx = [b0, b1, b2]) (hs : SimG C n ⟨f, bx, [], gen⟩ G tmps w)
  {x0 x1 x2 x3 x4 y0 z0 : A} (h0 : look' bx 0 = some [x0, x1, x2, x3, x4]) (h1 : look' bx 1 = some [y0]) (h2 : look' bx 2 = some [z0]) :
  CallsD Tryd.prog 31 #[pp b0, pp b1, pp b2] (.panicking [{ v := faultV 57 a e, recovered := false }]) w fun r u' w' => ∃ v G' bx' gen', r = .returned v ∧ u' = .panicking [{ v := faultV 57 a e, recovered := true }] ∧ look' bx' 0 = some zc ∧ look' bx' 1 = some [.d (ci a)] ∧ look' bx' 2 = some [.d (ci e)] ∧ SimG { C with bx := [b0, b1, b2], ds := [] } 0 ⟨[], bx', [], gen'⟩ G' #[] w' := by
 refine callsD_of_wpS Tryd.func31 rfl (fun c0 cs0 hu => ?_)
 refine wpS_seq (wpS_region (opsS_recover (d := 6) rfl rfl rfl rfl ?_))
 have hrec : recoverD (c0 :: cs0) = some (faultV 57 a e, { c0 with mode := .panicking [{ v := faultV 57 a e, recovered := true }] } :: cs0) := by cases c0 with | mk a b c d e f g => subst hu; rfl
 rw [hrec]
 refine opsS_copy (d := 3) (d0 := 6) (v := faultV 57 a e) rfl rfl rfl rfl (by rw [Array.getElem?_setIfInBounds_self, if_pos (by rw [Array.size_append, Array.size_replicate, Tryd.ntmps31]; show 6 < 3 + (22 - 3); omega)]) (opsS_nil ?_)
 refine wpS_of_wp ?_
 haveI : NB { C with bx := [b0, b1, b2], ds := [] } 3 := ⟨rfl⟩
 haveI : GC Tryd.prog { C with bx := [b0, b1, b2], ds := [] } := hG.chg
 have hs' : SimG C n ⟨[], [(0, [.any, .any, .any, .any, .any]), (1, [.any]), (2, [.any])], [], 3⟩ ⟨fun g => if g < 3 then G.box g else none, fun _ => none⟩ tmps w := by
  have hget : ∀ g b, (if g < 3 then G.box g else none) = some b → g < 3 ∧ G.box g = some b := fun g b h => by
   split at h
   · rename_i q; exact ⟨q, h⟩
   · cases h
  have hb : ∀ (g : Nat) (cells cells' : List A), g < 3 → look' bx g = some cells → cells'.length = cells.length → (∀ (i : Nat) (a : A), cells'[i]? = some a → a = .any) → ∃ b cs T, (if g < 3 then G.box g else none) = some b ∧ w.heap[b]? = some (.cells cs T (0, 0)) ∧ cs.size = cells'.length ∧
    (∀ (i : Nat) (u : Value), cs[i]? = some u → u.oneCell' = true) ∧ ∀ (i : Nat) (u : Value) (a : A), cs[i]? = some u → cells'[i]? = some a → Rep (enOf C ⟨fun g => if g < 3 then G.box g else none, fun _ => none⟩ 3 w) u a := fun g cells cells' hg hc hlen hany => by
   obtain ⟨b, cs, T, q1, q2, q3, q4, _⟩ := hs.box g cells hc
   exact ⟨b, cs, T, by rw [if_pos hg]; exact q1, q2, by rw [q3, hlen], q4, fun i u a _ ha => by rw [hany i a ha]; exact .any _⟩
  have hbox : ∀ (g : Nat) (cells : List A), Go.Ab.look' [(0, [A.any, A.any, A.any, A.any, A.any]), (1, [A.any]), (2, [A.any])] g = some cells → ∃ b cs T, (if g < 3 then G.box g else none) = some b ∧ w.heap[b]? = some (.cells cs T (0, 0)) ∧ cs.size = cells.length ∧ (∀ (i : Nat) (u : Value), cs[i]? = some u → u.oneCell' = true) ∧ ∀ (i : Nat) (u : Value) (a : A), cs[i]? = some u → cells[i]? = some a → Rep (enOf C ⟨fun g => if g < 3 then G.box g else none, fun _ => none⟩ 3 w) u a := by
   intro g cells hc
   match g, hc with
   | 0, hc => cases hc; exact hb 0 _ _ (by decide) h0 rfl (fun i a h => by have := List.mem_of_getElem? h; simpa using this)
   | 1, hc => cases hc; exact hb 1 _ _ (by decide) h1 rfl (fun i a h => by have := List.mem_of_getElem? h; simpa using this)
   | 2, hc => cases hc; exact hb 2 _ _ (by decide) h2 rfl (fun i a h => by have := List.mem_of_getElem? h; simpa using this)
   | g + 3, hc => cases hc
  have hlent : ∀ (i b : Nat), C.bx[i]? = some b → (if i < 3 then G.box i else none) = some b := by
   intro i b h
   have hi : i < 3 := by rw [hbx] at h; have := (List.getElem?_eq_some_iff.1 h).1; simpa using this
   rw [if_pos hi]; exact hs.lent i b h
  exact { size := hs.size, frame := fun t a ha => (by cases ha), box := hbox, gbox := fun g b h => ⟨(hget g b h).1, (hs.gbox g b (hget g b h).2).2⟩, inj := fun g g' b h h' => hs.inj g g' b (hget g b h).2 (hget g' b h').2, live := fun g hg => (by cases hg), gown := fun g r hr => (by cases hr), row := fun g b len cap sz pub hr => (by cases hr), mrow := fun g b hr => (by cases hr), xold := hs.xold, kold := hs.kold, lent := hlent, fr := hs.fr }
 refine wp_of_W (C := { C with bx := [b0, b1, b2], ds := [] }) (n := 22) (st := ⟨[(3, .d (.v (faultV 57 a e))), (0, .ptr 0 0), (1, .ptr 1 0), (2, .ptr 2 0)], [(0, [.any, .any, .any, .any, .any]), (1, [.any]), (2, [.any])], [], 3⟩) (Q := fun r st => r = .normal ∧ st.lv = [] ∧ look' st.bx 0 = some zc ∧ look' st.bx 1 = some [.d (ci a)] ∧ look' st.bx 2 = some [.d (ci e)]) ⟨_, clo_sim hbx hs' rfl Tryd.ntmps31⟩ ?hW ?hB
 case hW =>
  refine W.seq (W.region ?_)
  refine pE rfl ?_
  refine pu (ifNeq rfl (by kernel_rfl)) rfl ?_
  refine WO.nil (qs ?_)
  refine W.condT rfl ?_
  refine W.seq (W.region ?_)
  refine pE rfl ?_
  refine pu (assertYes (l := [.int .i64 (a : Int), .int .i64 e]) tab rfl rfl (fun v hv => by rcases List.mem_cons.1 hv with rfl | hv; exact hl.1; rcases List.mem_cons.1 hv with rfl | hv; exact hl.2; cases hv) rfl) rfl ?_
  iterate 3 refine pE rfl ?_
  refine allocR tab rfl rfl rfl ?_
  refine storeR tab rfl rfl rfl rfl rfl rfl rfl rfl ?_
  refine pE rfl ?_
  refine WO.nil (qs ?_)
  iterate 2 refine W.seq ?_
  refine W.region ?_
  iterate 2 refine pE rfl ?_
  refine WO.nil (qs ?_)
  refine W.condF rfl ?_
  refine W.skip (qs ?_)
  refine' W.regionLF tab (fun bx => [(0, zc) :: bx, (1, [.d (ci a)]) :: (0, zc) :: bx]) [[], []] [4, 4] [5, 6] 7 (by kernel_rfl) (by kernel_rfl) rfl rfl ?hL_9
  case' hL_9 => skip
  refine' cdPu' (Pu.nilB (build tab rfl rfl rfl rfl) rfl) ?p_10 rfl rfl rfl (by kernel_rfl) rfl ?h_10
  case' h_10 => skip
  refine' cdPu' (ev tab rfl) ?p_11 rfl rfl rfl (by kernel_rfl) rfl ?h_11
  case' h_11 => skip
  first | (refine' cdPu' (ev tab rfl) ?p_12 rfl rfl rfl (by kernel_rfl) rfl ?h_12) | (refine' cdPu' (loadRow tab rfl rfl rfl rfl) ?p_12 rfl rfl rfl (by kernel_rfl) rfl ?h_12) | (refine' cdPu' (loadBox tab rfl rfl rfl rfl rfl) ?p_12 rfl rfl rfl (by kernel_rfl) rfl ?h_12)
  case' h_12 => skip
  refine' cdPu' (ev tab rfl) ?p_13 rfl rfl rfl (by kernel_rfl) rfl ?h_13
  case' h_13 => skip
  first | (refine' cdPu' (ev tab rfl) ?p_14 rfl rfl rfl (by kernel_rfl) rfl ?h_14) | (refine' cdPu' (loadRow tab rfl rfl rfl rfl) ?p_14 rfl rfl rfl (by kernel_rfl) rfl ?h_14) | (refine' cdPu' (loadBox tab rfl rfl rfl rfl rfl) ?p_14 rfl rfl rfl (by kernel_rfl) rfl ?h_14)
  case' h_14 => skip
  refine' cdX0 ?x_15 rfl rfl rfl (by kernel_rfl) ?h_15
  case x_15 =>
   intro b hb g; cases b
   · exact (alwNo hb (by kernel_rfl)).elim
   ·
    refine storeR tab rfl rfl rfl rfl rfl rfl rfl rfl ?_
    refine WO.nil ?_
    refine' stE0 rfl ?_ ?_ ?_
    all_goals try exact rfl
  case' h_15 => skip
  refine' cdX0 ?x_16 rfl rfl rfl (by kernel_rfl) ?h_16
  case x_16 =>
   intro b hb g; cases b
   · exact (alwNo hb (by kernel_rfl)).elim
   ·
    refine storeR tab rfl rfl rfl rfl rfl rfl rfl rfl ?_
    refine WO.nil ?_
    refine' stE0 rfl ?_ ?_ ?_
    all_goals try exact rfl
  case' h_16 => skip
  case p_10 => refine ⟨fun ha => (alwNo ha (by kernel_rfl)).elim, ?_, fun ha => (alwNo ha (by kernel_rfl)).elim, ?_, fun ha => (alwNo ha (by kernel_rfl)).elim, ?_⟩ <;> intro ha <;> first | exact ⟨Pu.nilB (build tab rfl rfl rfl rfl) rfl, fun h => nomatch h⟩ | exact (alwNo ha (by kernel_rfl)).elim
  case p_11 => refine ⟨fun ha => (alwNo ha (by kernel_rfl)).elim, ?_, fun ha => (alwNo ha (by kernel_rfl)).elim, ?_, fun ha => (alwNo ha (by kernel_rfl)).elim, ?_⟩ <;> intro ha <;> first | exact ⟨ev tab rfl, fun h => nomatch h⟩ | exact (alwNo ha (by kernel_rfl)).elim
  case p_12 => refine ⟨fun ha => (alwNo ha (by kernel_rfl)).elim, ?_, fun ha => (alwNo ha (by kernel_rfl)).elim, ?_, fun ha => (alwNo ha (by kernel_rfl)).elim, ?_⟩ <;> intro ha <;> first | exact ⟨ev tab rfl, fun h => nomatch h⟩ | exact ⟨loadRow tab rfl rfl rfl rfl, fun h => nomatch h⟩ | exact ⟨loadBox tab rfl rfl rfl rfl rfl, fun h => nomatch h⟩ | exact (alwNo ha (by kernel_rfl)).elim
  case p_13 => refine ⟨fun ha => (alwNo ha (by kernel_rfl)).elim, ?_, fun ha => (alwNo ha (by kernel_rfl)).elim, ?_, fun ha => (alwNo ha (by kernel_rfl)).elim, ?_⟩ <;> intro ha <;> first | exact ⟨ev tab rfl, fun h => nomatch h⟩ | exact (alwNo ha (by kernel_rfl)).elim
  case p_14 => refine ⟨fun ha => (alwNo ha (by kernel_rfl)).elim, ?_, fun ha => (alwNo ha (by kernel_rfl)).elim, ?_, fun ha => (alwNo ha (by kernel_rfl)).elim, ?_⟩ <;> intro ha <;> first | exact ⟨ev tab rfl, fun h => nomatch h⟩ | exact ⟨loadRow tab rfl rfl rfl rfl, fun h => nomatch h⟩ | exact ⟨loadBox tab rfl rfl rfl rfl rfl, fun h => nomatch h⟩ | exact (alwNo ha (by kernel_rfl)).elim
  refine CD.nil ?_ rfl
  refine storeR tab rfl rfl rfl rfl rfl rfl rfl rfl ?_
  refine WO.nil ?_
  exact ⟨rfl, rfl, rfl, rfl, rfl⟩
 case hB =>
  rintro r ⟨t, df⟩ w' ⟨hd, ⟨f', bx', lv', gen'⟩, ⟨G', hs'⟩, he, e3, q0, q1, q2⟩
  have e3 : lv' = [] := e3
  subst he; subst e3
  refine ⟨hd, _, rfl, _, run_resultsV (rs := []) Tryd.results31 (vs := []) rfl, _, G', bx', gen', rfl, rfl, q0, q1, q2, ?_⟩
  exact { hs' with size := rfl, frame := fun t a ha => by cases ha }
end Go.Proofs.YtllkpgnpioojjaaDoor
namespace Go.Proofs.YtllkpgnpioojjaaDoor
open Go.Ab Go.Tb
set_option maxRecDepth 10000
attribute [local irreducible] W WO Pu QS QB QL QF QV QV1 CH QE
def parseR (s : ByteArray) : A := if 65536 < s.size then .tup [.ag zeroJ.c, .d (ci 0), .d (ci 7)] else match parseJ (bys s) with
 | .ok v _ => .tup [.ag v.c, .d (ci 0), .d (ci 0)]
 | .no a w => .tup [.ag zeroJ.c, .d (ci a), .d (ci w)]
def PQ (x : PE JV) : Exit → St → Prop := fun e st => (match x with
 | .ok v _ => e = .ret ∧ look' st.bx 0 = some (v.c.map .d) ∧ look' st.bx 1 = some [.d (ci 0)] ∧ look' st.bx 2 = some [.d (ci 0)]
 | .no a w => e = panOf (faultV 57 a w) ∧ ∃ x0 x1 x2 x3 x4 y0 z0, look' st.bx 0 = some [x0, x1, x2, x3, x4] ∧ look' st.bx 1 = some [y0] ∧ look' st.bx 2 = some [z0]) ∧
 Go.Ab.look st.f 2 = some (A.ptr 0 0) ∧ Go.Ab.look st.f 3 = some (A.ptr 1 0) ∧ Go.Ab.look st.f 4 = some (A.ptr 2 0)
theorem sim3 {C : Ctx} {n : Nat} {f : List (Nat × A)} {bx : List (Nat × List A)} {lv : List Nat} {gen : Nat} {G : Gh} {tmps : Array Value} {w : World} {c0 c1 c2 : List A} (hs : SimG C n ⟨f, bx, lv, gen⟩ G tmps w) (h0 : look' bx 0 = some c0) (h1 : look' bx 1 = some c1) (h2 : look' bx 2 = some c2) : SimG C n ⟨f, [(0, c0), (1, c1), (2, c2)], lv, gen⟩ G tmps w := by
 refine { hs with box := fun g cells hc => ?_ }
 have hc : Go.Ab.look' [(0, c0), (1, c1), (2, c2)] g = some cells := hc
 match g, hc with
 | 0, hc => cases hc; exact hs.box 0 _ h0
 | 1, hc => cases hc; exact hs.box 1 _ h1
 | 2, hc => cases hc; exact hs.box 2 _ h2
 | g + 3, hc => cases hc
theorem ok31 : FnOK Tryd.prog 31 := ⟨_, Tryd.func31, by kernel_rfl, rfl⟩
theorem inv31 (b0 b1 b2 : Nat) (w : World) : (invoke (.fn (.func 31) #[pp b0, pp b1, pp b2]) #[]).run Tryd.prog w = .ok (.enter 31 #[pp b0, pp b1, pp b2]) w := by
 obtain ⟨fn, hfn, hname, hbody⟩ := ok31
 simp only [invoke, callFunc, Sem.run_bind, Sem.run_pure, Result.andThen_ok, run_program, hfn, hname, hbody, Bool.false_eq_true, if_false, Array.empty_append]
theorem parse_fn (s : ByteArray) : Does Tryd.prog 19 [.d (.v (.string s))] (parseR s) 0 := by
 refine Does.of_W' (n := 34) Tryd.func19 (by kernel_rfl) rfl Tryd.ntmps19 rfl fun C hC hG hbx hds => ?_
 refine W'.seq ?_
 refine W.region ?_
 iterate 3 refine allocR tab rfl rfl rfl ?_
 refine WO.nil ?_
 refine W'.seq ?_
 refine W.seq (W.region ?_)
 iterate 3 refine pE rfl ?_
 refine WO.nil (qs ?_)
 refine condK rfl (fun h8 => ?_) (fun h8 => ?_)
 ·
  refine W.seq (W.region ?_)
  refine pu (build tab rfl rfl rfl rfl) rfl ?_
  refine nilO 9 rfl rfl rfl ?_
  iterate 3 refine storeR tab rfl rfl rfl rfl rfl rfl rfl rfl ?_
  refine WO.nil (qs (W.ret ?_))
  intro tmps w ⟨G, hs⟩
  have hg : parseR s = .tup [.ag zeroJ.c, .d (ci 0), .d (ci 7)] := by unfold parseR; rw [if_pos (by simp at h8; omega)]
  show Leaves _ _ tmps _ C.ds .returning w
  rw [hds, hg]
  exact fin0 tab (rs := [.cell 2 26, .cell 3 3, .cell 4 29]) hs hbx Tryd.results19 rfl rfl
 ·
  have h65 : ¬ 65536 < s.size := by simp at h8; omega
  have hsz : s.size ≤ 1000000000 := by omega
  have hgR : parseR s = match parseJ (bys s) with | .ok v _ => .tup [.ag v.c, .d (ci 0), .d (ci 0)] | .no a w => .tup [.ag zeroJ.c, .d (ci a), .d (ci w)] := by unfold parseR; rw [if_neg h65]
  refine W.skip ?_
  refine W'.seqRegion ?_
  refine WO'.pu rfl rfl (ev tab rfl) ?_
  refine WO'.deferEnd rfl (fun b0 b1 b2 tmps w G hs e0 e1 e2 => ?_)
  have hNB : NB { C with bx := [b0, b1, b2], ds := dfr 31 b0 b1 b2 :: C.ds } 3 := ⟨rfl⟩
  have hGC : GC Tryd.prog { C with bx := [b0, b1, b2], ds := dfr 31 b0 b1 b2 :: C.ds } := hG.chg
  refine wp_of_W (C := { C with bx := [b0, b1, b2], ds := dfr 31 b0 b1 b2 :: C.ds }) (n := 34) (Q := PQ (parseJ (bys s))) ⟨G, hs.chg (fun i b hb => ?hl)⟩ ?hW ?hB
  case hl =>
   match i, hb with
   | 0, hb => cases hb; exact e0
   | 1, hb => cases hb; exact e1
   | 2, hb => cases hb; exact e2
   | i + 3, hb => cases hb
  case hW =>
   refine W.seq (W.region ?_)
   refine pE rfl ?_
   refine pu (build tab rfl rfl rfl rfl) rfl ?_
   refine boxR rfl rfl rfl ?_
   refine pE rfl ?_
   refine WO.nil (qs (W.seq (W.region ?_)))
   refine pE rfl ?_
   cases hc15 : valJ (bys s) (3 * (bys s).length + 1) 1 0 with
   | no a15 w15 =>
    have hp : parseJ (bys s) = .no a15 w15 := by unfold parseJ; rw [hc15]
    refine callPk [3] [] rfl rfl rfl rfl rfl ((value_fn s hsz).pan (outP_no hc15)) rfl rfl (by rfl) ?_
    repeat' first | refine qsPan ?_ | refine qbPan ?_ | refine qlPan ?_ | refine qcPan ?_
    rw [hp]
    exact ⟨⟨rfl, _, _, _, _, _, _, _, rfl, rfl, rfl⟩, rfl, rfl, rfl⟩
   | ok y15 i15 =>
    have hb := (allBd (bys s) (3 * (bys s).length + 1)).v 1 0 (Nat.zero_le _)
    rw [hc15] at hb
    have hi : i15 ≤ s.size := by have := hb.2; rwa [bytes_len] at this
    refine callB [3] [] rfl rfl rfl rfl rfl ((value_fn s hsz).ret (outP_ok hc15)) rfl rfl (by rfl) (by rfl) rfl rfl rfl rfl ?_
    refine storeR tab rfl rfl rfl rfl rfl rfl rfl rfl ?_
    refine WO.nil (qs ?_)
    iterate 2 refine W.seq ?_
    refine W.region ?_
    refine pE rfl ?_
    refine callB [3] [] rfl rfl rfl rfl rfl ((peek_fn s i15 hi hsz)) rfl rfl (by rfl) (by rfl) rfl rfl rfl rfl ?_
    iterate 2 refine pE rfl ?_
    refine splitG rfl rfl (fun g19 => ?_) (fun g19 => ?_)
    ·
     iterate 7 refine skipT rfl rfl rfl rfl ?_
     refine pE rfl ?_
     refine WO.nil (qs ?_)
     refine W.condT rfl ?_
     refine W.region ?_
     iterate 3 refine pE rfl ?_
     first | refine pE rfl ?_ | refine pR rfl rfl rfl rfl rfl ?_ | refine pB rfl rfl rfl rfl rfl rfl ?_
     have hlt : skipB (bys s) i15 < (bys s).length := here_lt fun e => by rw [e] at g19; simp at g19
     have hp : parseJ (bys s) = .no (skipB (bys s) i15) 10 := by unfold parseJ; rw [hc15]; dsimp only; rw [if_pos hlt]
     refine callPk [] [] rfl rfl rfl rfl rfl (fails_fn (skipB (bys s) i15) 10) rfl rfl (by rfl) ?_
     repeat' first | refine qsPan ?_ | refine qbPan ?_ | refine qlPan ?_ | refine qcPan ?_
     rw [hp]
     exact ⟨⟨rfl, _, _, _, _, _, _, _, rfl, rfl, rfl⟩, rfl, rfl, rfl⟩
    ·
     refine goG rfl rfl ?_
     refine pE rfl ?_
     refine goG rfl rfl ?_
     refine pE rfl ?_
     refine goG rfl rfl ?_
     refine pE rfl ?_
     refine goG rfl rfl ?_
     first | refine pE rfl ?_ | refine pR rfl rfl rfl rfl rfl ?_ | refine pB rfl rfl rfl rfl rfl rfl ?_
     refine goG rfl rfl ?_
     refine pE rfl ?_
     refine goG rfl rfl ?_
     refine pE rfl ?_
     refine goG rfl rfl ?_
     iterate 2 refine pE rfl ?_
     refine WO.nil (qs ?_)
     refine condK rfl (fun h27 => ?_) (fun h27 => ?_)
     ·
      refine W.region ?_
      iterate 3 refine pE rfl ?_
      first | refine pE rfl ?_ | refine pR rfl rfl rfl rfl rfl ?_ | refine pB rfl rfl rfl rfl rfl rfl ?_
      have hlt : skipB (bys s) i15 < (bys s).length := by rw [bytes_len]; simp at h27; omega
      have hp : parseJ (bys s) = .no (skipB (bys s) i15) 10 := by unfold parseJ; rw [hc15]; dsimp only; rw [if_pos hlt]
      refine callPk [] [] rfl rfl rfl rfl rfl (fails_fn (skipB (bys s) i15) 10) rfl rfl (by rfl) ?_
      repeat' first | refine qsPan ?_ | refine qbPan ?_ | refine qlPan ?_ | refine qcPan ?_
      rw [hp]
      exact ⟨⟨rfl, _, _, _, _, _, _, _, rfl, rfl, rfl⟩, rfl, rfl, rfl⟩
     ·
      have hlt : ¬ skipB (bys s) i15 < (bys s).length := by rw [bytes_len]; simp at h27; omega
      have hp : parseJ (bys s) = .ok y15 0 := by unfold parseJ; rw [hc15]; dsimp only; rw [if_neg hlt]
      refine W.skip (qs (W.seq (W.region ?_)))
      first | refine pE rfl ?_ | refine pR rfl rfl rfl rfl rfl ?_ | refine pB rfl rfl rfl rfl rfl rfl ?_
      iterate 3 refine storeR tab rfl rfl rfl rfl rfl rfl rfl rfl ?_
      refine WO.nil (qs (W.ret ?_))
      rw [hp]
      exact ⟨⟨rfl, rfl, rfl, rfl⟩, rfl, rfl, rfl⟩
  case hB =>
   rintro e ⟨tmps2, df⟩ w2 ⟨hd2, ⟨f2, bx2, lv2, gen2⟩, ⟨G2, hs2⟩, hq, k0, k1, k2⟩
   have hd2 : df = dfr 31 b0 b1 b2 :: C.ds := hd2
   subst hd2
   have hs2' : SimG { C with bx := [b0, b1, b2], ds := dfr 31 b0 b1 b2 :: C.ds } 34 ⟨f2, bx2, [], gen2⟩ G2 tmps2 w2 := { hs2 with live := fun g h => by cases h }
   rw [hgR]
   have hE := parse_e (l := bys s)
   have hpl := fun a w => parse_le (l := bys s) (a := a) (w := w)
   cases hA : parseJ (bys s) with
   | ok v i =>
    rw [hA] at hq
    obtain ⟨rfl, q0, q1, q2⟩ := hq
    show Leaves _ _ tmps2 _ (dfr 31 b0 b1 b2 :: C.ds) .returning w2
    rw [hds]
    refine leaves_cons (by simp) (inv31 b0 b1 b2 w2) (CallsD.mono (clo_ret hGC rfl hs2') ?_)
    rintro r u' w3 ⟨v3, G3, rfl, rfl, hs3⟩
    exact leaves_fin tab (rs := [.cell 2 26, .cell 3 3, .cell 4 29]) hbx hs2 k0 k1 k2 (sim3 hs3 q0 q1 q2) Tryd.results19 rfl rfl
   | no a w =>
    rw [hA] at hq hE
    obtain ⟨rfl, x0, x1, x2, x3, x4, y0, z0, q0, q1, q2⟩ := hq
    have ha : a ≤ s.size := by have := hpl a w hA; rwa [bytes_len] at this
    have hw : okc (.int .i64 (a : Int)) = true ∧ okc (.int .i64 w) = true := by
     refine ⟨by simp [okc, IntKind.min, IntKind.max, IntKind.signed, IntKind.bits]; omega, ?_⟩
     rcases hE with rfl | rfl | rfl | rfl <;> rfl
    show Leaves _ _ tmps2 _ (dfr 31 b0 b1 b2 :: C.ds) (.panicking [{ v := faultV 57 a w, recovered := false }]) w2
    rw [hds]
    refine leaves_cons (by simp) (inv31 b0 b1 b2 w2) (CallsD.mono (clo_pan hGC hw rfl hs2' q0 q1 q2) ?_)
    rintro r u' w3 ⟨v3, G3, bx3, gen3, rfl, rfl, r0, r1, r2, hs3⟩
    exact leaves_fin tab (rs := [.cell 2 26, .cell 3 3, .cell 4 29]) hbx hs2 k0 k1 k2 (sim3 hs3 r0 r1 r2) Tryd.results19 rfl rfl
end Go.Proofs.YtllkpgnpioojjaaDoor
namespace Go.Proofs.YtllkpgnpioojjaaDoor
open Go.Ab Go.Tb
set_option maxRecDepth 10000
attribute [local irreducible] W WO Pu QS QB QL QF QV QV1 CH QE
def parsed (s : ByteArray) : JV × Int × Int := if 65536 < s.size then (zeroJ, 0, 7) else match parseJ (bys s) with
 | .ok v _ => (v, 0, 0)
 | .no a w => (zeroJ, (a : Int), w)
theorem parseR_eq (s : ByteArray) : parseR s = .tup [.ag (parsed s).1.c, .d (ci (parsed s).2.1), .d (ci (parsed s).2.2)] := by
 unfold parseR parsed
 split
 · rfl
 · cases parseJ (bys s) <;> rfl
theorem parse_fn' (s : ByteArray) : Does Tryd.prog 19 [.d (.v (.string s))] (.tup [.ag (parsed s).1.c, .d (ci (parsed s).2.1), .d (ci (parsed s).2.2)]) 0 := by
 have := parse_fn s
 rwa [parseR_eq] at this
def faultS (s : ByteArray) (a e : Int) : Bool := eqJ (parsed s).1 zeroJ && (decide ((parsed s).2.1 = a) && decide ((parsed s).2.2 = e))
theorem fault_fn (s : ByteArray) (a e : Int) : Does Tryd.prog 21 [.d (.v (.string s)), .d (.v (.int .i64 a)), .d (.v (.int .i64 e))] (.d (.v (.bool (faultS s a e)))) 0 := by
 refine Does.of_W (n := 29) (ts := [6]) Tryd.func21 (by kernel_rfl) rfl Tryd.ntmps21 Tryd.results21 rfl rfl fun C hC hG => ?_
 refine W.seq (W.region ?_)
 refine pE rfl ?_
 refine WO.nil (qs (W.seq (W.region ?_)))
 refine pE rfl ?_
 refine pu (puCall rfl rfl rfl (parse_fn' s) rfl) rfl ?_
 iterate 4 refine pE rfl ?_
 refine allocR tab rfl rfl rfl ?_
 refine storeR tab rfl rfl rfl rfl rfl rfl rfl rfl ?_
 iterate 2 refine pE rfl ?_
 refine WO.nil (qs (W.seq ?_))
 apply regionB; (case hb => rfl)
 ·
  first | refine pE rfl ?_ | refine pR rfl rfl rfl rfl rfl ?_ | refine pB rfl rfl rfl rfl rfl rfl ?_
  refine pu (build tab rfl rfl rfl rfl) rfl ?_
  try refine nilO 17 rfl rfl rfl ?_
  refine pu (puCall rfl rfl rfl (rSame_fn (parsed s).1 zeroJ) rfl) rfl ?_
  refine pE rfl ?_
  apply splitJ; (case hj => rfl); (case hl => rfl)
  ·
   refine goG rfl rfl ?_
   refine pE rfl ?_
   refine goG rfl rfl ?_
   refine pE rfl ?_
   refine goG rfl rfl ?_
   iterate 3 refine pE rfl ?_
   apply splitJ; (case hj => rfl); (case hl => rfl)
   ·
    refine goG rfl rfl ?_
    refine pE rfl ?_
    refine goG rfl rfl ?_
    refine pE rfl ?_
    refine goG rfl rfl ?_
    iterate 3 refine pE rfl ?_
    refine WO.nil ?_
    refine qv1 rfl rfl rfl
   ·
    iterate 3 refine skipT rfl rfl rfl rfl ?_
    iterate 2 refine pE rfl ?_
    refine WO.nil ?_
    refine qv1 rfl rfl rfl
  ·
   iterate 3 refine skipT rfl rfl rfl rfl ?_
   iterate 2 refine pE rfl ?_
   iterate 3 refine skipT rfl rfl rfl rfl ?_
   iterate 2 refine pE rfl ?_
   refine WO.nil ?_
   refine qv1 rfl rfl rfl
 refine qs (W.ret ?_)
 refine QF.ret0 trivial rfl ?_
 unfold faultS; first | rfl | (simp only [norm, oneA, scal]; cases eqJ (parsed s).1 zeroJ <;> cases decide ((parsed s).2.1 = a) <;> rfl)
end Go.Proofs.YtllkpgnpioojjaaDoor
namespace Go.Proofs.YtllkpgnpioojjaaDoor
open Go.Ab Go.Tb
set_option maxRecDepth 10000
attribute [local irreducible] W WO Pu QS QB QL QF QV QV1 CH QE
def alistJ : JV := .mk 5 0 (B #[]) [] [.mk 1 0 (B #[]) [] [], .mk 2 1 (B #[]) [] [], .mk 3 (-3) (B #[]) [] []]
def txtJ (s : ByteArray) : JV := .mk 4 0 s [] []
def wantJ : JV := .mk 6 0 (B #[]) [B #[97], B #[98]] [alistJ, txtJ (B #[120, 9, 121])]
instance : DecidableEq (JV × Int × Int) := inferInstance
theorem aw1 : parsed (B #[32, 123, 34, 97, 34, 58, 32, 91, 110, 117, 108, 108, 44, 32, 116, 114, 117, 101, 44, 32, 45, 51, 93, 44, 32, 34, 98, 34, 58, 32, 34, 120, 92, 116, 121, 34, 125, 32]) = (wantJ, 0, 0) := by decide +kernel
theorem aw2 : checkJ wantJ 1 = 0 ∧ textOf wantJ = B #[123, 34, 97, 34, 58, 91, 110, 117, 108, 108, 44, 116, 114, 117, 101, 44, 45, 51, 93, 44, 34, 98, 34, 58, 34, 120, 92, 116, 121, 34, 125] := by decide +kernel
theorem aw3 : checkJ (txtJ (B #[34, 10, 47])) 1 = 0 ∧ textOf (txtJ (B #[34, 10, 47])) = B #[34, 92, 34, 92, 110, 47, 34] := by decide +kernel
theorem aw4 : parsed (B #[45, 48]) = (.mk 3 0 (B #[]) [] [], 0, 0) := by decide +kernel
theorem aw5 : getJ wantJ (B #[98]) = some (txtJ (B #[120, 9, 121])) ∧ getJ wantJ (B #[99]) = none := by decide +kernel
theorem aw6 : eqJ wantJ wantJ = true := by decide +kernel
theorem af0 : faultS (B #[91, 49, 44, 93]) 3 10 = true := by decide +kernel
theorem af1 : faultS (B #[91, 49]) 2 10 = true := by decide +kernel
theorem af2 : faultS (B #[48, 49]) 1 10 = true := by decide +kernel
theorem af3 : faultS (B #[]) 0 10 = true := by decide +kernel
theorem af4 : faultS (B #[34, 92, 117, 48, 48, 55, 102, 34]) 6 10 = true := by decide +kernel
theorem af5 : faultS (B #[123, 34, 97, 34, 58, 49, 44, 34, 97, 34, 58, 50, 125]) 7 4 = true := by decide +kernel
theorem af6 : faultS (B #[91, 49, 48, 48, 48, 48, 48, 48, 48, 48, 48, 48, 48, 48, 48, 48, 49, 120]) 1 2 = true := by decide +kernel
theorem af7 : faultS (B #[91, 91, 91, 91, 91, 91, 91, 91, 91, 91, 91, 91, 91, 91, 91, 91, 91]) 16 20 = true := by decide +kernel
theorem awp1 : Does Tryd.prog 19 [.d (.v (.string (B #[32, 123, 34, 97, 34, 58, 32, 91, 110, 117, 108, 108, 44, 32, 116, 114, 117, 101, 44, 32, 45, 51, 93, 44, 32, 34, 98, 34, 58, 32, 34, 120, 92, 116, 121, 34, 125, 32])))] (.tup [.ag wantJ.c, .d (ci 0), .d (ci 0)]) 0 := by
 have h := parse_fn' (B #[32, 123, 34, 97, 34, 58, 32, 91, 110, 117, 108, 108, 44, 32, 116, 114, 117, 101, 44, 32, 45, 51, 93, 44, 32, 34, 98, 34, 58, 32, 34, 120, 92, 116, 121, 34, 125, 32])
 rw [aw1] at h
 exact h
theorem awp4 : Does Tryd.prog 19 [.d (.v (.string (B #[45, 48])))] (.tup [.ag (JV.mk 3 0 (B #[]) [] []).c, .d (ci 0), .d (ci 0)]) 0 := by
 have h := parse_fn' (B #[45, 48])
 rw [aw4] at h
 exact h
theorem awp2 : Does Tryd.prog 11 [.ag wantJ.c] (.tup [.d (.v (.string (B #[123, 34, 97, 34, 58, 91, 110, 117, 108, 108, 44, 116, 114, 117, 101, 44, 45, 51, 93, 44, 34, 98, 34, 58, 34, 120, 92, 116, 121, 34, 125]))), .d (ci 0)]) 0 := by
 have h := pPrint_fn wantJ (fun _ => by decide +kernel)
 rw [aw2.1, aw2.2] at h
 exact h
theorem awp3 : Does Tryd.prog 11 [.ag (txtJ (B #[34, 10, 47])).c] (.tup [.d (.v (.string (B #[34, 92, 34, 92, 110, 47, 34]))), .d (ci 0)]) 0 := by
 have h := pPrint_fn (txtJ (B #[34, 10, 47])) (fun _ => by decide +kernel)
 rw [aw3.1, aw3.2] at h
 exact h
theorem awp5 : Does Tryd.prog 13 [.ag wantJ.c, .d (.v (.string (B #[98])))] (.tup [.ag (txtJ (B #[120, 9, 121])).c, .d (.v (.bool true))]) 0 := by
 have h := pGet_fn wantJ (B #[98])
 rw [aw5.1] at h
 exact h
theorem awp6 : Does Tryd.prog 13 [.ag wantJ.c, .d (.v (.string (B #[99])))] (.tup [.ag zeroJ.c, .d (.v (.bool false))]) 0 := by
 have h := pGet_fn wantJ (B #[99])
 rw [aw5.2] at h
 exact h
theorem awp7 : Does Tryd.prog 17 [.ag wantJ.c, .ag wantJ.c] (.d (.v (.bool true))) 0 := by
 have h := rSame_fn wantJ wantJ
 rw [aw6] at h
 exact h
theorem awp8 : Does Tryd.prog 18 [.ag wantJ.c, .ag wantJ.c] (.d (.v (.bool true))) 0 := by
 have h := pSame_fn wantJ wantJ
 rw [aw6] at h
 exact h
theorem awf0 : Does Tryd.prog 21 [.d (.v (.string (B #[91, 49, 44, 93]))), .d (.v (.int .i64 3)), .d (.v (.int .i64 10))] (.d (.v (.bool true))) 0 := by
 have h := fault_fn (B #[91, 49, 44, 93]) 3 10
 rw [af0] at h
 exact h
theorem awf1 : Does Tryd.prog 21 [.d (.v (.string (B #[91, 49]))), .d (.v (.int .i64 2)), .d (.v (.int .i64 10))] (.d (.v (.bool true))) 0 := by
 have h := fault_fn (B #[91, 49]) 2 10
 rw [af1] at h
 exact h
theorem awf2 : Does Tryd.prog 21 [.d (.v (.string (B #[48, 49]))), .d (.v (.int .i64 1)), .d (.v (.int .i64 10))] (.d (.v (.bool true))) 0 := by
 have h := fault_fn (B #[48, 49]) 1 10
 rw [af2] at h
 exact h
theorem awf3 : Does Tryd.prog 21 [.d (.v (.string (B #[]))), .d (.v (.int .i64 0)), .d (.v (.int .i64 10))] (.d (.v (.bool true))) 0 := by
 have h := fault_fn (B #[]) 0 10
 rw [af3] at h
 exact h
theorem awf4 : Does Tryd.prog 21 [.d (.v (.string (B #[34, 92, 117, 48, 48, 55, 102, 34]))), .d (.v (.int .i64 6)), .d (.v (.int .i64 10))] (.d (.v (.bool true))) 0 := by
 have h := fault_fn (B #[34, 92, 117, 48, 48, 55, 102, 34]) 6 10
 rw [af4] at h
 exact h
theorem awf5 : Does Tryd.prog 21 [.d (.v (.string (B #[123, 34, 97, 34, 58, 49, 44, 34, 97, 34, 58, 50, 125]))), .d (.v (.int .i64 7)), .d (.v (.int .i64 4))] (.d (.v (.bool true))) 0 := by
 have h := fault_fn (B #[123, 34, 97, 34, 58, 49, 44, 34, 97, 34, 58, 50, 125]) 7 4
 rw [af5] at h
 exact h
theorem awf6 : Does Tryd.prog 21 [.d (.v (.string (B #[91, 49, 48, 48, 48, 48, 48, 48, 48, 48, 48, 48, 48, 48, 48, 48, 49, 120]))), .d (.v (.int .i64 1)), .d (.v (.int .i64 2))] (.d (.v (.bool true))) 0 := by
 have h := fault_fn (B #[91, 49, 48, 48, 48, 48, 48, 48, 48, 48, 48, 48, 48, 48, 48, 48, 49, 120]) 1 2
 rw [af6] at h
 exact h
theorem awf7 : Does Tryd.prog 21 [.d (.v (.string (B #[91, 91, 91, 91, 91, 91, 91, 91, 91, 91, 91, 91, 91, 91, 91, 91, 91]))), .d (.v (.int .i64 16)), .d (.v (.int .i64 20))] (.d (.v (.bool true))) 0 := by
 have h := fault_fn (B #[91, 91, 91, 91, 91, 91, 91, 91, 91, 91, 91, 91, 91, 91, 91, 91, 91]) 16 20
 rw [af7] at h
 exact h
theorem awake_fn : Does Tryd.prog 10 [] (.d (.v (.bool true))) 0 := by
 refine Does.of_W (n := 139) (ts := [0]) Tryd.func10 (by kernel_rfl) rfl Tryd.ntmps10 Tryd.results10 rfl rfl fun C hC hG => ?_
 refine W.seq (W.region ?_)
 refine pE rfl ?_
 refine WO.nil (qs (W.seq (W.region ?_)))
 refine pu (puCall rfl rfl rfl awp1 rfl) rfl ?_
 iterate 4 refine pE rfl ?_
 refine allocR tab rfl rfl rfl ?_
 refine storeR tab rfl rfl rfl rfl rfl rfl rfl rfl ?_
 iterate 2 refine pE rfl ?_
 refine WO.nil (qs (W.seq (W.region ?_)))
 refine pu (build tab rfl rfl rfl rfl) rfl ?_
 try refine nilS 22 rfl rfl rfl ?_
 refine pu (build tab rfl rfl rfl rfl) rfl ?_
 try refine nilS 23 rfl rfl rfl ?_
 refine pu (build tab rfl rfl rfl rfl) rfl ?_
 try refine nilS 24 rfl rfl rfl ?_
 refine pu (buildV tab rfl rfl rfl rfl rfl rfl rfl rfl rfl) rfl ?_
 refine pu (build tab rfl rfl rfl rfl) rfl ?_
 try refine nilS 26 rfl rfl rfl ?_
 refine allocR tab rfl rfl rfl ?_
 refine storeR tab rfl rfl rfl rfl rfl rfl rfl rfl ?_
 refine WO.nil (qs (W.seq (W.region ?_)))
 refine pu (buildV tab rfl rfl rfl rfl rfl rfl rfl rfl rfl) rfl ?_
 first | refine pE rfl ?_ | refine pR rfl rfl rfl rfl rfl ?_ | refine pB rfl rfl rfl rfl rfl rfl ?_
 refine pu (build tab rfl rfl rfl rfl) rfl ?_
 try refine nilS 29 rfl rfl rfl ?_
 refine pu (buildV tab rfl rfl rfl rfl rfl rfl rfl rfl rfl) rfl ?_
 refine pu (build tab rfl rfl rfl rfl) rfl ?_
 try refine nilS 31 rfl rfl rfl ?_
 refine allocR tab rfl rfl rfl ?_
 refine storeR tab rfl rfl rfl rfl rfl rfl rfl rfl ?_
 refine WO.nil (qs (W.seq (W.region ?_)))
 first | refine pE rfl ?_ | refine pR rfl rfl rfl rfl rfl ?_ | refine pB rfl rfl rfl rfl rfl rfl ?_
 refine pu (puCall rfl rfl rfl awp2 rfl) rfl ?_
 iterate 5 refine pE rfl ?_
 refine WO.nil (qs (W.seq (W.region ?_)))
 refine pu (build tab rfl rfl rfl rfl) rfl ?_
 try refine nilS 38 rfl rfl rfl ?_
 refine pu (puCall rfl rfl rfl awp3 rfl) rfl ?_
 iterate 5 refine pE rfl ?_
 refine WO.nil (qs (W.seq (W.region ?_)))
 refine pu (puCall rfl rfl rfl awp4 rfl) rfl ?_
 iterate 4 refine pE rfl ?_
 refine allocR tab rfl rfl rfl ?_
 refine storeR tab rfl rfl rfl rfl rfl rfl rfl rfl ?_
 iterate 2 refine pE rfl ?_
 refine WO.nil (qs (W.seq (W.region ?_)))
 first | refine pE rfl ?_ | refine pR rfl rfl rfl rfl rfl ?_ | refine pB rfl rfl rfl rfl rfl rfl ?_
 refine pu (puCall rfl rfl rfl awp5 rfl) rfl ?_
 iterate 3 refine pE rfl ?_
 refine allocR tab rfl rfl rfl ?_
 refine storeR tab rfl rfl rfl rfl rfl rfl rfl rfl ?_
 refine pE rfl ?_
 refine WO.nil (qs (W.seq (W.region ?_)))
 first | refine pE rfl ?_ | refine pR rfl rfl rfl rfl rfl ?_ | refine pB rfl rfl rfl rfl rfl rfl ?_
 refine pu (puCall rfl rfl rfl awp6 rfl) rfl ?_
 iterate 3 refine pE rfl ?_
 refine allocR tab rfl rfl rfl ?_
 refine storeR tab rfl rfl rfl rfl rfl rfl rfl rfl ?_
 refine pE rfl ?_
 refine WO.nil (qs ?_)
 iterate 2 refine W.seq ?_
 refine W.region ?_
 first | refine pE rfl ?_ | refine pR rfl rfl rfl rfl rfl ?_ | refine pB rfl rfl rfl rfl rfl rfl ?_
 first | refine pE rfl ?_ | refine pR rfl rfl rfl rfl rfl ?_ | refine pB rfl rfl rfl rfl rfl rfl ?_
 refine pu (puCall rfl rfl rfl awp7 rfl) rfl ?_
 iterate 2 refine pE rfl ?_
 refine splitG rfl rfl (fun g61 => ?_) (fun g61 => ?_)
 ·
  exfalso
  exact absurd g61 (by decide)
 ·
  refine goG rfl rfl ?_
  first | refine pE rfl ?_ | refine pR rfl rfl rfl rfl rfl ?_ | refine pB rfl rfl rfl rfl rfl rfl ?_
  refine goG rfl rfl ?_
  first | refine pE rfl ?_ | refine pR rfl rfl rfl rfl rfl ?_ | refine pB rfl rfl rfl rfl rfl rfl ?_
  refine goG rfl rfl ?_
  refine pu (puCall rfl rfl rfl awp8 rfl) rfl ?_
  refine goG rfl rfl ?_
  iterate 3 refine pE rfl ?_
  refine splitG rfl rfl (fun g67 => ?_) (fun g67 => ?_)
  ·
   exfalso
   exact absurd g67 (by decide)
  ·
   refine goG rfl rfl ?_
   refine pE rfl ?_
   refine goG rfl rfl ?_
   iterate 3 refine pE rfl ?_
   refine splitG rfl rfl (fun g71 => ?_) (fun g71 => ?_)
   ·
    exfalso
    exact absurd g71 (by decide)
   ·
    refine goG rfl rfl ?_
    refine pE rfl ?_
    refine goG rfl rfl ?_
    iterate 3 refine pE rfl ?_
    refine splitG rfl rfl (fun g75 => ?_) (fun g75 => ?_)
    ·
     exfalso
     exact absurd g75 (by decide)
    ·
     refine goG rfl rfl ?_
     refine pE rfl ?_
     refine goG rfl rfl ?_
     iterate 3 refine pE rfl ?_
     refine splitG rfl rfl (fun g79 => ?_) (fun g79 => ?_)
     ·
      exfalso
      exact absurd g79 (by decide)
     ·
      refine goG rfl rfl ?_
      refine pE rfl ?_
      refine goG rfl rfl ?_
      iterate 3 refine pE rfl ?_
      refine splitG rfl rfl (fun g83 => ?_) (fun g83 => ?_)
      ·
       exfalso
       exact absurd g83 (by decide)
      ·
       refine goG rfl rfl ?_
       refine pE rfl ?_
       refine goG rfl rfl ?_
       iterate 3 refine pE rfl ?_
       refine splitG rfl rfl (fun g87 => ?_) (fun g87 => ?_)
       ·
        exfalso
        exact absurd g87 (by decide)
       ·
        refine goG rfl rfl ?_
        refine pE rfl ?_
        refine goG rfl rfl ?_
        iterate 3 refine pE rfl ?_
        refine splitG rfl rfl (fun g91 => ?_) (fun g91 => ?_)
        ·
         exfalso
         exact absurd g91 (by decide)
        ·
         refine goG rfl rfl ?_
         refine pE rfl ?_
         refine goG rfl rfl ?_
         iterate 3 refine pE rfl ?_
         refine splitG rfl rfl (fun g95 => ?_) (fun g95 => ?_)
         ·
          exfalso
          exact absurd g95 (by decide)
         ·
          refine goG rfl rfl ?_
          refine pE rfl ?_
          refine goG rfl rfl ?_
          first | refine pE rfl ?_ | refine pR rfl rfl rfl rfl rfl ?_ | refine pB rfl rfl rfl rfl rfl rfl ?_
          refine goG rfl rfl ?_
          iterate 3 refine pE rfl ?_
          refine splitG rfl rfl (fun g100 => ?_) (fun g100 => ?_)
          ·
           exfalso
           exact absurd g100 (by decide)
          ·
           refine goG rfl rfl ?_
           refine pE rfl ?_
           refine goG rfl rfl ?_
           first | refine pE rfl ?_ | refine pR rfl rfl rfl rfl rfl ?_ | refine pB rfl rfl rfl rfl rfl rfl ?_
           refine goG rfl rfl ?_
           iterate 3 refine pE rfl ?_
           refine splitG rfl rfl (fun g105 => ?_) (fun g105 => ?_)
           ·
            exfalso
            exact absurd g105 (by decide)
           ·
            refine goG rfl rfl ?_
            refine pE rfl ?_
            refine goG rfl rfl ?_
            iterate 3 refine pE rfl ?_
            refine splitG rfl rfl (fun g109 => ?_) (fun g109 => ?_)
            ·
             exfalso
             exact absurd g109 (by decide)
            ·
             refine goG rfl rfl ?_
             refine pE rfl ?_
             refine goG rfl rfl ?_
             first | refine pE rfl ?_ | refine pR rfl rfl rfl rfl rfl ?_ | refine pB rfl rfl rfl rfl rfl rfl ?_
             refine goG rfl rfl ?_
             iterate 3 refine pE rfl ?_
             refine splitG rfl rfl (fun g114 => ?_) (fun g114 => ?_)
             ·
              exfalso
              exact absurd g114 (by decide)
             ·
              refine goG rfl rfl ?_
              iterate 2 refine pE rfl ?_
              refine WO.nil (qs ?_)
              refine condK rfl (fun h116 => ?_) (fun h116 => ?_)
              ·
               exfalso
               exact absurd h116 (by decide)
              ·
               refine W.skip (qs (W.seq (W.region ?_)))
               refine pu (puCall rfl rfl rfl awf0 rfl) rfl ?_
               refine pE rfl ?_
               refine splitG rfl rfl (fun g118 => ?_) (fun g118 => ?_)
               ·
                refine goG rfl rfl ?_
                refine pu (puCall rfl rfl rfl awf1 rfl) rfl ?_
                iterate 2 refine pE rfl ?_
                refine splitG rfl rfl (fun g121 => ?_) (fun g121 => ?_)
                ·
                 refine goG rfl rfl ?_
                 refine pu (puCall rfl rfl rfl awf2 rfl) rfl ?_
                 iterate 2 refine pE rfl ?_
                 refine splitG rfl rfl (fun g124 => ?_) (fun g124 => ?_)
                 ·
                  refine goG rfl rfl ?_
                  refine pu (puCall rfl rfl rfl awf3 rfl) rfl ?_
                  iterate 2 refine pE rfl ?_
                  refine splitG rfl rfl (fun g127 => ?_) (fun g127 => ?_)
                  ·
                   refine goG rfl rfl ?_
                   refine pu (puCall rfl rfl rfl awf4 rfl) rfl ?_
                   iterate 2 refine pE rfl ?_
                   refine splitG rfl rfl (fun g130 => ?_) (fun g130 => ?_)
                   ·
                    refine goG rfl rfl ?_
                    refine pu (puCall rfl rfl rfl awf5 rfl) rfl ?_
                    iterate 2 refine pE rfl ?_
                    refine splitG rfl rfl (fun g133 => ?_) (fun g133 => ?_)
                    ·
                     refine goG rfl rfl ?_
                     refine pu (puCall rfl rfl rfl awf6 rfl) rfl ?_
                     iterate 2 refine pE rfl ?_
                     refine splitG rfl rfl (fun g136 => ?_) (fun g136 => ?_)
                     ·
                      refine goG rfl rfl ?_
                      refine pu (puCall rfl rfl rfl awf7 rfl) rfl ?_
                      iterate 2 refine pE rfl ?_
                      refine WO.nil (qs (W.ret ?_))
                      refine QF.ret0 trivial rfl ?_
                      rfl
                     ·
                      exfalso
                      exact absurd g136 (by decide)
                    ·
                     exfalso
                     exact absurd g133 (by decide)
                   ·
                    exfalso
                    exact absurd g130 (by decide)
                  ·
                   exfalso
                   exact absurd g127 (by decide)
                 ·
                  exfalso
                  exact absurd g124 (by decide)
                ·
                 exfalso
                 exact absurd g121 (by decide)
               ·
                exfalso
                exact absurd g118 (by decide)
end Go.Proofs.YtllkpgnpioojjaaDoor
namespace Go.Proofs.YtllkpgnpioojjaaDoor
open Go.Ab Go.Tb
set_option maxRecDepth 10000
attribute [local irreducible] W WO Pu QS QB QL QF QV QV1 CH QE
inductive FitJ : JV → Prop
 | mk (j : JV) (hs : j.s.size ≤ maxLen) (hk : j.keys.length ≤ maxLen) (hks : ∀ s ∈ j.keys, s.size ≤ maxLen) (hz : ∀ z ∈ j.kids, FitJ z) : FitJ j
end Go.Proofs.YtllkpgnpioojjaaDoor
namespace Go.Proofs.YtllkpgnpioojjaaDoor
open Go.Ab Go.Tb
set_option maxRecDepth 10000
attribute [local irreducible] W WO Pu QS QB QL QF QV QV1 CH QE
end Go.Proofs.YtllkpgnpioojjaaDoor
namespace Go.Proofs.YtllkpgnpioojjaaDoor
open Go.Ab Go.Tb
set_option maxRecDepth 10000
attribute [local irreducible] W WO Pu QS QB QL QF QV QV1 CH QE
theorem eqJ_refl (a : JV) : eqJ a a = true := (eqJ_iff a a).2 rfl
end Go.Proofs.YtllkpgnpioojjaaDoor
namespace Go.Proofs.YtllkpgnpioojjaaDoor
open Go.Ab Go.Tb
set_option maxRecDepth 10000
attribute [local irreducible] W WO Pu QS QB QL QF QV QV1 CH QE
theorem bys_cat (a b : ByteArray) : bys (a ++ b) = bys a ++ bys b := by show (a ++ b).data.toList = _; rw [ByteArray.data_append, Array.toList_append]; rfl
end Go.Proofs.YtllkpgnpioojjaaDoor
namespace Go.Proofs.YtllkpgnpioojjaaDoor
open Go.Ab Go.Tb
set_option maxRecDepth 10000
attribute [local irreducible] W WO Pu QS QB QL QF QV QV1 CH QE
end Go.Proofs.YtllkpgnpioojjaaDoor
namespace Go.Proofs.YtllkpgnpioojjaaDoor
open Go.Ab Go.Tb
set_option maxRecDepth 10000
attribute [local irreducible] W WO Pu QS QB QL QF QV QV1 CH QE
end Go.Proofs.YtllkpgnpioojjaaDoor
namespace Go.Proofs.YtllkpgnpioojjaaDoor
open Go.Ab Go.Tb
set_option maxRecDepth 10000
attribute [local irreducible] W WO Pu QS QB QL QF QV QV1 CH QE
end Go.Proofs.YtllkpgnpioojjaaDoor
namespace Go.Proofs.YtllkpgnpioojjaaDoor
open Go.Ab Go.Tb
set_option maxRecDepth 10000
attribute [local irreducible] W WO Pu QS QB QL QF QV QV1 CH QE
@[reducible] def rbox (s : ByteArray) (i : Nat) (pos err : Int) : List A := [.d (cs s), .d (.v (.int .i64 (i : Int))), .d (.v (.int .i64 pos)), .d (.v (.int .i64 err))]
theorem rdigit_fn (b : UInt8) : Does Tryd.prog 77 [.d (.v (.int .u8 b.toNat))] (.d (.v (.bool (isDig b)))) 0 := by
 refine Does.of_W (n := 9) (ts := [2]) Tryd.func77 (by kernel_rfl) rfl Tryd.ntmps77 Tryd.results77 rfl rfl fun C hC hG => ?_
 refine W.seq (W.region ?_)
 refine pE rfl ?_
 refine WO.nil (qs (W.seq ?_))
 apply regionB; (case hb => rfl)
 ·
  iterate 3 refine pE rfl ?_
  apply splitJ; (case hj => rfl); (case hl => rfl)
  ·
   refine goG rfl rfl ?_
   refine pE rfl ?_
   refine goG rfl rfl ?_
   iterate 3 refine pE rfl ?_
   refine WO.nil ?_
   refine qv1 rfl rfl rfl
  ·
   iterate 2 refine skipT rfl rfl rfl rfl ?_
   iterate 2 refine pE rfl ?_
   refine WO.nil ?_
   refine qv1 rfl rfl rfl
 refine qs (W.ret ?_)
 refine QF.ret0 trivial rfl ?_
 show A.d (D.v (Value.bool _)) = A.d (D.v (Value.bool _)); congr 3; rw [Bool.eq_iff_iff, dig_iff]; generalize b.toNat = n; simp; omega
def hexR (b : UInt8) : Int := if isDig b = true then (b.toNat : Int) - 48 else if 97 ≤ b.toNat ∧ b.toNat ≤ 102 then (b.toNat : Int) - 87 else if 65 ≤ b.toNat ∧ b.toNat ≤ 70 then (b.toNat : Int) - 55 else -1
theorem rhex_fn (b : UInt8) : Does Tryd.prog 89 [.d (.v (.int .u8 b.toNat))] (.d (.v (.int .i64 (hexR b)))) 0 := by
 have hlt : b.toNat < 256 := b.toNat_lt
 refine Does.of_W (n := 31) (ts := [2]) Tryd.func89 (by kernel_rfl) rfl Tryd.ntmps89 Tryd.results89 rfl rfl fun C hC hG => ?_
 refine W.seq (W.region ?_)
 refine pE rfl ?_
 refine WO.nil (qs (W.seq (W.block (W.seq (W.region ?_)))))
 refine pE rfl ?_
 refine pu (puCall rfl rfl rfl (rdigit_fn ..) rfl) rfl ?_
 refine pE rfl ?_
 refine WO.nil (qs ?_)
 refine condK rfl (fun h3 => ?_) (fun h3 => ?_)
 ·
  have hg : hexR b = (b.toNat : Int) - 48 := by unfold hexR; rw [if_pos h3]
  have q := (dig_iff b).1 h3
  refine W.seq (W.region ?_)
  refine pE rfl ?_
  refine pu (puI (ev tab rfl) (y := (b.toNat : Int) - 48) (wrap_u8 (by omega))) rfl ?_
  refine pu (puI (ev tab rfl) (y := (b.toNat : Int) - 48) (wrap64 (by omega))) rfl ?_
  refine pE rfl ?_
  refine WO.nil (qs (W.ret (qbRet (qsRet ?_))))
  refine QF.ret0 trivial rfl ?_
  rw [hg]; rfl
 ·
  have n3 : ¬ isDig b = true := by rw [h3]; simp
  refine W.seq ?_
  apply regionB; (case hb => rfl)
  ·
   iterate 3 refine pE rfl ?_
   apply splitJ; (case hj => rfl); (case hl => rfl)
   ·
    refine goG rfl rfl ?_
    refine pE rfl ?_
    refine goG rfl rfl ?_
    iterate 3 refine pE rfl ?_
    refine WO.nil ?_
    refine qv1 rfl rfl rfl
   ·
    iterate 2 refine skipT rfl rfl rfl rfl ?_
    iterate 2 refine pE rfl ?_
    refine WO.nil ?_
    refine qv1 rfl rfl rfl
  refine qs ?_
  refine condK rfl (fun h9 => ?_) (fun h9 => ?_)
  ·
   have q : 97 ≤ b.toNat ∧ b.toNat ≤ 102 := by revert h9; simp; omega
   have hg : hexR b = (b.toNat : Int) - 87 := by unfold hexR; rw [if_neg n3, if_pos q]
   refine W.seq (W.region ?_)
   refine pE rfl ?_
   refine pu (puI (ev tab rfl) (y := (b.toNat : Int) - 97) (wrap_u8 (by omega))) rfl ?_
   refine pu (puI (ev tab rfl) (y := (b.toNat : Int) - 97) (wrap64 (by omega))) rfl ?_
   refine pu (puI (ev tab rfl) (y := (b.toNat : Int) - 87) (Eq.trans (wrap64 (by omega)) (by omega))) rfl ?_
   refine pE rfl ?_
   refine WO.nil (qs (W.ret (qbRet (qsRet ?_))))
   refine QF.ret0 trivial rfl ?_
   rw [hg]; rfl
  ·
   have n9 : ¬ (97 ≤ b.toNat ∧ b.toNat ≤ 102) := by revert h9; simp; omega
   refine W.seq ?_
   apply regionB; (case hb => rfl)
   ·
    iterate 3 refine pE rfl ?_
    apply splitJ; (case hj => rfl); (case hl => rfl)
    ·
     refine goG rfl rfl ?_
     refine pE rfl ?_
     refine goG rfl rfl ?_
     iterate 3 refine pE rfl ?_
     refine WO.nil ?_
     refine qv1 rfl rfl rfl
    ·
     iterate 2 refine skipT rfl rfl rfl rfl ?_
     iterate 2 refine pE rfl ?_
     refine WO.nil ?_
     refine qv1 rfl rfl rfl
   refine qs ?_
   refine condK rfl (fun h20 => ?_) (fun h20 => ?_)
   ·
    have q : 65 ≤ b.toNat ∧ b.toNat ≤ 70 := by revert h20; simp; omega
    have hg : hexR b = (b.toNat : Int) - 55 := by unfold hexR; rw [if_neg n3, if_neg n9, if_pos q]
    refine W.seq (W.region ?_)
    refine pE rfl ?_
    refine pu (puI (ev tab rfl) (y := (b.toNat : Int) - 65) (wrap_u8 (by omega))) rfl ?_
    refine pu (puI (ev tab rfl) (y := (b.toNat : Int) - 65) (wrap64 (by omega))) rfl ?_
    refine pu (puI (ev tab rfl) (y := (b.toNat : Int) - 55) (Eq.trans (wrap64 (by omega)) (by omega))) rfl ?_
    refine pE rfl ?_
    refine WO.nil (qs (W.ret (qbRet (qsRet ?_))))
    refine QF.ret0 trivial rfl ?_
    rw [hg]; rfl
   ·
    have n20 : ¬ (65 ≤ b.toNat ∧ b.toNat ≤ 70) := by revert h20; simp; omega
    have hg : hexR b = -1 := by unfold hexR; rw [if_neg n3, if_neg n9, if_neg n20]
    refine W.skip (qbN (qs (W.seq (W.region ?_))))
    refine pE rfl ?_
    refine WO.nil (qs (W.ret ?_))
    refine QF.ret0 trivial rfl ?_
    rw [hg]; rfl
theorem rpeek_fn (s : ByteArray) (i : Nat) (p e : Int) : DoesB Tryd.prog 58 [.ptr 0 0] [rbox s i p e] 0 (.d (.v (.int .u8 (hereB (bys s) i).toNat))) [rbox s i p e] 0 := by
 refine DoesB.of_V tab (n := 22) (rs := [.tmp 2]) Tryd.func58 (by kernel_rfl) rfl Tryd.ntmps58 Tryd.results58 rfl rfl fun C hC hG => ?_
 refine W.seq (W.region ?_)
 refine pE rfl ?_
 refine WO.nil (qs ?_)
 iterate 2 refine W.seq ?_
 refine W.regionD tab (by kernel_rfl) ?_
 iterate 3 refine chPu (ev tab rfl) rfl ?_
 first | refine chPu (ev tab rfl) rfl ?_ | refine chPu (loadRow tab rfl rfl rfl rfl) rfl ?_ | refine chPu (loadBox tab rfl rfl rfl rfl rfl) rfl ?_
 iterate 3 refine chPu (ev tab rfl) rfl ?_
 first | refine chPu (ev tab rfl) rfl ?_ | refine chPu (loadRow tab rfl rfl rfl rfl) rfl ?_ | refine chPu (loadBox tab rfl rfl rfl rfl rfl) rfl ?_
 iterate 2 refine chPu (ev tab rfl) rfl ?_
 refine CH.nil ?_
 refine qs ?_
 refine condK rfl (fun h12 => ?_) (fun h12 => ?_)
 ·
  have hg : hereB (bys s) i = 0 := here_end (by rw [bytes_len]; simpa using h12)
  refine W.seq (W.region ?_)
  refine pE rfl ?_
  refine WO.nil (qs (W.ret (qsRet ?_)))
  refine QB1.end tab [] trivial rfl rfl rfl rfl ?_ ?_
  · exact ⟨rfl, trivial⟩
  rw [hg]; rfl
 ·
  have hb := here_at (s := s) (i := i) (by simpa using h12)
  refine W.skip (qs (W.seq ?_))
  refine W.regionD tab (by kernel_rfl) ?_
  iterate 3 refine chPu (ev tab rfl) rfl ?_
  first | refine chPu (ev tab rfl) rfl ?_ | refine chPu (loadRow tab rfl rfl rfl rfl) rfl ?_ | refine chPu (loadBox tab rfl rfl rfl rfl rfl) rfl ?_
  iterate 3 refine chPu (ev tab rfl) rfl ?_
  first | refine chPu (ev tab rfl) rfl ?_ | refine chPu (loadRow tab rfl rfl rfl rfl) rfl ?_ | refine chPu (loadBox tab rfl rfl rfl rfl rfl) rfl ?_
  refine chPu (indexStr tab rfl rfl rfl rfl (Int.natCast_nonneg _) (byteList hb)) rfl ?_
  refine chPu (ev tab rfl) rfl ?_
  refine CH.nil ?_
  refine qs (W.ret ?_)
  refine QB1.end tab [] trivial rfl rfl rfl rfl ?_ ?_
  · exact ⟨rfl, trivial⟩
  rfl
theorem rfail_0 (s : ByteArray) (i : Nat) (p e : Int) (w a : Int) (q : e = 0) : DoesB Tryd.prog 36 [.ptr 0 0, .d (.v (.int .i64 w)), .d (.v (.int .i64 a))] [rbox s i p e] 0 (.tup []) [rbox s i a w] 0 := by
 refine DoesB.of_V tab (n := 19) (rs := []) Tryd.func36 (by kernel_rfl) rfl Tryd.ntmps36 Tryd.results36 rfl rfl fun C hC hG => ?_
 refine W.seq (W.region ?_)
 iterate 3 refine pE rfl ?_
 first | refine pE rfl ?_ | refine pR rfl rfl rfl rfl rfl ?_ | refine pB rfl rfl rfl rfl rfl rfl ?_
 refine pE rfl ?_
 refine WO.nil (qs ?_)
 refine condK rfl (fun h10 => ?_) (fun h10 => ?_)
 ·
  refine W.seq (W.region ?_)
  iterate 4 refine pE rfl ?_
  refine storeR tab rfl rfl rfl rfl rfl rfl rfl rfl ?_
  refine WO.nil (qs (W.region ?_))
  iterate 4 refine pE rfl ?_
  refine storeR tab rfl rfl rfl rfl rfl rfl rfl rfl ?_
  refine WO.nil ?_
  refine QB1.end tab [] trivial rfl rfl rfl rfl ?_ ?_
  · exact ⟨rfl, trivial⟩
  rfl
 ·
  exfalso; simp [q] at h10
theorem rfail_1 (s : ByteArray) (i : Nat) (p e : Int) (w a : Int) (q : ¬ e = 0) : DoesB Tryd.prog 36 [.ptr 0 0, .d (.v (.int .i64 w)), .d (.v (.int .i64 a))] [rbox s i p e] 0 (.tup []) [rbox s i p e] 0 := by
 refine DoesB.of_V tab (n := 19) (rs := []) Tryd.func36 (by kernel_rfl) rfl Tryd.ntmps36 Tryd.results36 rfl rfl fun C hC hG => ?_
 refine W.seq (W.region ?_)
 iterate 3 refine pE rfl ?_
 first | refine pE rfl ?_ | refine pR rfl rfl rfl rfl rfl ?_ | refine pB rfl rfl rfl rfl rfl rfl ?_
 refine pE rfl ?_
 refine WO.nil (qs ?_)
 refine condK rfl (fun h10 => ?_) (fun h10 => ?_)
 ·
  exfalso; simp [q] at h10
 ·
  refine W.skip ?_
  refine QB1.end tab [] trivial rfl rfl rfl rfl ?_ ?_
  · exact ⟨rfl, trivial⟩
  rfl
theorem rfail_fn (s : ByteArray) (i : Nat) (p e : Int) (w a : Int) : DoesB Tryd.prog 36 [.ptr 0 0, .d (.v (.int .i64 w)), .d (.v (.int .i64 a))] [rbox s i p e] 0 (.tup []) [rbox s i (if e = 0 then a else p) (if e = 0 then w else e)] 0 := by
 by_cases q : e = 0
 ·
  rw [if_pos q, if_pos q]
  exact rfail_0 s i p e w a q
 ·
  rw [if_neg q, if_neg q]
  exact rfail_1 s i p e w a q
end Go.Proofs.YtllkpgnpioojjaaDoor
namespace Go.Proofs.YtllkpgnpioojjaaDoor
open Go.Ab Go.Tb
set_option maxRecDepth 10000
attribute [local irreducible] W WO Pu QS QB QL QF QV QV1 CH QE
theorem ws_yes {b : UInt8} (h : (b.toNat : Int) = 32 ∨ (b.toNat : Int) = 9 ∨ (b.toNat : Int) = 10 ∨ (b.toNat : Int) = 13) : isWs b = true := by
 unfold isWs; simp only [Bool.or_eq_true, decide_eq_true_eq]; omega
theorem ws_no {b : UInt8} (h1 : ¬ (b.toNat : Int) = 32) (h2 : ¬ (b.toNat : Int) = 9) (h3 : ¬ (b.toNat : Int) = 10) (h4 : ¬ (b.toNat : Int) = 13) : isWs b = false := by
 cases q : isWs b with
 | false => rfl
 | true => unfold isWs at q; simp only [Bool.or_eq_true, decide_eq_true_eq] at q; omega
theorem rspace_fn (s : ByteArray) (i : Nat) (p e : Int) (hi : i ≤ s.size) (hs : s.size ≤ 1000000000) : DoesB Tryd.prog 57 [.ptr 0 0] [rbox s i p e] 0 (.tup []) [rbox s (skipB (bys s) i) p e] 0 := by
 refine DoesB.of_V tab (n := 27) (rs := []) Tryd.func57 (by kernel_rfl) rfl Tryd.ntmps57 Tryd.results57 rfl rfl fun C hC hG => ?_
 refine W.block ?_
 refine W.loopR (ι := {x : Nat // match x with | j => j ≤ s.size ∧ skipB (bys s) j = skipB (bys s) i})
  (fun x => match x.1 with | j => [(0, .ptr 0 0)]) []
  (fun x => match x.1 with | j => [(0, [.d (cs s), .d (.v (.int .i64 (j : Int))), .d (.v (.int .i64 p)), .d (.v (.int .i64 e))])]) [] [] 1 (fun x => match x.1 with | j => s.size - j)
  [0] ⟨i, ?_⟩ rfl ?_ trivial ?_ trivial rfl ?_
 · exact ⟨hi, rfl⟩
 · repeat' first | exact trivial | refine ⟨rfl, ?_⟩ | refine ⟨congrArg some (renL_boxE _ _ _), ?_⟩ | refine ⟨step_nat (by assumption) (by assumption), ?_⟩
 · repeat' first | exact trivial | refine ⟨rfl, ?_⟩ | refine ⟨congrArg some (renL_boxE _ _ _), ?_⟩ | refine ⟨step_nat (by assumption) (by assumption), ?_⟩
 rintro ⟨j, hk, hI⟩
 show W _ _ _ _ _ ⟨[(0, .ptr 0 0)], [(0, [.d (cs s), .d (.v (.int .i64 (j : Int))), .d (.v (.int .i64 p)), .d (.v (.int .i64 e))])], [], 1⟩
 iterate 2 refine W.seq ?_
 refine W.region ?_
 refine pE rfl ?_
 refine callB [0] [] rfl rfl rfl rfl rfl ((rpeek_fn s j p e)) rfl rfl (by rfl) (by rfl) rfl rfl rfl rfl ?_
 iterate 2 refine pE rfl ?_
 refine splitG rfl rfl (fun g5 => ?_) (fun g5 => ?_)
 ·
  iterate 3 refine skipT rfl rfl rfl rfl ?_
  iterate 2 refine pE rfl ?_
  iterate 3 refine skipT rfl rfl rfl rfl ?_
  iterate 2 refine pE rfl ?_
  iterate 3 refine skipT rfl rfl rfl rfl ?_
  refine pE rfl ?_
  refine WO.nil (qs ?_)
  refine W.condT rfl ?_
  refine W.skip (qs (W.block ?_))
  have q : isWs (hereB (bys s) j) = true := ws_yes (by simp_all)
  have hjs : j < s.size := by
   have := here_lt (l := bys s) (i := j) (by intro q2; rw [q2] at q; exact absurd q (by decide))
   rwa [bytes_len] at this
  have hst := skipB_step (l := bys s) (i := j) (by rw [bytes_len]; exact hjs) q
  refine W.region ?_
  iterate 3 refine pE rfl ?_
  first | refine pE rfl ?_ | refine pR rfl rfl rfl rfl rfl ?_ | refine pB rfl rfl rfl rfl rfl rfl ?_
  refine pu (puI (ev tab rfl) (y := ((j + 1 : Nat) : Int)) (wrap64 (by omega))) rfl ?_
  iterate 2 refine pE rfl ?_
  refine storeR tab rfl rfl rfl rfl rfl rfl rfl rfl ?_
  refine WO.nil (qbN ?_)
  refine W.endR [0] ⟨j + 1, ?_⟩ ?_ rfl ?_ trivial ?_ trivial rfl
  · exact ⟨hjs, by rw [← hst, hI]⟩
  · dsimp only; omega
  · repeat' first | exact trivial | refine ⟨rfl, ?_⟩ | refine ⟨congrArg some (renL_boxE _ _ _), ?_⟩ | refine ⟨step_nat (by assumption) (by assumption), ?_⟩
  · repeat' first | exact trivial | refine ⟨rfl, ?_⟩ | refine ⟨congrArg some (renL_boxE _ _ _), ?_⟩ | refine ⟨step_nat (by assumption) (by assumption), ?_⟩
 ·
  refine goG rfl rfl ?_
  refine pE rfl ?_
  refine goG rfl rfl ?_
  refine callB [0] [] rfl rfl rfl rfl rfl ((rpeek_fn s j p e)) rfl rfl (by rfl) (by rfl) rfl rfl rfl rfl ?_
  refine goG rfl rfl ?_
  iterate 3 refine pE rfl ?_
  refine splitG rfl rfl (fun g10 => ?_) (fun g10 => ?_)
  ·
   iterate 3 refine skipT rfl rfl rfl rfl ?_
   iterate 2 refine pE rfl ?_
   iterate 3 refine skipT rfl rfl rfl rfl ?_
   refine pE rfl ?_
   refine WO.nil (qs ?_)
   refine W.condT rfl ?_
   refine W.skip (qs (W.block ?_))
   have q : isWs (hereB (bys s) j) = true := ws_yes (by simp_all)
   have hjs : j < s.size := by
    have := here_lt (l := bys s) (i := j) (by intro q2; rw [q2] at q; exact absurd q (by decide))
    rwa [bytes_len] at this
   have hst := skipB_step (l := bys s) (i := j) (by rw [bytes_len]; exact hjs) q
   refine W.region ?_
   iterate 3 refine pE rfl ?_
   first | refine pE rfl ?_ | refine pR rfl rfl rfl rfl rfl ?_ | refine pB rfl rfl rfl rfl rfl rfl ?_
   refine pu (puI (ev tab rfl) (y := ((j + 1 : Nat) : Int)) (wrap64 (by omega))) rfl ?_
   iterate 2 refine pE rfl ?_
   refine storeR tab rfl rfl rfl rfl rfl rfl rfl rfl ?_
   refine WO.nil (qbN ?_)
   refine W.endR [0] ⟨j + 1, ?_⟩ ?_ rfl ?_ trivial ?_ trivial rfl
   · exact ⟨hjs, by rw [← hst, hI]⟩
   · dsimp only; omega
   · repeat' first | exact trivial | refine ⟨rfl, ?_⟩ | refine ⟨congrArg some (renL_boxE _ _ _), ?_⟩ | refine ⟨step_nat (by assumption) (by assumption), ?_⟩
   · repeat' first | exact trivial | refine ⟨rfl, ?_⟩ | refine ⟨congrArg some (renL_boxE _ _ _), ?_⟩ | refine ⟨step_nat (by assumption) (by assumption), ?_⟩
  ·
   refine goG rfl rfl ?_
   refine pE rfl ?_
   refine goG rfl rfl ?_
   refine callB [0] [] rfl rfl rfl rfl rfl ((rpeek_fn s j p e)) rfl rfl (by rfl) (by rfl) rfl rfl rfl rfl ?_
   refine goG rfl rfl ?_
   iterate 3 refine pE rfl ?_
   refine splitG rfl rfl (fun g15 => ?_) (fun g15 => ?_)
   ·
    iterate 3 refine skipT rfl rfl rfl rfl ?_
    refine pE rfl ?_
    refine WO.nil (qs ?_)
    refine W.condT rfl ?_
    refine W.skip (qs (W.block ?_))
    have q : isWs (hereB (bys s) j) = true := ws_yes (by simp_all)
    have hjs : j < s.size := by
     have := here_lt (l := bys s) (i := j) (by intro q2; rw [q2] at q; exact absurd q (by decide))
     rwa [bytes_len] at this
    have hst := skipB_step (l := bys s) (i := j) (by rw [bytes_len]; exact hjs) q
    refine W.region ?_
    iterate 3 refine pE rfl ?_
    first | refine pE rfl ?_ | refine pR rfl rfl rfl rfl rfl ?_ | refine pB rfl rfl rfl rfl rfl rfl ?_
    refine pu (puI (ev tab rfl) (y := ((j + 1 : Nat) : Int)) (wrap64 (by omega))) rfl ?_
    iterate 2 refine pE rfl ?_
    refine storeR tab rfl rfl rfl rfl rfl rfl rfl rfl ?_
    refine WO.nil (qbN ?_)
    refine W.endR [0] ⟨j + 1, ?_⟩ ?_ rfl ?_ trivial ?_ trivial rfl
    · exact ⟨hjs, by rw [← hst, hI]⟩
    · dsimp only; omega
    · repeat' first | exact trivial | refine ⟨rfl, ?_⟩ | refine ⟨congrArg some (renL_boxE _ _ _), ?_⟩ | refine ⟨step_nat (by assumption) (by assumption), ?_⟩
    · repeat' first | exact trivial | refine ⟨rfl, ?_⟩ | refine ⟨congrArg some (renL_boxE _ _ _), ?_⟩ | refine ⟨step_nat (by assumption) (by assumption), ?_⟩
   ·
    refine goG rfl rfl ?_
    refine pE rfl ?_
    refine goG rfl rfl ?_
    refine callB [0] [] rfl rfl rfl rfl rfl ((rpeek_fn s j p e)) rfl rfl (by rfl) (by rfl) rfl rfl rfl rfl ?_
    refine goG rfl rfl ?_
    iterate 2 refine pE rfl ?_
    refine WO.nil (qs ?_)
    refine condK rfl (fun h19 => ?_) (fun h19 => ?_)
    ·
     refine W.skip (qs (W.block ?_))
     have q : isWs (hereB (bys s) j) = true := ws_yes (by simp_all)
     have hjs : j < s.size := by
      have := here_lt (l := bys s) (i := j) (by intro q2; rw [q2] at q; exact absurd q (by decide))
      rwa [bytes_len] at this
     have hst := skipB_step (l := bys s) (i := j) (by rw [bytes_len]; exact hjs) q
     refine W.region ?_
     iterate 3 refine pE rfl ?_
     first | refine pE rfl ?_ | refine pR rfl rfl rfl rfl rfl ?_ | refine pB rfl rfl rfl rfl rfl rfl ?_
     refine pu (puI (ev tab rfl) (y := ((j + 1 : Nat) : Int)) (wrap64 (by omega))) rfl ?_
     iterate 2 refine pE rfl ?_
     refine storeR tab rfl rfl rfl rfl rfl rfl rfl rfl ?_
     refine WO.nil (qbN ?_)
     refine W.endR [0] ⟨j + 1, ?_⟩ ?_ rfl ?_ trivial ?_ trivial rfl
     · exact ⟨hjs, by rw [← hst, hI]⟩
     · dsimp only; omega
     · repeat' first | exact trivial | refine ⟨rfl, ?_⟩ | refine ⟨congrArg some (renL_boxE _ _ _), ?_⟩ | refine ⟨step_nat (by assumption) (by assumption), ?_⟩
     · repeat' first | exact trivial | refine ⟨rfl, ?_⟩ | refine ⟨congrArg some (renL_boxE _ _ _), ?_⟩ | refine ⟨step_nat (by assumption) (by assumption), ?_⟩
    ·
     refine W.exit (qsExit (qlExit (qbExit ?_)))
     refine QB1.end tab [] trivial rfl rfl rfl rfl ?_ ?_
     · rw [show skipB (bys s) i = j from by rw [← hI]; exact skipB_stay (ws_no (by simp_all) (by simp_all) (by simp_all) (by simp_all))]; exact ⟨rfl, trivial⟩
     rfl
end Go.Proofs.YtllkpgnpioojjaaDoor
namespace Go.Proofs.YtllkpgnpioojjaaDoor
open Go.Ab Go.Tb
set_option maxRecDepth 10000
attribute [local irreducible] W WO Pu QS QB QL QF QV QV1 CH QE
theorem take_c {l : List UInt8} {c : UInt8} {i : Nat} (hc : c ≠ 0) : takeJ l c i = if hereB l i = c then .ok () (i + 1) else .no i 10 := by
 unfold takeJ
 by_cases q : hereB l i = c
 · rw [if_pos q, if_pos ⟨here_lt (by rw [q]; exact hc), q⟩]
 · rw [if_neg q, if_neg (fun h => q h.2)]
def needP : PE Unit → Int → Nat × Int × Int
 | .ok _ j, p => (j, p, 0)
 | .no a w, _ => (a, (a : Int), w)
theorem rneed_fn (s w : ByteArray) (i : Nat) (p : Int) (hi : i ≤ s.size) (hs : s.size ≤ 1000000000) (hw : ∀ b ∈ bys w, b ≠ 0) :
  DoesB Tryd.prog 75 [.ptr 0 0, .d (.v (.string w))] [rbox s i p 0] 0 (.tup []) [rbox s (needP (wordJ (bys s) (bys w) i) p).1 (needP (wordJ (bys s) (bys w) i) p).2.1 (needP (wordJ (bys s) (bys w) i) p).2.2] 0 := by
 refine DoesB.of_V tab (n := 37) (rs := []) Tryd.func75 (by kernel_rfl) rfl Tryd.ntmps75 Tryd.results75 rfl rfl fun C hC hG => ?_
 refine W.seq (W.region ?_)
 refine pE rfl ?_
 refine WO.nil (qs (W.block ?_))
 refine W.inRange (t := 1) rfl (fun hok => ?_)
 have hlen := okc_size hok
 refine W.loopR (ι := {x : Nat × Nat // match x with | (k, j) => k ≤ (bys w).length ∧ j ≤ s.size ∧ wordJ (bys s) ((bys w).drop k) j = wordJ (bys s) (bys w) i})
  (fun x => match x.1 with | (k, j) => [(0, .ptr 0 0), (4, .d (.v (.int .i64 ((k : Nat) : Int))))]) [(1, _)]
  (fun x => match x.1 with | (k, j) => [(0, [.d (cs s), .d (.v (.int .i64 (j : Int))), .d (.v (.int .i64 p)), .d (.v (.int .i64 0))])]) [] [] 1 (fun x => match x.1 with | (k, j) => (bys w).length - k)
  [0] ⟨(0, i), ?_⟩ rfl ?_ ⟨rfl, rfl, trivial⟩ ?_ trivial rfl ?_
 · exact ⟨Nat.zero_le _, hi, rfl⟩
 · repeat' first | exact trivial | refine ⟨rfl, ?_⟩ | refine ⟨congrArg some (renL_boxE _ _ _), ?_⟩ | refine ⟨step_nat (by assumption) (by assumption), ?_⟩
 · repeat' first | exact trivial | refine ⟨rfl, ?_⟩ | refine ⟨congrArg some (renL_boxE _ _ _), ?_⟩ | refine ⟨step_nat (by assumption) (by assumption), ?_⟩
 rintro ⟨⟨k, j⟩, hk, hj, hI⟩
 show W _ _ _ _ _ ⟨[(0, .ptr 0 0), (4, .d (.v (.int .i64 ((k : Nat) : Int)))), (1, _)], [(0, [.d (cs s), .d (.v (.int .i64 (j : Int))), .d (.v (.int .i64 p)), .d (.v (.int .i64 0))])], [], 1⟩
 iterate 2 refine W.seq ?_
 apply regionB; (case hb => rfl)
 ·
  iterate 5 refine pE rfl ?_
  apply splitJ; (case hj => rfl); (case hl => rfl)
  ·
   refine goG rfl rfl ?_
   refine pE rfl ?_
   refine goG rfl rfl ?_
   refine pE rfl ?_
   refine goG rfl rfl ?_
   refine pE rfl ?_
   refine goG rfl rfl ?_
   first | refine pE rfl ?_ | refine pR rfl rfl rfl rfl rfl ?_ | refine pB rfl rfl rfl rfl rfl rfl ?_
   refine goG rfl rfl ?_
   iterate 2 refine pE rfl ?_
   refine WO.nil ?_
   refine qv1 rfl rfl rfl
  ·
   iterate 5 refine skipT rfl rfl rfl rfl ?_
   refine pE rfl ?_
   refine WO.nil ?_
   refine qv1 rfl rfl rfl
 refine qs ?_
 refine condK rfl (fun h15 => ?_) (fun h15 => ?_)
 ·
  have hlt : k < (bys w).length := by rw [bytes_len]; revert h15; simp
  obtain ⟨b, hx⟩ : ∃ b, (bys w)[k]? = some b := ⟨(bys w)[k], by simp [hlt]⟩
  have hd := List.drop_eq_getElem_cons hlt
  rw [(List.getElem?_eq_some_iff.1 hx).2] at hd
  rw [hd] at hI
  simp only [wordJ] at hI
  rw [take_c (hw b (List.mem_of_getElem? hx))] at hI
  refine W.skip (qs (W.seq (W.block ?_)))
  iterate 2 refine W.seq ?_
  apply W.regionC tab 5 1; (case hB => kernel_rfl); (case h1 => rfl); (case h2 => rfl)
  refine' ccPu0 (ev tab rfl) rfl rfl rfl rfl rfl ?h_1
  case' h_1 => skip
  refine' ccX (fun g => ?e_2) rfl rfl rfl ?h_2
  case e_2 =>
   refine callB [0] [] rfl rfl rfl rfl rfl ((rpeek_fn s j p 0)) rfl rfl (by rfl) (by rfl) rfl rfl rfl rfl ?_
   refine WO.nil ?_
   exact ⟨rfl, rfl⟩
  case' h_2 => skip
  refine ccPu (ev tab rfl) (ev tab rfl) rfl rfl rfl rfl rfl ?_
  refine ccPu (ev tab rfl) (ev tab rfl) rfl rfl rfl rfl rfl ?_
  refine ccPu (indexStr tab rfl rfl rfl rfl (Int.natCast_nonneg _) (byteList hx)) (indexStr tab rfl rfl rfl rfl (Int.natCast_nonneg _) (byteList hx)) rfl rfl rfl rfl rfl ?_
  refine CC.nil ?_
  refine pE rfl ?_
  refine WO.nil (qs ?_)
  refine condK rfl (fun h23 => ?_) (fun h23 => ?_)
  ·
   have q : ¬ hereB (bys s) j = b := by rintro rfl; simp at h23
   rw [if_neg q] at hI
   simp only at hI
   refine W.seq (W.region ?_)
   iterate 4 refine pE rfl ?_
   first | refine pE rfl ?_ | refine pR rfl rfl rfl rfl rfl ?_ | refine pB rfl rfl rfl rfl rfl rfl ?_
   refine callB [0] [] rfl rfl rfl rfl rfl ((rfail_fn s j p 0 10 (j : Int))) rfl rfl (by rfl) (by rfl) rfl rfl rfl rfl ?_
   refine WO.nil (qs (W.ret (qsRet (qbRet (qsRet (qlRet (qbRet ?_)))))))
   refine QB1.end tab [] trivial rfl rfl rfl rfl ?_ ?_
   · rw [← hI]; exact ⟨rfl, trivial⟩
   rfl
  ·
   have q : hereB (bys s) j = b := UInt8.toNat_inj.1 (by simp at h23; omega)
   rw [if_pos q] at hI
   simp only at hI
   have hjs : j < s.size := by
    have := here_lt (l := bys s) (i := j) (by rw [q]; exact hw b (List.mem_of_getElem? hx))
    rwa [bytes_len] at this
   refine W.skip (qs (W.region ?_))
   iterate 3 refine pE rfl ?_
   first | refine pE rfl ?_ | refine pR rfl rfl rfl rfl rfl ?_ | refine pB rfl rfl rfl rfl rfl rfl ?_
   refine pu (puI (ev tab rfl) (y := ((j + 1 : Nat) : Int)) (wrap64 (by omega))) rfl ?_
   iterate 2 refine pE rfl ?_
   refine storeR tab rfl rfl rfl rfl rfl rfl rfl rfl ?_
   refine WO.nil (qbN (qs (W.region ?_)))
   refine pE rfl ?_
   refine pu (puI (ev tab rfl) (y := ((k + 1 : Nat) : Int)) (wrap_nat hlt hlen)) rfl ?_
   refine pE rfl ?_
   refine WO.nil ?_
   refine W.endR [0] ⟨(k + 1, j + 1), ?_⟩ ?_ rfl ?_ ⟨rfl, rfl, trivial⟩ ?_ trivial rfl
   · exact ⟨hlt, hjs, hI⟩
   · dsimp only; omega
   · repeat' first | exact trivial | refine ⟨rfl, ?_⟩ | refine ⟨congrArg some (renL_boxE _ _ _), ?_⟩ | refine ⟨step_nat (by assumption) (by assumption), ?_⟩
   · repeat' first | exact trivial | refine ⟨rfl, ?_⟩ | refine ⟨congrArg some (renL_boxE _ _ _), ?_⟩ | refine ⟨step_nat (by assumption) (by assumption), ?_⟩
 ·
  have hge : (bys w).length ≤ k := by rw [bytes_len]; revert h15; simp
  rw [List.drop_eq_nil_of_le hge] at hI
  simp only [wordJ] at hI
  refine W.exit (qsExit (qlExit (qbExit ?_)))
  refine QB1.end tab [] trivial rfl rfl rfl rfl ?_ ?_
  · rw [← hI]; exact ⟨rfl, trivial⟩
  rfl
end Go.Proofs.YtllkpgnpioojjaaDoor
namespace Go.Proofs.YtllkpgnpioojjaaDoor
open Go.Ab Go.Tb
set_option maxRecDepth 10000
attribute [local irreducible] W WO Pu QS QB QL QF QV QV1 CH QE
abbrev RS := Nat × Int × Int
@[reducible] def rst (s : ByteArray) (st : RS) : List A := rbox s st.1 st.2.1 st.2.2
def outR {α : Type} : PE α → Int → RS
 | .ok _ j, p => (j, p, 0)
 | .no a w, _ => (a, (a : Int), w)
def chR : PE UInt8 → ByteArray
 | .ok c _ => B #[c]
 | .no _ _ => B #[]
theorem outR_ok {α : Type} {x : PE α} {v : α} {j : Nat} (h : x = .ok v j) (p : Int) : outR x p = (j, p, 0) := by rw [h]; rfl
theorem outR_no {α : Type} {x : PE α} {a : Nat} {w : Int} (h : x = .no a w) (p : Int) : outR x p = (a, (a : Int), w) := by rw [h]; rfl
theorem chR_ok {x : PE UInt8} {v : UInt8} {j : Nat} (h : x = .ok v j) : chR x = B #[v] := by rw [h]; rfl
theorem chR_no {x : PE UInt8} {a : Nat} {w : Int} (h : x = .no a w) : chR x = B #[] := by rw [h]; rfl
theorem hexFin : ∀ n : Fin 256, hexR (UInt8.ofNat n.val) = ((hexV (UInt8.ofNat n.val)).map (fun m => (m : Int))).getD (-1) ∧ (hexV (UInt8.ofNat n.val)).getD 0 ≤ 15 := by decide +kernel
theorem hexR_eq (b : UInt8) : hexR b = ((hexV b).map (fun m => (m : Int))).getD (-1) ∧ (hexV b).getD 0 ≤ 15 := by
 have h := hexFin ⟨b.toNat, b.toNat_lt⟩
 simpa using h
theorem hexR_some {b : UInt8} {m : Nat} (h : hexV b = some m) : hexR b = (m : Int) ∧ m ≤ 15 := by have q := hexR_eq b; rw [h] at q; exact q
theorem hexR_none {b : UInt8} (h : hexV b = none) : hexR b = -1 := by have q := hexR_eq b; rw [h] at q; exact q.1
def codeJ (l : List UInt8) (i : Nat) : PE UInt8 := match wordJ l [48, 48] i with
 | .no a w => .no a w
 | .ok _ j => esc2 l j
theorem push_one (c : UInt8) : ByteArray.empty.push (UInt8.ofNat ((c.toNat : Int)).toNat) = B #[c] := by
 have : UInt8.ofNat ((c.toNat : Int)).toNat = c := by simp
 rw [this]; rfl
theorem rcode_fn (s : ByteArray) (i : Nat) (p : Int) (hi : i ≤ s.size) (hs : s.size ≤ 1000000000) : DoesB Tryd.prog 85 [.ptr 0 0] [rbox s i p 0] 0 (.d (.v (.string (chR (codeJ (bys s) i))))) [rst s (outR (codeJ (bys s) i) p)] 0 := by
 have hwb := wordJ_bd (l := bys s) (x := [48, 48]) (i := i) (by rw [bytes_len]; exact hi)
 have hwe := wordJ_e (l := bys s) (x := [48, 48]) (i := i)
 have hN := rneed_fn s (B #[48, 48]) i p hi hs (by decide)
 have hN : DoesB Tryd.prog 75 [.ptr 0 0, .d (.v (.string (B #[48, 48])))] [rbox s i p 0] 0 (.tup []) [rbox s (needP (wordJ (bys s) [48, 48] i) p).1 (needP (wordJ (bys s) [48, 48] i) p).2.1 (needP (wordJ (bys s) [48, 48] i) p).2.2] 0 := hN
 have hg : codeJ (bys s) i = match wordJ (bys s) [48, 48] i with | .no a w => .no a w | .ok _ j => esc2 (bys s) j := rfl
 generalize wordJ (bys s) [48, 48] i = X0 at hwb hwe hN hg
 refine DoesB.of_V tab (n := 72) (rs := [.tmp 2]) Tryd.func85 (by kernel_rfl) rfl Tryd.ntmps85 Tryd.results85 rfl rfl fun C hC hG => ?_
 refine W.seq (W.region ?_)
 refine pE rfl ?_
 refine WO.nil (qs (W.seq (W.region ?_)))
 refine pE rfl ?_
 refine callB [0] [] rfl rfl rfl rfl rfl (hN ..) rfl rfl (by rfl) (by rfl) rfl rfl rfl rfl ?_
 refine WO.nil (qs ?_)
 iterate 2 refine W.seq ?_
 refine W.region ?_
 iterate 3 refine pE rfl ?_
 first | refine pE rfl ?_ | refine pR rfl rfl rfl rfl rfl ?_ | refine pB rfl rfl rfl rfl rfl rfl ?_
 refine pE rfl ?_
 refine WO.nil (qs ?_)
 refine condK rfl (fun h11 => ?_) (fun h11 => ?_)
 ·
  obtain ⟨a, w, hX⟩ : ∃ a w, X0 = .no a w := by
   cases X0 with
   | no a w => exact ⟨a, w, rfl⟩
   | ok u j => simp [needP] at h11
  rw [hX] at hg
  rw [outR_no hg, chR_no hg, hX]
  refine W.seq (W.region ?_)
  refine pE rfl ?_
  refine WO.nil (qs (W.ret (qsRet ?_)))
  refine QB1.end tab [] trivial rfl rfl rfl rfl ?_ ?_
  · first | exact ⟨rfl, trivial⟩ | (simp [rst, needP]; done)
  rfl
 ·
  obtain ⟨u, j, hX⟩ : ∃ u j, X0 = .ok u j := by
   cases X0 with
   | ok u j => exact ⟨u, j, rfl⟩
   | no a w =>
    have hwe : w = 2 ∨ w = 4 ∨ w = 10 ∨ w = 20 := hwe
    have h11 : (!decide (w = 0)) = false := h11
    have h11 : w = 0 := by simpa using h11
    omega
  rw [hX] at hg hwb
  have hj2 : j ≤ s.size := by have := hwb.2; rwa [bytes_len] at this
  rw [hX]
  have hg : codeJ (bys s) i = esc2 (bys s) j := hg
  have hrb := hexR_eq (hereB (bys s) j)
  have hrc := hexR_eq (hereB (bys s) (j + 1))
  refine W.skip (qs (W.seq (W.region ?_)))
  refine pE rfl ?_
  refine callB [0] [] rfl rfl rfl rfl rfl ((rpeek_fn s j p 0)) rfl rfl (by rfl) (by rfl) rfl rfl rfl rfl ?_
  refine pu (puCall rfl rfl rfl (rhex_fn (hereB (bys s) j)) rfl) rfl ?_
  refine pE rfl ?_
  refine WO.nil (qs ?_)
  iterate 2 refine W.seq ?_
  apply regionB; (case hb => rfl)
  ·
   iterate 3 refine pE rfl ?_
   apply splitH; (case hj => rfl); (case hl => rfl)
   ·
    intro g17
    refine goG rfl rfl ?_
    refine pE rfl ?_
    refine goG rfl rfl ?_
    refine pE rfl ?_
    refine goG rfl rfl ?_
    refine pE rfl ?_
    apply splitH; (case hj => rfl); (case hl => rfl)
    ·
     intro g20
     iterate 2 refine skipT rfl rfl rfl rfl ?_
     refine goG rfl rfl ?_
     iterate 2 refine pE rfl ?_
     refine WO.nil ?_
     refine qv1 rfl rfl rfl
    ·
     intro g20
     refine goG rfl rfl ?_
     refine pE rfl ?_
     refine goG rfl rfl ?_
     refine pE rfl ?_
     refine goG rfl rfl ?_
     iterate 2 refine pE rfl ?_
     refine WO.nil ?_
     refine qv1 rfl rfl rfl
   ·
    intro g17
    iterate 3 refine skipT rfl rfl rfl rfl ?_
    iterate 2 refine skipU rfl rfl rfl ?_
    refine skipT rfl rfl rfl rfl ?_
    refine pE rfl ?_
    refine WO.nil ?_
    refine qv1 rfl rfl rfl
  refine qs ?_
  refine condK rfl (fun h24 => ?_) (fun h24 => ?_)
  ·
   have hq : esc2 (bys s) j = .no j 10 := by
    unfold esc2
    cases hv : hexV (hereB (bys s) j) with
    | none => rfl
    | some m =>
     rw [(hexR_some hv).1] at h24
     have : m = 1 ∨ 7 < m := by
      revert h24
      by_cases e0 : (m : Int) = 0
      · simp [e0]
      ·
       by_cases e1 : (m : Int) < 2
       · intro _; omega
       · simp [e0, e1]; intro _; omega
     simp only [if_pos this]
   rw [hq] at hg
   rw [outR_no hg, chR_no hg]
   refine W.seq (W.region ?_)
   iterate 4 refine pE rfl ?_
   first | refine pE rfl ?_ | refine pR rfl rfl rfl rfl rfl ?_ | refine pB rfl rfl rfl rfl rfl rfl ?_
   refine callB [0] [] rfl rfl rfl rfl rfl ((rfail_0 s j p 0 10 (j : Int) rfl)) rfl rfl (by rfl) (by rfl) rfl rfl rfl rfl ?_
   refine WO.nil (qs (W.seq (W.region ?_)))
   refine pE rfl ?_
   refine WO.nil (qs (W.ret (qsRet ?_)))
   refine QB1.end tab [] trivial rfl rfl rfl rfl ?_ ?_
   · first | exact ⟨rfl, trivial⟩ | (simp [rst, needP]; done)
   rfl
  ·
   obtain ⟨m, hv⟩ : ∃ m, hexV (hereB (bys s) j) = some m := by
    cases hv : hexV (hereB (bys s) j) with
    | some m => exact ⟨m, rfl⟩
    | none => rw [hexR_none hv] at h24; simp at h24
   obtain ⟨hm1, hm2⟩ := hexR_some hv
   have hmq : ¬ (m = 1 ∨ 7 < m) := by
    rw [hm1] at h24
    revert h24
    by_cases e0 : (m : Int) = 0
    · intro _; omega
    ·
     by_cases e1 : (m : Int) < 2
     · simp [e0, e1]; omega
     · simp [e0, e1]; intro _; omega
   have hq : esc2 (bys s) j = esc3 (bys s) m (j + 1) := by unfold esc2; rw [hv]; simp only [if_neg hmq]
   have hjs : j < s.size := by have := hexV_lt hv; rwa [bytes_len] at this
   rw [hq] at hg
   have hlo : hexR (hereB (bys s) (j + 1)) ≤ 15 ∧ -1 ≤ hexR (hereB (bys s) (j + 1)) := by
    cases hv2 : hexV (hereB (bys s) (j + 1)) with
    | none => rw [hexR_none hv2]; decide
    | some m2 => have := hexR_some hv2; omega
   refine W.skip (qs (W.seq (W.region ?_)))
   iterate 3 refine pE rfl ?_
   first | refine pE rfl ?_ | refine pR rfl rfl rfl rfl rfl ?_ | refine pB rfl rfl rfl rfl rfl rfl ?_
   refine pu (puI (ev tab rfl) (y := ((j + 1 : Nat) : Int)) (wrap64 (by omega))) rfl ?_
   iterate 2 refine pE rfl ?_
   refine storeR tab rfl rfl rfl rfl rfl rfl rfl rfl ?_
   refine WO.nil (qs (W.seq (W.region ?_)))
   refine pE rfl ?_
   refine callB [0] [] rfl rfl rfl rfl rfl ((rpeek_fn s (j + 1) p 0)) rfl rfl (by rfl) (by rfl) rfl rfl rfl rfl ?_
   refine pu (puCall rfl rfl rfl (rhex_fn (hereB (bys s) (j + 1))) rfl) rfl ?_
   refine pE rfl ?_
   refine WO.nil (qs ?_)
   iterate 2 refine W.seq ?_
   apply regionB; (case hb => rfl)
   ·
    iterate 3 refine pE rfl ?_
    apply splitH; (case hj => rfl); (case hl => rfl)
    ·
     intro g43
     iterate 7 refine skipT rfl rfl rfl rfl ?_
     refine pE rfl ?_
     refine WO.nil ?_
     refine qv1 rfl rfl rfl
    ·
     intro g43
     refine goG rfl rfl ?_
     refine pE rfl ?_
     refine goG rfl rfl ?_
     refine pu (puI (ev tab rfl) (y := 16 * (m : Int)) (by rw [hm1]; exact wrap64 (by omega))) rfl ?_
     refine goG rfl rfl ?_
     refine pE rfl ?_
     refine goG rfl rfl ?_
     refine pu (puI (ev tab rfl) (y := ((16 * m + (hexR (hereB (bys s) (j + 1))).toNat : Nat) : Int)) (by have := of_decide_eq_false g43; exact Eq.trans (wrap64 (by omega)) (by omega))) rfl ?_
     refine goG rfl rfl ?_
     refine pu (puI (ev tab rfl) (y := ((UInt8.ofNat (16 * m + (hexR (hereB (bys s) (j + 1))).toNat)).toNat : Int)) (Eq.trans (wrap_u8 (by omega)) (known8 (by omega)).symm)) rfl ?_
     refine goG rfl rfl ?_
     refine pu (puCall rfl rfl rfl (printable_fn (UInt8.ofNat (16 * m + (hexR (hereB (bys s) (j + 1))).toNat))) rfl) rfl ?_
     refine goG rfl rfl ?_
     iterate 2 refine pE rfl ?_
     refine WO.nil ?_
     refine qv1 rfl rfl rfl
   refine qs ?_
   refine condK rfl (fun h51 => ?_) (fun h51 => ?_)
   ·
    have hq2 : esc3 (bys s) m (j + 1) = .no (j + 1) 10 := by
     unfold esc3
     cases hv2 : hexV (hereB (bys s) (j + 1)) with
     | none => rfl
     | some m2 =>
      have hr := hexR_some hv2
      have e0 : ¬ ((m2 : Int) < 0) := by omega
      rw [hr.1] at h51
      have : known (UInt8.ofNat (16 * m + m2)) = false := by simpa [e0] using h51
      simp only [if_pos this]
    rw [hq2] at hg
    rw [outR_no hg, chR_no hg]
    refine W.seq (W.region ?_)
    iterate 4 refine pE rfl ?_
    first | refine pE rfl ?_ | refine pR rfl rfl rfl rfl rfl ?_ | refine pB rfl rfl rfl rfl rfl rfl ?_
    refine callB [0] [] rfl rfl rfl rfl rfl ((rfail_0 s (j + 1) p 0 10 ((j + 1 : Nat) : Int) rfl)) rfl rfl (by rfl) (by rfl) rfl rfl rfl rfl ?_
    refine WO.nil (qs (W.seq (W.region ?_)))
    refine pE rfl ?_
    refine WO.nil (qs (W.ret (qsRet ?_)))
    refine QB1.end tab [] trivial rfl rfl rfl rfl ?_ ?_
    · first | exact ⟨rfl, trivial⟩ | (simp [rst, needP]; done)
    rfl
   ·
    obtain ⟨m2, hv2⟩ : ∃ m2, hexV (hereB (bys s) (j + 1)) = some m2 := by
     cases hv2 : hexV (hereB (bys s) (j + 1)) with
     | some m2 => exact ⟨m2, rfl⟩
     | none => rw [hexR_none hv2] at h51; simp at h51
    have hr := hexR_some hv2
    have e0 : ¬ ((m2 : Int) < 0) := by omega
    have hkn : ¬ known (UInt8.ofNat (16 * m + m2)) = false := by
     rw [hr.1] at h51
     simpa [e0] using h51
    have hq2 : esc3 (bys s) m (j + 1) = .ok (UInt8.ofNat (16 * m + m2)) (j + 2) := by unfold esc3; rw [hv2]; simp only [if_neg hkn]
    have hjs2 : j + 1 < s.size := by have := hexV_lt hv2; rwa [bytes_len] at this
    rw [hq2] at hg
    rw [outR_ok hg, chR_ok hg]
    refine W.skip (qs (W.seq (W.region ?_)))
    iterate 3 refine pE rfl ?_
    first | refine pE rfl ?_ | refine pR rfl rfl rfl rfl rfl ?_ | refine pB rfl rfl rfl rfl rfl rfl ?_
    refine pu (puI (ev tab rfl) (y := ((j + 2 : Nat) : Int)) (Eq.trans (wrap64 (by omega)) (by omega))) rfl ?_
    iterate 2 refine pE rfl ?_
    refine storeR tab rfl rfl rfl rfl rfl rfl rfl rfl ?_
    refine WO.nil (qs (W.seq (W.region ?_)))
    refine pE rfl ?_
    refine pu (puI (ev tab rfl) (y := 16 * (m : Int)) (by rw [hm1]; exact wrap64 (by omega))) rfl ?_
    refine pE rfl ?_
    refine pu (puI (ev tab rfl) (y := ((16 * m + m2 : Nat) : Int)) (by rw [hr.1]; exact Eq.trans (wrap64 (by omega)) (by omega))) rfl ?_
    refine pu (puI (ev tab rfl) (y := ((UInt8.ofNat (16 * m + m2)).toNat : Int)) (Eq.trans (wrap_u8 (by omega)) (known8 (by omega)).symm)) rfl ?_
    refine pu (buildV tab rfl rfl rfl rfl rfl rfl rfl rfl rfl) rfl ?_
    refine pu (convB rfl (by kernel_rfl) (push_one _)) rfl ?_
    refine pE rfl ?_
    refine WO.nil (qs (W.ret ?_))
    refine QB1.end tab [] trivial rfl rfl rfl rfl ?_ ?_
    · first | exact ⟨rfl, trivial⟩ | (simp [rst, needP]; done)
    rfl
end Go.Proofs.YtllkpgnpioojjaaDoor
namespace Go.Proofs.YtllkpgnpioojjaaDoor
open Go.Ab Go.Tb
set_option maxRecDepth 10000
attribute [local irreducible] W WO Pu QS QB QL QF QV QV1 CH QE
theorem esc_u {l : List UInt8} {i : Nat} (h : ((hereB l i).toNat : Int) = 117) : escJ l i = codeJ l (i + 1) := by
 have e := u8_of (n := 117) (by decide) h
 have hlt : i < l.length := here_lt (by rw [e]; decide)
 have ht : takeJ l 117 i = .ok () (i + 1) := by unfold takeJ; rw [if_pos ⟨hlt, e⟩]
 rw [escJ_eq, e, if_neg (by decide), if_neg (by decide), if_neg (by decide)]
 unfold esc1 codeJ
 rw [show wordJ l [117, 48, 48] i = wordJ l [48, 48] (i + 1) by simp only [wordJ]; rw [ht]]
 cases wordJ l [48, 48] (i + 1) <;> rfl
theorem esc_no {l : List UInt8} {i : Nat} (h1 : ¬ ((hereB l i).toNat : Int) = 34) (h2 : ¬ ((hereB l i).toNat : Int) = 92) (h3 : ¬ ((hereB l i).toNat : Int) = 47) (h4 : ¬ ((hereB l i).toNat : Int) = 110) (h5 : ¬ ((hereB l i).toNat : Int) = 116) (h6 : ¬ ((hereB l i).toNat : Int) = 117) : escJ l i = .no i 10 := by
 rw [escJ_eq, if_neg (by rintro (e | e | e) <;> rw [e] at h1 h2 h3 <;> simp at h1 h2 h3), if_neg (by intro e; rw [e] at h4; simp at h4), if_neg (by intro e; rw [e] at h5; simp at h5)]
 unfold esc1
 have ht : takeJ l 117 i = .no i 10 := by
  unfold takeJ
  rw [if_neg]
  rintro ⟨_, e⟩
  rw [e] at h6
  simp at h6
 simp only [wordJ]
 rw [ht]
theorem rescape_fn (s : ByteArray) (i : Nat) (p : Int) (hi : i ≤ s.size) (hs : s.size ≤ 1000000000) : DoesB Tryd.prog 76 [.ptr 0 0] [rbox s i p 0] 0 (.d (.v (.string (chR (escJ (bys s) i))))) [rst s (outR (escJ (bys s) i) p)] 0 := by
 have hlt : hereB (bys s) i ≠ 0 → i < s.size := fun h => by have := here_lt h; rwa [bytes_len] at this
 refine DoesB.of_V tab (n := 56) (rs := [.tmp 2]) Tryd.func76 (by kernel_rfl) rfl Tryd.ntmps76 Tryd.results76 rfl rfl fun C hC hG => ?_
 refine W.seq (W.region ?_)
 refine pE rfl ?_
 refine WO.nil (qs (W.seq (W.region ?_)))
 refine pE rfl ?_
 refine callB [0] [] rfl rfl rfl rfl rfl ((rpeek_fn s i p 0)) rfl rfl (by rfl) (by rfl) rfl rfl rfl rfl ?_
 refine pE rfl ?_
 refine WO.nil (qs ?_)
 iterate 2 refine W.seq ?_
 refine W.region ?_
 refine pE rfl ?_
 refine WO.nil (qs (W.block ?_))
 iterate 2 refine W.seq ?_
 refine W.region ?_
 iterate 2 refine pE rfl ?_
 refine WO.nil (qs ?_)
 refine condK rfl (fun h7 => ?_) (fun h7 => ?_)
 ·
  have hg : escJ (bys s) i = .ok (hereB (bys s) i) (i + 1) := esc_same (by have := of_decide_eq_true h7; omega)
  have hl := hlt (by intro e; have := of_decide_eq_true h7; rw [e] at this; simp at this)
  rw [outR_ok hg, chR_ok hg]
  refine W.skip (qs ?_)
  refine W.condT rfl ?_
  refine W.seq (W.region ?_)
  iterate 3 refine pE rfl ?_
  first | refine pE rfl ?_ | refine pR rfl rfl rfl rfl rfl ?_ | refine pB rfl rfl rfl rfl rfl rfl ?_
  refine pu (puI (ev tab rfl) (y := ((i + 1 : Nat) : Int)) (wrap64 (by omega))) rfl ?_
  iterate 2 refine pE rfl ?_
  refine storeR tab rfl rfl rfl rfl rfl rfl rfl rfl ?_
  refine WO.nil (qs (W.seq (W.region ?_)))
  refine pE rfl ?_
  refine pu (buildV tab rfl rfl rfl rfl rfl rfl rfl rfl rfl) rfl ?_
  refine pu (convB rfl (by kernel_rfl) (push_one _)) rfl ?_
  refine pE rfl ?_
  refine WO.nil (qs (W.ret (qbRet (qsRet ?_))))
  refine QB1.end tab [] trivial rfl rfl rfl rfl ?_ ?_
  · exact ⟨rfl, trivial⟩
  rfl
 ·
  refine W.seq (W.region ?_)
  iterate 2 refine pE rfl ?_
  refine WO.nil (qs ?_)
  refine condK rfl (fun h7 => ?_) (fun h7 => ?_)
  ·
   have hg : escJ (bys s) i = .ok (hereB (bys s) i) (i + 1) := esc_same (by have := of_decide_eq_true h7; omega)
   have hl := hlt (by intro e; have := of_decide_eq_true h7; rw [e] at this; simp at this)
   rw [outR_ok hg, chR_ok hg]
   refine W.skip (qs ?_)
   refine W.condT rfl ?_
   refine W.seq (W.region ?_)
   iterate 3 refine pE rfl ?_
   first | refine pE rfl ?_ | refine pR rfl rfl rfl rfl rfl ?_ | refine pB rfl rfl rfl rfl rfl rfl ?_
   refine pu (puI (ev tab rfl) (y := ((i + 1 : Nat) : Int)) (wrap64 (by omega))) rfl ?_
   iterate 2 refine pE rfl ?_
   refine storeR tab rfl rfl rfl rfl rfl rfl rfl rfl ?_
   refine WO.nil (qs (W.seq (W.region ?_)))
   refine pE rfl ?_
   refine pu (buildV tab rfl rfl rfl rfl rfl rfl rfl rfl rfl) rfl ?_
   refine pu (convB rfl (by kernel_rfl) (push_one _)) rfl ?_
   refine pE rfl ?_
   refine WO.nil (qs (W.ret (qbRet (qsRet ?_))))
   refine QB1.end tab [] trivial rfl rfl rfl rfl ?_ ?_
   · exact ⟨rfl, trivial⟩
   rfl
  ·
   refine W.region ?_
   iterate 2 refine pE rfl ?_
   refine WO.nil (qs ?_)
   refine condK rfl (fun h7 => ?_) (fun h7 => ?_)
   ·
    have hg : escJ (bys s) i = .ok (hereB (bys s) i) (i + 1) := esc_same (by have := of_decide_eq_true h7; omega)
    have hl := hlt (by intro e; have := of_decide_eq_true h7; rw [e] at this; simp at this)
    rw [outR_ok hg, chR_ok hg]
    refine W.seq (W.region ?_)
    iterate 3 refine pE rfl ?_
    first | refine pE rfl ?_ | refine pR rfl rfl rfl rfl rfl ?_ | refine pB rfl rfl rfl rfl rfl rfl ?_
    refine pu (puI (ev tab rfl) (y := ((i + 1 : Nat) : Int)) (wrap64 (by omega))) rfl ?_
    iterate 2 refine pE rfl ?_
    refine storeR tab rfl rfl rfl rfl rfl rfl rfl rfl ?_
    refine WO.nil (qs (W.seq (W.region ?_)))
    refine pE rfl ?_
    refine pu (buildV tab rfl rfl rfl rfl rfl rfl rfl rfl rfl) rfl ?_
    refine pu (convB rfl (by kernel_rfl) (push_one _)) rfl ?_
    refine pE rfl ?_
    refine WO.nil (qs (W.ret (qbRet (qsRet ?_))))
    refine QB1.end tab [] trivial rfl rfl rfl rfl ?_ ?_
    · exact ⟨rfl, trivial⟩
    rfl
   ·
    refine W.seq (W.region ?_)
    iterate 2 refine pE rfl ?_
    refine WO.nil (qs ?_)
    refine condK rfl (fun h21 => ?_) (fun h21 => ?_)
    ·
     have hg : escJ (bys s) i = .ok 10 (i + 1) := esc_n (of_decide_eq_true h21)
     have hl := hlt (by intro e; have := of_decide_eq_true h21; rw [e] at this; simp at this)
     rw [outR_ok hg, chR_ok hg]
     refine W.seq (W.region ?_)
     iterate 3 refine pE rfl ?_
     first | refine pE rfl ?_ | refine pR rfl rfl rfl rfl rfl ?_ | refine pB rfl rfl rfl rfl rfl rfl ?_
     refine pu (puI (ev tab rfl) (y := ((i + 1 : Nat) : Int)) (wrap64 (by omega))) rfl ?_
     iterate 2 refine pE rfl ?_
     refine storeR tab rfl rfl rfl rfl rfl rfl rfl rfl ?_
     refine WO.nil (qs (W.seq (W.region ?_)))
     refine pE rfl ?_
     refine WO.nil (qs (W.ret (qbRet (qsRet ?_))))
     refine QB1.end tab [] trivial rfl rfl rfl rfl ?_ ?_
     · exact ⟨rfl, trivial⟩
     rfl
    ·
     refine W.seq (W.region ?_)
     iterate 2 refine pE rfl ?_
     refine WO.nil (qs ?_)
     refine condK rfl (fun h30 => ?_) (fun h30 => ?_)
     ·
      have hg : escJ (bys s) i = .ok 9 (i + 1) := esc_t (of_decide_eq_true h30)
      have hl := hlt (by intro e; have := of_decide_eq_true h30; rw [e] at this; simp at this)
      rw [outR_ok hg, chR_ok hg]
      refine W.seq (W.region ?_)
      iterate 3 refine pE rfl ?_
      first | refine pE rfl ?_ | refine pR rfl rfl rfl rfl rfl ?_ | refine pB rfl rfl rfl rfl rfl rfl ?_
      refine pu (puI (ev tab rfl) (y := ((i + 1 : Nat) : Int)) (wrap64 (by omega))) rfl ?_
      iterate 2 refine pE rfl ?_
      refine storeR tab rfl rfl rfl rfl rfl rfl rfl rfl ?_
      refine WO.nil (qs (W.seq (W.region ?_)))
      refine pE rfl ?_
      refine WO.nil (qs (W.ret (qbRet (qsRet ?_))))
      refine QB1.end tab [] trivial rfl rfl rfl rfl ?_ ?_
      · exact ⟨rfl, trivial⟩
      rfl
     ·
      refine W.seq (W.region ?_)
      iterate 2 refine pE rfl ?_
      refine WO.nil (qs ?_)
      refine condK rfl (fun h39 => ?_) (fun h39 => ?_)
      ·
       have hg : escJ (bys s) i = codeJ (bys s) (i + 1) := esc_u (of_decide_eq_true h39)
       have hl := hlt (by intro e; have := of_decide_eq_true h39; rw [e] at this; simp at this)
       rw [hg]
       refine W.seq (W.region ?_)
       iterate 3 refine pE rfl ?_
       first | refine pE rfl ?_ | refine pR rfl rfl rfl rfl rfl ?_ | refine pB rfl rfl rfl rfl rfl rfl ?_
       refine pu (puI (ev tab rfl) (y := ((i + 1 : Nat) : Int)) (wrap64 (by omega))) rfl ?_
       iterate 2 refine pE rfl ?_
       refine storeR tab rfl rfl rfl rfl rfl rfl rfl rfl ?_
       refine WO.nil (qs (W.seq (W.region ?_)))
       refine pE rfl ?_
       refine callB [0] [] rfl rfl rfl rfl rfl ((rcode_fn s (i + 1) p (by omega) hs)) rfl rfl (by rfl) (by rfl) rfl rfl rfl rfl ?_
       refine pE rfl ?_
       refine WO.nil (qs (W.ret (qbRet (qsRet ?_))))
       refine QB1.end tab [] trivial rfl rfl rfl rfl ?_ ?_
       · exact ⟨rfl, trivial⟩
       rfl
      ·
       have hg : escJ (bys s) i = .no i 10 := esc_no (by simp_all) (by simp_all) (by simp_all) (by simp_all) (by simp_all) (by simp_all)
       rw [outR_no hg, chR_no hg]
       refine W.skip (qbN (qs (W.seq (W.region ?_))))
       iterate 4 refine pE rfl ?_
       first | refine pE rfl ?_ | refine pR rfl rfl rfl rfl rfl ?_ | refine pB rfl rfl rfl rfl rfl rfl ?_
       refine callB [0] [] rfl rfl rfl rfl rfl ((rfail_0 s i p 0 10 (i : Int) rfl)) rfl rfl (by rfl) (by rfl) rfl rfl rfl rfl ?_
       refine WO.nil (qs (W.seq (W.region ?_)))
       refine pE rfl ?_
       refine WO.nil (qs (W.ret ?_))
       refine QB1.end tab [] trivial rfl rfl rfl rfl ?_ ?_
       · exact ⟨rfl, trivial⟩
       rfl
def strR : PE (List UInt8) → ByteArray
 | .ok t _ => bytesOf t
 | .no _ _ => B #[]
theorem strR_ok {x : PE (List UInt8)} {v : List UInt8} {j : Nat} (h : x = .ok v j) : strR x = bytesOf v := by rw [h]; rfl
theorem strR_no {x : PE (List UInt8)} {a : Nat} {w : Int} (h : x = .no a w) : strR x = B #[] := by rw [h]; rfl
theorem cat_one (acc : List UInt8) (c : UInt8) : bytesOf acc ++ B #[c] = bytesOf (acc ++ [c]) := bys_inj (by show bys _ = bys _; rw [bys_cat, bys_bytesOf, bys_bytesOf]; rfl)
def TxI (s : ByteArray) (p : Int) (X : PE (List UInt8)) (r : Nat × RS × ByteArray) : Prop := (r.2.1.2.2 = 0 → r.2.1.1 ≤ s.size ∧ r.1 = s.size + 1 - r.2.1.1 ∧ r.2.1.2.1 = p ∧ ∃ acc kk, r.2.2 = bytesOf acc ∧ acc.length ≤ r.2.1.1 ∧ (bys s).length + 1 ≤ kk + r.2.1.1 ∧ textGo (bys s) kk r.2.1.1 acc = X) ∧ (r.2.1.2.2 ≠ 0 → strR X = B #[] ∧ outR X p = r.2.1)
theorem rstring_fn (s : ByteArray) (i : Nat) (p : Int) (hi : i ≤ s.size) (hs : s.size ≤ 1000000000) : DoesB Tryd.prog 60 [.ptr 0 0] [rbox s i p 0] 0 (.d (.v (.string (strR (textJ (bys s) i))))) [rst s (outR (textJ (bys s) i) p)] 0 := by
 have hN := rneed_fn s (B #[34]) i p hi hs (by decide)
 have hN : DoesB Tryd.prog 75 [.ptr 0 0, .d (.v (.string (B #[34])))] [rbox s i p 0] 0 (.tup []) [rbox s (needP (wordJ (bys s) [34] i) p).1 (needP (wordJ (bys s) [34] i) p).2.1 (needP (wordJ (bys s) [34] i) p).2.2] 0 := hN
 have hw : wordJ (bys s) [34] i = takeJ (bys s) 34 i := by simp only [wordJ]; cases takeJ (bys s) 34 i <;> rfl
 rw [hw] at hN
 have hwb := takeJ_bd (l := bys s) (c := 34) (i := i) (by rw [bytes_len]; exact hi)
 have hwe := takeJ_e (l := bys s) (c := 34) (i := i)
 have hg : textJ (bys s) i = match takeJ (bys s) 34 i with | .no a w => .no a w | .ok _ j => textGo (bys s) ((bys s).length + 1 - j) j [] := rfl
 generalize takeJ (bys s) 34 i = X0 at hwb hwe hN hg
 have hgoal : ∀ (X : PE (List UInt8)), textJ (bys s) i = X → DoesB Tryd.prog 60 [.ptr 0 0] [rbox s i p 0] 0 (.d (.v (.string (strR X)))) [rst s (outR X p)] 0 := by
  intro X hX
  rw [hX] at hg
  refine DoesB.of_V tab (n := 64) (rs := [.tmp 2]) Tryd.func60 (by kernel_rfl) rfl Tryd.ntmps60 Tryd.results60 rfl rfl fun C hC hG => ?_
  refine W.seq (W.region ?_)
  refine pE rfl ?_
  refine WO.nil (qs (W.seq (W.region ?_)))
  refine pE rfl ?_
  refine WO.nil (qs (W.seq (W.region ?_)))
  refine pE rfl ?_
  refine callB [0] [] rfl rfl rfl rfl rfl (hN ..) rfl rfl (by rfl) (by rfl) rfl rfl rfl rfl ?_
  refine WO.nil (qs (W.seq (W.block ?_)))
  refine W.loopR (ι := {x : Nat × RS × ByteArray // match x with | (m, st, t) => TxI s p X (m, st, t) ∧ True})
   (fun x => match x.1 with | (m, st, t) => [(0, .ptr 0 0), (3, .d (.v (.string t)))]) []
   (fun x => match x.1 with | (m, st, t) => [(0, [.d (cs s), .d (.v (.int .i64 (st.1 : Int))), .d (.v (.int .i64 st.2.1)), .d (.v (.int .i64 st.2.2))])]) [] [] 1 (fun x => match x.1 with | (m, st, t) => m)
   [0] ⟨(s.size + 1 - (needP X0 p).1, needP X0 p, B #[]), ?_⟩ rfl ?_ trivial ?_ trivial rfl ?_
  ·
   cases X0 with
   | no a w =>
    have hg : X = .no a w := hg
    have hwe : w = 2 ∨ w = 4 ∨ w = 10 ∨ w = 20 := hwe
    refine ⟨⟨fun h => ?_, fun _ => ⟨strR_no hg, outR_no hg p⟩⟩, trivial⟩
    have h : w = 0 := h
    omega
   | ok u j =>
    have hg : X = textGo (bys s) ((bys s).length + 1 - j) j [] := hg
    have hj : j ≤ s.size := by have := hwb.2; rwa [bytes_len] at this
    refine ⟨⟨fun _ => ⟨hj, rfl, rfl, [], (bys s).length + 1 - j, rfl, Nat.zero_le _, by show _ ≤ _ - j + j; omega, hg.symm⟩, fun h => absurd rfl h⟩, trivial⟩
  · repeat' first | exact trivial | refine ⟨rfl, ?_⟩ | refine ⟨congrArg some (renL_boxE _ _ _), ?_⟩ | refine ⟨step_nat (by assumption) (by assumption), ?_⟩
  · repeat' first | exact trivial | refine ⟨rfl, ?_⟩ | refine ⟨congrArg some (renL_boxE _ _ _), ?_⟩ | refine ⟨step_nat (by assumption) (by assumption), ?_⟩
  rintro ⟨⟨m, st, t⟩, hI, hTr⟩
  show W _ _ _ _ _ ⟨[(0, .ptr 0 0), (3, .d (.v (.string t)))], [(0, [.d (cs s), .d (.v (.int .i64 (st.1 : Int))), .d (.v (.int .i64 st.2.1)), .d (.v (.int .i64 st.2.2))])], [], 1⟩
  iterate 2 refine W.seq ?_
  refine W.region ?_
  iterate 3 refine pE rfl ?_
  first | refine pE rfl ?_ | refine pR rfl rfl rfl rfl rfl ?_ | refine pB rfl rfl rfl rfl rfl rfl ?_
  refine pE rfl ?_
  refine WO.nil (qs ?_)
  refine condK rfl (fun h11 => ?_) (fun h11 => ?_)
  ·
   have he : st.2.2 = 0 := of_decide_eq_true h11
   obtain ⟨j, q, e⟩ := st
   have he : e = 0 := he
   subst he
   obtain ⟨hj, hm, hq, acc, kk, ht, hal, hkk, hT⟩ := hI.1 rfl
   have hj : j ≤ s.size := hj
   have hm : m = s.size + 1 - j := hm
   have hq : q = p := hq
   subst hq; subst hm; subst ht
   have hal : acc.length ≤ j := hal
   have hkk : (bys s).length + 1 ≤ kk + j := hkk
   have hT : textGo (bys s) kk j acc = X := hT
   obtain ⟨k', rfl⟩ : ∃ k', kk = k' + 1 := ⟨kk - 1, by rw [bytes_len] at hkk; omega⟩
   have hlt : hereB (bys s) j ≠ 0 → j < s.size := fun h => by have := here_lt h; rwa [bytes_len] at this
   have h2 : (bytesOf acc).size = acc.length := by show (acc.toArray).size = _; simp
   refine W.skip (qs (W.block (W.seq (W.region ?_))))
   refine pE rfl ?_
   refine callB [0] [] rfl rfl rfl rfl rfl ((rpeek_fn s j q 0)) rfl rfl (by rfl) (by rfl) rfl rfl rfl rfl ?_
   refine pE rfl ?_
   refine WO.nil (qs (W.block (W.seq (W.region ?_))))
   iterate 3 refine pE rfl ?_
   refine WO.nil (qs ?_)
   refine condK rfl (fun h20 => ?_) (fun h20 => ?_)
   ·
    have hx : X = .ok acc (j + 1) := by rw [← hT, text_end (u8_of (n := 34) (by decide) (of_decide_eq_true h20))]
    have hl := hlt (by intro e; have := of_decide_eq_true h20; rw [e] at this; simp at this)
    refine W.seq (W.region ?_)
    iterate 3 refine pE rfl ?_
    first | refine pE rfl ?_ | refine pR rfl rfl rfl rfl rfl ?_ | refine pB rfl rfl rfl rfl rfl rfl ?_
    refine pu (puI (ev tab rfl) (y := ((j + 1 : Nat) : Int)) (wrap64 (by omega))) rfl ?_
    iterate 2 refine pE rfl ?_
    refine storeR tab rfl rfl rfl rfl rfl rfl rfl rfl ?_
    refine WO.nil (qs (W.seq (W.region ?_)))
    iterate 2 refine pE rfl ?_
    refine WO.nil (qs (W.ret (qbRet (qbRet (qlRet (qbRet (qsRet ?_)))))))
    refine QB1.end tab [] trivial rfl rfl rfl rfl ?_ ?_
    ·
     rw [outR_ok hx]
     exact ⟨rfl, trivial⟩
    rw [strR_ok hx]
    rfl
   ·
    have q2 : hereB (bys s) j ≠ 34 := by intro e; rw [e] at h20; simp at h20
    refine W.seq (W.region ?_)
    iterate 3 refine pE rfl ?_
    refine WO.nil (qs ?_)
    refine condK rfl (fun h31 => ?_) (fun h31 => ?_)
    ·
     have h92 : hereB (bys s) j = 92 := u8_of (n := 92) (by decide) (of_decide_eq_true h31)
     rw [text_esc h92] at hT
     have hl := hlt (by rw [h92]; decide)
     have hbd := escJ_bd (l := bys s) (i := j + 1) (by rw [bytes_len]; omega)
     have hbe := escJ_e (l := bys s) (i := j + 1)
     have hch : (chR (escJ (bys s) (j + 1))).size ≤ 1 := by
      cases escJ (bys s) (j + 1) with
      | ok c i => exact Nat.le_refl 1
      | no a w => exact Nat.zero_le 1
     have hge : j + 1 ≤ (outR (escJ (bys s) (j + 1)) q).1 := by
      revert hbd
      cases escJ (bys s) (j + 1) with
      | ok c i => exact fun h => Nat.le_of_lt h.1
      | no a w => exact fun h => h.1
     have hend : TxI s q X (s.size + 1 - (outR (escJ (bys s) (j + 1)) q).1, outR (escJ (bys s) (j + 1)) q, bytesOf acc ++ chR (escJ (bys s) (j + 1))) := by
      revert hbd hbe hT
      cases escJ (bys s) (j + 1) with
      | ok c i =>
       intro hT hbd _
       have hT : textGo (bys s) k' i (acc ++ [c]) = X := hT
       have h1 : j + 1 < i := hbd.1
       have h3 : i ≤ s.size := by have := hbd.2; rwa [bytes_len] at this
       refine ⟨fun _ => ⟨h3, rfl, rfl, acc ++ [c], k', cat_one acc c, ?_, ?_, hT⟩, fun h => absurd rfl h⟩
       · show _ ≤ i; rw [List.length_append, List.length_singleton]; omega
       · show _ ≤ k' + i; omega
      | no a w =>
       intro hT _ hbe
       have hT : X = .no a w := hT.symm
       have hbe : w = 2 ∨ w = 4 ∨ w = 10 ∨ w = 20 := hbe
       refine ⟨fun h => ?_, fun _ => ⟨strR_no hT, outR_no hT q⟩⟩
       have h : w = 0 := h
       omega
     have hE := rescape_fn s (j + 1) q (by omega) hs
     generalize outR (escJ (bys s) (j + 1)) q = o at hE hge hend
     generalize chR (escJ (bys s) (j + 1)) = ch at hE hch hend
     refine W.seq (W.region ?_)
     iterate 3 refine pE rfl ?_
     first | refine pE rfl ?_ | refine pR rfl rfl rfl rfl rfl ?_ | refine pB rfl rfl rfl rfl rfl rfl ?_
     refine pu (puI (ev tab rfl) (y := ((j + 1 : Nat) : Int)) (wrap64 (by omega))) rfl ?_
     iterate 2 refine pE rfl ?_
     refine storeR tab rfl rfl rfl rfl rfl rfl rfl rfl ?_
     refine WO.nil (qs (W.region ?_))
     iterate 2 refine pE rfl ?_
     refine callB [0] [] rfl rfl rfl rfl rfl (hE ..) rfl rfl (by rfl) (by rfl) rfl rfl rfl rfl ?_
     refine pu (strAdd rfl rfl (by omega)) rfl ?_
     refine pE rfl ?_
     refine WO.nil (qbN (qbN ?_))
     first | (refine W.endR [0] ⟨(s.size + 1 - o.1, o, bytesOf acc ++ ch), ?_⟩ ?_ rfl ?_ trivial ?_ trivial rfl) | (refine W.endR [0] ⟨(s.size + 1 - j1, (j1, q, 0), bytesOf acc ++ B #[hereB (bys s) j]), ?_⟩ ?_ rfl ?_ trivial ?_ trivial rfl) | (refine W.endR [0] ⟨(0, (j, (j : Int), 10), bytesOf acc), ?_⟩ ?_ rfl ?_ trivial ?_ trivial rfl)
     · first | exact ⟨hend, trivial⟩ | exact ⟨⟨fun h => absurd (show (10 : Int) = 0 from h) (by decide), fun _ => ⟨strR_no hT.symm, outR_no hT.symm q⟩⟩, trivial⟩
     · dsimp only; omega
     · repeat' first | exact trivial | refine ⟨rfl, ?_⟩ | refine ⟨congrArg some (renL_boxE _ _ _), ?_⟩ | refine ⟨step_nat (by assumption) (by assumption), ?_⟩
     · repeat' first | exact trivial | refine ⟨rfl, ?_⟩ | refine ⟨congrArg some (renL_boxE _ _ _), ?_⟩ | refine ⟨step_nat (by assumption) (by assumption), ?_⟩
    ·
     have q3 : hereB (bys s) j ≠ 92 := by intro e; rw [e] at h31; simp at h31
     refine W.seq ?_
     apply regionB; (case hb => rfl)
     ·
      iterate 3 refine pE rfl ?_
      apply splitJ; (case hj => rfl); (case hl => rfl)
      ·
       refine goG rfl rfl ?_
       refine pE rfl ?_
       refine goG rfl rfl ?_
       iterate 3 refine pE rfl ?_
       refine WO.nil ?_
       refine qv1 rfl rfl rfl
      ·
       iterate 2 refine skipT rfl rfl rfl rfl ?_
       iterate 2 refine pE rfl ?_
       refine WO.nil ?_
       refine qv1 rfl rfl rfl
     refine qs ?_
     refine condK rfl (fun h45 => ?_) (fun h45 => ?_)
     ·
      have hr : 32 ≤ (hereB (bys s) j).toNat ∧ (hereB (bys s) j).toNat ≤ 126 := by revert h45; simp; omega
      rw [text_step (by omega) q2 q3] at hT
      have hl := hlt (by intro e; rw [e] at hr; revert hr; decide)
      obtain ⟨j1, hj1⟩ : ∃ j1, j1 = j + 1 := ⟨_, rfl⟩
      have hend : TxI s q X (s.size + 1 - j1, (j1, q, 0), bytesOf acc ++ B #[hereB (bys s) j]) := by
       subst hj1
       refine ⟨fun _ => ⟨hl, rfl, rfl, acc ++ [hereB (bys s) j], k', cat_one acc _, ?_, ?_, hT⟩, fun h => absurd rfl h⟩
       · show _ ≤ j + 1; rw [List.length_append, List.length_singleton]; omega
       · show _ ≤ k' + (j + 1); omega
      refine W.seq (W.region ?_)
      iterate 3 refine pE rfl ?_
      first | refine pE rfl ?_ | refine pR rfl rfl rfl rfl rfl ?_ | refine pB rfl rfl rfl rfl rfl rfl ?_
      refine pu (puI (ev tab rfl) (y := ((j1 : Nat) : Int)) (by rw [hj1]; exact wrap64 (by omega))) rfl ?_
      iterate 2 refine pE rfl ?_
      refine storeR tab rfl rfl rfl rfl rfl rfl rfl rfl ?_
      refine WO.nil (qs (W.region ?_))
      iterate 2 refine pE rfl ?_
      refine pu (buildV tab rfl rfl rfl rfl rfl rfl rfl rfl rfl) rfl ?_
      refine pu (convB rfl (by kernel_rfl) (push_one _)) rfl ?_
      refine pu (strAdd rfl rfl (by show (bytesOf acc).size + 1 ≤ _; omega)) rfl ?_
      refine pE rfl ?_
      refine WO.nil (qbN (qbN ?_))
      first | (refine W.endR [0] ⟨(s.size + 1 - o.1, o, bytesOf acc ++ ch), ?_⟩ ?_ rfl ?_ trivial ?_ trivial rfl) | (refine W.endR [0] ⟨(s.size + 1 - j1, (j1, q, 0), bytesOf acc ++ B #[hereB (bys s) j]), ?_⟩ ?_ rfl ?_ trivial ?_ trivial rfl) | (refine W.endR [0] ⟨(0, (j, (j : Int), 10), bytesOf acc), ?_⟩ ?_ rfl ?_ trivial ?_ trivial rfl)
      · first | exact ⟨hend, trivial⟩ | exact ⟨⟨fun h => absurd (show (10 : Int) = 0 from h) (by decide), fun _ => ⟨strR_no hT.symm, outR_no hT.symm q⟩⟩, trivial⟩
      · dsimp only; omega
      · repeat' first | exact trivial | refine ⟨rfl, ?_⟩ | refine ⟨congrArg some (renL_boxE _ _ _), ?_⟩ | refine ⟨step_nat (by assumption) (by assumption), ?_⟩
      · repeat' first | exact trivial | refine ⟨rfl, ?_⟩ | refine ⟨congrArg some (renL_boxE _ _ _), ?_⟩ | refine ⟨step_nat (by assumption) (by assumption), ?_⟩
     ·
      have hr : (hereB (bys s) j).toNat < 32 ∨ 126 < (hereB (bys s) j).toNat := by revert h45; simp; omega
      rw [text_no hr] at hT
      refine W.region ?_
      iterate 4 refine pE rfl ?_
      first | refine pE rfl ?_ | refine pR rfl rfl rfl rfl rfl ?_ | refine pB rfl rfl rfl rfl rfl rfl ?_
      refine callB [0] [] rfl rfl rfl rfl rfl ((rfail_0 s j q 0 10 (j : Int) rfl)) rfl rfl (by rfl) (by rfl) rfl rfl rfl rfl ?_
      refine WO.nil (qbN (qbN ?_))
      first | (refine W.endR [0] ⟨(s.size + 1 - o.1, o, bytesOf acc ++ ch), ?_⟩ ?_ rfl ?_ trivial ?_ trivial rfl) | (refine W.endR [0] ⟨(s.size + 1 - j1, (j1, q, 0), bytesOf acc ++ B #[hereB (bys s) j]), ?_⟩ ?_ rfl ?_ trivial ?_ trivial rfl) | (refine W.endR [0] ⟨(0, (j, (j : Int), 10), bytesOf acc), ?_⟩ ?_ rfl ?_ trivial ?_ trivial rfl)
      · first | exact ⟨hend, trivial⟩ | exact ⟨⟨fun h => absurd (show (10 : Int) = 0 from h) (by decide), fun _ => ⟨strR_no hT.symm, outR_no hT.symm q⟩⟩, trivial⟩
      · dsimp only; omega
      · repeat' first | exact trivial | refine ⟨rfl, ?_⟩ | refine ⟨congrArg some (renL_boxE _ _ _), ?_⟩ | refine ⟨step_nat (by assumption) (by assumption), ?_⟩
      · repeat' first | exact trivial | refine ⟨rfl, ?_⟩ | refine ⟨congrArg some (renL_boxE _ _ _), ?_⟩ | refine ⟨step_nat (by assumption) (by assumption), ?_⟩
  ·
   obtain ⟨hs1, hs2⟩ := hI.2 (of_decide_eq_false h11)
   refine W.exit (qsExit (qlExit (qbExit (qs (W.seq (W.region ?_))))))
   refine pE rfl ?_
   refine WO.nil (qs (W.ret ?_))
   refine QB1.end tab [] trivial rfl rfl rfl rfl ?_ ?_
   ·
    rw [hs2]
    exact ⟨rfl, trivial⟩
   rw [hs1]
   rfl
 exact hgoal _ rfl
end Go.Proofs.YtllkpgnpioojjaaDoor
namespace Go.Proofs.YtllkpgnpioojjaaDoor
open Go.Ab Go.Tb
set_option maxRecDepth 10000
attribute [local irreducible] W WO Pu QS QB QL QF QV QV1 CH QE
theorem rword_fn (s w : ByteArray) (v : JV) (i : Nat) (p : Int) (hi : i ≤ s.size) (hs : s.size ≤ 1000000000) (hw : ∀ b ∈ bys w, b ≠ 0) :
  DoesB Tryd.prog 59 [.ptr 0 0, .d (.v (.string w)), .ag v.c] [rbox s i p 0] 0 (.ag v.c) [rst s (outR (wordJ (bys s) (bys w) i) p)] 0 := by
 have hN := rneed_fn s w i p hi hs hw
 have hN : DoesB Tryd.prog 75 [.ptr 0 0, .d (.v (.string w))] [rbox s i p 0] 0 (.tup []) [rst s (outR (wordJ (bys s) (bys w) i) p)] 0 := by
  revert hN
  cases wordJ (bys s) (bys w) i <;> exact fun h => h
 generalize outR (wordJ (bys s) (bys w) i) p = o at hN ⊢
 refine DoesB.of_V tab (n := 11) (rs := [.cell 6 26]) Tryd.func59 (by kernel_rfl) rfl Tryd.ntmps59 Tryd.results59 rfl rfl fun C hC hG => ?_
 refine W.seq (W.region ?_)
 refine boxR rfl rfl rfl ?_
 refine allocR tab rfl rfl rfl ?_
 refine WO.nil (qs (W.seq (W.region ?_)))
 iterate 2 refine pE rfl ?_
 refine callB [0] [] rfl rfl rfl rfl rfl (hN ..) rfl rfl (by rfl) (by rfl) rfl rfl rfl rfl ?_
 refine WO.nil (qs (W.seq (W.region ?_)))
 first | refine pE rfl ?_ | refine pR rfl rfl rfl rfl rfl ?_ | refine pB rfl rfl rfl rfl rfl rfl ?_
 refine storeR tab rfl rfl rfl rfl rfl rfl rfl rfl ?_
 refine WO.nil (qs (W.ret ?_))
 refine QB1.end tab [] trivial rfl rfl rfl rfl ?_ ?_
 · exact ⟨rfl, trivial⟩
 rfl
def satD (n : Nat) (l : List UInt8) : Nat := l.foldl (fun n b => if n ≤ 1000000000000000 then 10 * n + (b.toNat - 48) else n) n
theorem satD_snoc (n : Nat) (l : List UInt8) (b : UInt8) : satD n (l ++ [b]) = if satD n l ≤ 1000000000000000 then 10 * satD n l + (b.toNat - 48) else satD n l := by unfold satD; rw [List.foldl_append]; rfl
def segL (l : List UInt8) (i j : Nat) : List UInt8 := (l.drop i).take (j - i)
theorem segL_snoc {l : List UInt8} {i j : Nat} (h : i ≤ j) (hj : j < l.length) : segL l i (j + 1) = segL l i j ++ [hereB l j] := by
 unfold segL
 rw [show j + 1 - i = (j - i) + 1 by omega, List.take_add_one, List.getElem?_drop, show i + (j - i) = j by omega]
 congr 1
 unfold hereB
 rw [List.getD_eq_getElem?_getD, List.getElem?_eq_getElem hj]; rfl
def rnumR (l : List UInt8) (i : Nat) (p : Int) : JV × RS :=
 let i1 := if hereB l i = 45 then i + 1 else i
 if isDig (hereB l i1) = false then (zeroJ, (i1, (i1 : Int), 10)) else
 let n := satD 0 (segL l i1 (digsJ l i1))
 (.mk 3 (if hereB l i = 45 then -(n : Int) else (n : Int)) (B #[]) [] [], if 1000000000000000 < n then (digsJ l i1, (i : Int), 2) else (digsJ l i1, p, 0))
theorem isDig_ge {b : UInt8} (h : isDig b = true) : 48 ≤ b.toNat ∧ b.toNat ≤ 57 := by unfold isDig at h; simpa using h
theorem digs_run {l : List UInt8} {i j : Nat} (hne : hereB l i ≠ 48) (hij : i ≤ j) (hd : ∀ q, i ≤ q → q < j → isDig (hereB l q) = true) (hn : isDig (hereB l j) = false) : digsJ l i = j := by
 unfold digsJ
 rw [if_neg hne]
 exact runD_only l _ i j hij hd hn (Nat.le_refl _)
set_option maxHeartbeats 1000000 in
theorem rnumber_fn (s : ByteArray) (i : Nat) (p : Int) (hi : i ≤ s.size) (hs : s.size ≤ 1000000000) : DoesB Tryd.prog 62 [.ptr 0 0] [rbox s i p 0] 0 (.ag (rnumR (bys s) i p).1.c) [rst s (rnumR (bys s) i p).2] 0 := by
 obtain ⟨i1, hi1⟩ : ∃ i1, i1 = if hereB (bys s) i = 45 then i + 1 else i := ⟨_, rfl⟩
 have hlt : ∀ j, hereB (bys s) j ≠ 0 → j < s.size := fun j h => by have := here_lt h; rwa [bytes_len] at this
 have hi1s : i1 ≤ s.size := by
  rw [hi1]
  split
  · rename_i q; exact hlt i (by rw [q]; decide)
  · exact hi
 have hg : rnumR (bys s) i p = if isDig (hereB (bys s) i1) = false then (zeroJ, (i1, (i1 : Int), 10)) else (.mk 3 (if hereB (bys s) i = 45 then -(satD 0 (segL (bys s) i1 (digsJ (bys s) i1)) : Int) else (satD 0 (segL (bys s) i1 (digsJ (bys s) i1)) : Int)) (B #[]) [] [], if 1000000000000000 < satD 0 (segL (bys s) i1 (digsJ (bys s) i1)) then (digsJ (bys s) i1, (i : Int), 2) else (digsJ (bys s) i1, p, 0)) := by
  rw [hi1]; rfl
 generalize rnumR (bys s) i p = Y at hg ⊢
 refine DoesB.of_V tab (n := 66) (rs := [.cell 2 26]) Tryd.func62 (by kernel_rfl) rfl Tryd.ntmps62 Tryd.results62 rfl rfl fun C hC hG => ?_
 refine W.seq (W.region ?_)
 refine allocR tab rfl rfl rfl ?_
 refine WO.nil (qs (W.seq (W.region ?_)))
 iterate 3 refine pE rfl ?_
 first | refine pE rfl ?_ | refine pR rfl rfl rfl rfl rfl ?_ | refine pB rfl rfl rfl rfl rfl rfl ?_
 refine pE rfl ?_
 refine WO.nil (qs (W.seq (W.region ?_)))
 refine pE rfl ?_
 refine callB [0] [] rfl rfl rfl rfl rfl ((rpeek_fn s i p 0)) rfl rfl (by rfl) (by rfl) rfl rfl rfl rfl ?_
 iterate 2 refine pE rfl ?_
 refine WO.nil (qs ?_)
 iterate 2 refine W.seq ?_
 refine W.region ?_
 refine pE rfl ?_
 refine WO.nil (qs ?_)
 refine W.cutS [(0, .ptr 0 0), (2, .ptr 1 0), (3, .d (.v (.int .i64 ((i : Nat) : Int)))), (4, .d (.v (.bool (decide (((hereB (bys s) i).toNat : Int) = 45)))))] [] [(0, [.d (cs s), .d (.v (.int .i64 (i1 : Int))), .d (.v (.int .i64 p)), .d (.v (.int .i64 0))])] [1] [] 2 ?_ ?_
 ·
  refine condK rfl (fun h14 => ?_) (fun h14 => ?_)
  ·
   have h45 : hereB (bys s) i = 45 := u8_of (n := 45) (by decide) (of_decide_eq_true h14)
   have e1 : i1 = i + 1 := by rw [hi1, if_pos h45]
   have hl := hlt i (by rw [h45]; decide)
   subst e1
   refine W.region ?_
   iterate 3 refine pE rfl ?_
   first | refine pE rfl ?_ | refine pR rfl rfl rfl rfl rfl ?_ | refine pB rfl rfl rfl rfl rfl rfl ?_
   refine pu (puI (ev tab rfl) (y := ((i + 1 : Nat) : Int)) (wrap64 (by omega))) rfl ?_
   iterate 2 refine pE rfl ?_
   refine storeR tab rfl rfl rfl rfl rfl rfl rfl rfl ?_
   refine WO.nil ?_
   refine cutEnd [0, 1] rfl ?_ trivial ?_ ⟨rfl, rfl, trivial⟩ rfl
   · repeat' first | exact trivial | refine ⟨rfl, ?_⟩ | refine ⟨congrArg some (renL_boxE _ _ _), ?_⟩ | refine ⟨step_nat (by assumption) (by assumption), ?_⟩
   · repeat' first | exact trivial | refine ⟨rfl, ?_⟩ | refine ⟨congrArg some (renL_boxE _ _ _), ?_⟩ | refine ⟨step_nat (by assumption) (by assumption), ?_⟩
  ·
   have h45 : ¬ hereB (bys s) i = 45 := by intro e; rw [e] at h14; simp at h14
   have e1 : i1 = i := by rw [hi1, if_neg h45]
   subst e1
   refine W.skip ?_
   refine cutEnd [0, 1] rfl ?_ trivial ?_ ⟨rfl, rfl, trivial⟩ rfl
   · repeat' first | exact trivial | refine ⟨rfl, ?_⟩ | refine ⟨congrArg some (renL_boxE _ _ _), ?_⟩ | refine ⟨step_nat (by assumption) (by assumption), ?_⟩
   · repeat' first | exact trivial | refine ⟨rfl, ?_⟩ | refine ⟨congrArg some (renL_boxE _ _ _), ?_⟩ | refine ⟨step_nat (by assumption) (by assumption), ?_⟩
 refine qs ?_
 iterate 2 refine W.seq ?_
 refine W.region ?_
 refine pE rfl ?_
 refine callB [0] [] rfl rfl rfl rfl rfl ((rpeek_fn s i1 p 0)) rfl rfl (by rfl) (by rfl) rfl rfl rfl rfl ?_
 refine pu (puCall rfl rfl rfl (rdigit_fn (hereB (bys s) i1)) rfl) rfl ?_
 refine pE rfl ?_
 refine WO.nil (qs ?_)
 refine condK rfl (fun h25 => ?_) (fun h25 => ?_)
 ·
  have hd : isDig (hereB (bys s) i1) = false := by simpa using h25
  rw [if_pos hd] at hg
  refine W.seq (W.region ?_)
  iterate 4 refine pE rfl ?_
  first | refine pE rfl ?_ | refine pR rfl rfl rfl rfl rfl ?_ | refine pB rfl rfl rfl rfl rfl rfl ?_
  refine callB [0] [] rfl rfl rfl rfl rfl ((rfail_0 s i1 p 0 10 (i1 : Int) rfl)) rfl rfl (by rfl) (by rfl) rfl rfl rfl rfl ?_
  refine WO.nil (qs (W.seq (W.region ?_)))
  refine pu (build tab rfl rfl rfl rfl) rfl ?_
  try refine nilS 32 rfl rfl rfl ?_
  refine storeR tab rfl rfl rfl rfl rfl rfl rfl rfl ?_
  refine WO.nil (qs ?_)
  try refine nilBox 1 3 rfl rfl rfl ?_
  try refine nilBox 1 4 rfl rfl rfl ?_
  refine W.ret (qsRet ?_)
  refine QB1.end tab [] trivial rfl rfl rfl rfl ?_ ?_
  ·
   rw [hg]
   exact ⟨rfl, trivial⟩
  rw [hg]
  rfl
 ·
  have hd : isDig (hereB (bys s) i1) = true := by simpa using h25
  rw [if_neg (by rw [hd]; decide)] at hg
  have hd1 : i1 < s.size := hlt i1 (by intro e; rw [e] at hd; exact absurd hd (by decide))
  refine W.skip (qs (W.seq (W.region ?_)))
  refine pE rfl ?_
  refine WO.nil (qs (W.seq (W.region ?_)))
  refine pE rfl ?_
  refine callB [0] [] rfl rfl rfl rfl rfl ((rpeek_fn s i1 p 0)) rfl rfl (by rfl) (by rfl) rfl rfl rfl rfl ?_
  refine pE rfl ?_
  refine WO.nil (qs (W.seq (W.block ?_)))
  refine W.loopR (ι := {x : Nat × Nat // match x with | (j, n) => i1 ≤ j ∧ j ≤ s.size ∧ n = satD 0 (segL (bys s) i1 j) ∧ n ≤ 10000000000000009 ∧ (∀ q, i1 ≤ q → q < j → isDig (hereB (bys s) q) = true) ∧ (i1 < j → hereB (bys s) i1 ≠ 48)})
   (fun x => match x.1 with | (j, n) => [(0, .ptr 0 0), (2, .ptr 1 0), (3, .d (.v (.int .i64 ((i : Nat) : Int)))), (4, .d (.v (.bool (decide (((hereB (bys s) i).toNat : Int) = 45))))), (5, .d (.v (.int .i64 ((n : Nat) : Int)))), (6, .d (.v (.int .u8 (hereB (bys s) i1).toNat)))]) []
   (fun x => match x.1 with | (j, n) => [(0, [.d (cs s), .d (.v (.int .i64 (j : Int))), .d (.v (.int .i64 p)), .d (.v (.int .i64 0))])]) [(1, _)] [] 2 (fun x => match x.1 with | (j, n) => s.size - j)
   [0, 1] ⟨(i1, 0), ?_⟩ rfl ?_ trivial ?_ ⟨rfl, rfl, trivial⟩ rfl ?_
  · exact ⟨Nat.le_refl _, hi1s, by unfold segL; rw [Nat.sub_self, List.take_zero]; rfl, Nat.zero_le _, fun q h1 h2 => by omega, fun h => by omega⟩
  · repeat' first | exact trivial | refine ⟨rfl, ?_⟩ | refine ⟨congrArg some (renL_boxE _ _ _), ?_⟩ | refine ⟨step_nat (by assumption) (by assumption), ?_⟩
  · repeat' first | exact trivial | refine ⟨rfl, ?_⟩ | refine ⟨congrArg some (renL_boxE _ _ _), ?_⟩ | refine ⟨step_nat (by assumption) (by assumption), ?_⟩
  rintro ⟨⟨j, n⟩, hij, hjs, hn, hnb, hdg, hne⟩
  show W _ _ _ _ _ ⟨[(0, .ptr 0 0), (2, .ptr 1 0), (3, .d (.v (.int .i64 ((i : Nat) : Int)))), (4, .d (.v (.bool (decide (((hereB (bys s) i).toNat : Int) = 45))))), (5, .d (.v (.int .i64 ((n : Nat) : Int)))), (6, .d (.v (.int .u8 (hereB (bys s) i1).toNat)))], [(0, [.d (cs s), .d (.v (.int .i64 (j : Int))), .d (.v (.int .i64 p)), .d (.v (.int .i64 0))]), (1, _)], [], 2⟩
  iterate 2 refine W.seq ?_
  refine W.region ?_
  refine pE rfl ?_
  refine callB [0] [] rfl rfl rfl rfl rfl ((rpeek_fn s j p 0)) rfl rfl (by rfl) (by rfl) rfl rfl rfl rfl ?_
  refine pu (puCall rfl rfl rfl (rdigit_fn (hereB (bys s) j)) rfl) rfl ?_
  refine WO.nil (qs ?_)
  refine condK rfl (fun h37 => ?_) (fun h37 => ?_)
  ·
   have hdj : isDig (hereB (bys s) j) = true := h37
   have hj1 : j < s.size := hlt j (by intro e; rw [e] at hdj; exact absurd hdj (by decide))
   have hge := isDig_ge hdj
   have hsn := satD_snoc 0 (segL (bys s) i1 j) (hereB (bys s) j)
   rw [← segL_snoc hij (by rw [bytes_len]; exact hj1), ← hn] at hsn
   have hdg2 : ∀ q, i1 ≤ q → q < j + 1 → isDig (hereB (bys s) q) = true := fun q h1 h2 => by
    rcases Nat.lt_succ_iff_lt_or_eq.1 h2 with h | h
    · exact hdg q h1 h
    · rw [h]; exact hdj
   refine W.skip (qs (W.block ?_))
   iterate 2 refine W.seq ?_
   refine W.region ?_
   iterate 2 refine pE rfl ?_
   refine WO.nil (qs ?_)
   refine condK rfl (fun h39 => ?_) (fun h39 => ?_)
   ·
    have hle : n ≤ 1000000000000000 := by simp at h39; omega
    rw [if_pos hle] at hsn
    obtain ⟨n2, hn2⟩ : ∃ n2, n2 = 10 * n + ((hereB (bys s) j).toNat - 48) := ⟨_, rfl⟩
    rw [← hn2] at hsn
    have hn2b : n2 ≤ 10000000000000009 := by omega
    refine W.region ?_
    refine pE rfl ?_
    refine pu (puI (ev tab rfl) (y := ((10 * n : Nat) : Int)) (by exact Eq.trans (wrap64 (by omega)) (by omega))) rfl ?_
    refine pE rfl ?_
    refine callB [0] [] rfl rfl rfl rfl rfl ((rpeek_fn s j p 0)) rfl rfl (by rfl) (by rfl) rfl rfl rfl rfl ?_
    refine pu (puI (ev tab rfl) (y := (((hereB (bys s) j).toNat - 48 : Nat) : Int)) (Eq.trans (wrap_u8 (by omega)) (by omega))) rfl ?_
    refine pu (puI (ev tab rfl) (y := (((hereB (bys s) j).toNat - 48 : Nat) : Int)) (wrap64 (by omega))) rfl ?_
    refine pu (puI (ev tab rfl) (y := ((n2 : Nat) : Int)) (Eq.trans (wrap64 (by omega)) (by omega))) rfl ?_
    refine pE rfl ?_
    refine WO.nil (qs (W.seq (W.region ?_)))
    iterate 3 refine pE rfl ?_
    first | refine pE rfl ?_ | refine pR rfl rfl rfl rfl rfl ?_ | refine pB rfl rfl rfl rfl rfl rfl ?_
    refine pu (puI (ev tab rfl) (y := ((j + 1 : Nat) : Int)) (wrap64 (by omega))) rfl ?_
    iterate 2 refine pE rfl ?_
    refine storeR tab rfl rfl rfl rfl rfl rfl rfl rfl ?_
    refine WO.nil (qs (W.seq (W.region ?_)))
    iterate 2 refine pE rfl ?_
    refine WO.nil (qs ?_)
    refine condK rfl (fun h55 => ?_) (fun h55 => ?_)
    ·
     have hz : hereB (bys s) i1 = 48 := u8_of (n := 48) (by decide) (of_decide_eq_true h55)
     have hij0 : i1 = j := by
      rcases Nat.eq_or_lt_of_le hij with e | e
      · exact e
      · exact absurd hz (hne e)
     have hdig : digsJ (bys s) i1 = j + 1 := by unfold digsJ; rw [if_pos hz, hij0]
     rw [hdig, hsn] at hg
     refine W.exit ?_
     refine qbExit' rfl ?_
     refine qlExit (qbExit (qs ?_))
     iterate 2 refine W.seq ?_
     refine W.region ?_
     iterate 2 refine pE rfl ?_
     refine WO.nil (qs ?_)
     refine condK rfl (fun h57 => ?_) (fun h57 => ?_)
     ·
      have hbig := of_decide_eq_true h57
      first | rw [if_pos (show 1000000000000000 < n2 by omega)] at hg | rw [if_pos (show 1000000000000000 < n by omega)] at hg
      refine W.region ?_
      iterate 2 refine pE rfl ?_
      refine callB [0] [] rfl rfl rfl rfl rfl ((rfail_0 s _ p 0 2 (i : Int) rfl)) rfl rfl (by rfl) (by rfl) rfl rfl rfl rfl ?_
      refine WO.nil (qs ?_)
      iterate 2 refine W.seq ?_
      refine W.region ?_
      refine pE rfl ?_
      refine WO.nil (qs ?_)
      refine condK rfl (fun h61 => ?_) (fun h61 => ?_)
      ·
       have h45 : hereB (bys s) i = 45 := u8_of (n := 45) (by decide) (of_decide_eq_true h61)
       rw [if_pos h45] at hg
       refine W.region ?_
       refine pE rfl ?_
       first | refine pu (puI (ev tab rfl) (y := -((n2 : Nat) : Int)) (by show IntKind.i64.wrap (0 - ((n2 : Nat) : Int)) = _; rw [Int.zero_sub]; exact wrap64 (by omega))) rfl ?_ | refine pu (puI (ev tab rfl) (y := -((n : Nat) : Int)) (by show IntKind.i64.wrap (0 - ((n : Nat) : Int)) = _; rw [Int.zero_sub]; exact wrap64 (by omega))) rfl ?_
       refine pE rfl ?_
       refine WO.nil (qs (W.seq (W.region ?_)))
       refine pE rfl ?_
       refine pu (build tab rfl rfl rfl rfl) rfl ?_
       try refine nilS 65 rfl rfl rfl ?_
       refine storeR tab rfl rfl rfl rfl rfl rfl rfl rfl ?_
       refine WO.nil (qs ?_)
       try refine nilBox 1 3 rfl rfl rfl ?_
       try refine nilBox 1 4 rfl rfl rfl ?_
       refine W.ret ?_
       refine QB1.end tab [] trivial rfl rfl rfl rfl ?_ ?_
       ·
        rw [hg]
        exact ⟨rfl, trivial⟩
       rw [hg]
       rfl
      ·
       have h45 : ¬ hereB (bys s) i = 45 := by intro e; rw [e] at h61; simp at h61
       rw [if_neg h45] at hg
       refine W.skip (qs (W.seq (W.region ?_)))
       refine pE rfl ?_
       refine pu (build tab rfl rfl rfl rfl) rfl ?_
       try refine nilS 65 rfl rfl rfl ?_
       refine storeR tab rfl rfl rfl rfl rfl rfl rfl rfl ?_
       refine WO.nil (qs ?_)
       try refine nilBox 1 3 rfl rfl rfl ?_
       try refine nilBox 1 4 rfl rfl rfl ?_
       refine W.ret ?_
       refine QB1.end tab [] trivial rfl rfl rfl rfl ?_ ?_
       ·
        rw [hg]
        exact ⟨rfl, trivial⟩
       rw [hg]
       rfl
     ·
      have hbig := of_decide_eq_false h57
      first | rw [if_neg (show ¬ 1000000000000000 < n2 by omega)] at hg | rw [if_neg (show ¬ 1000000000000000 < n by omega)] at hg
      refine W.skip (qs ?_)
      iterate 2 refine W.seq ?_
      refine W.region ?_
      refine pE rfl ?_
      refine WO.nil (qs ?_)
      refine condK rfl (fun h61 => ?_) (fun h61 => ?_)
      ·
       have h45 : hereB (bys s) i = 45 := u8_of (n := 45) (by decide) (of_decide_eq_true h61)
       rw [if_pos h45] at hg
       refine W.region ?_
       refine pE rfl ?_
       first | refine pu (puI (ev tab rfl) (y := -((n2 : Nat) : Int)) (by show IntKind.i64.wrap (0 - ((n2 : Nat) : Int)) = _; rw [Int.zero_sub]; exact wrap64 (by omega))) rfl ?_ | refine pu (puI (ev tab rfl) (y := -((n : Nat) : Int)) (by show IntKind.i64.wrap (0 - ((n : Nat) : Int)) = _; rw [Int.zero_sub]; exact wrap64 (by omega))) rfl ?_
       refine pE rfl ?_
       refine WO.nil (qs (W.seq (W.region ?_)))
       refine pE rfl ?_
       refine pu (build tab rfl rfl rfl rfl) rfl ?_
       try refine nilS 65 rfl rfl rfl ?_
       refine storeR tab rfl rfl rfl rfl rfl rfl rfl rfl ?_
       refine WO.nil (qs ?_)
       try refine nilBox 1 3 rfl rfl rfl ?_
       try refine nilBox 1 4 rfl rfl rfl ?_
       refine W.ret ?_
       refine QB1.end tab [] trivial rfl rfl rfl rfl ?_ ?_
       ·
        rw [hg]
        exact ⟨rfl, trivial⟩
       rw [hg]
       rfl
      ·
       have h45 : ¬ hereB (bys s) i = 45 := by intro e; rw [e] at h61; simp at h61
       rw [if_neg h45] at hg
       refine W.skip (qs (W.seq (W.region ?_)))
       refine pE rfl ?_
       refine pu (build tab rfl rfl rfl rfl) rfl ?_
       try refine nilS 65 rfl rfl rfl ?_
       refine storeR tab rfl rfl rfl rfl rfl rfl rfl rfl ?_
       refine WO.nil (qs ?_)
       try refine nilBox 1 3 rfl rfl rfl ?_
       try refine nilBox 1 4 rfl rfl rfl ?_
       refine W.ret ?_
       refine QB1.end tab [] trivial rfl rfl rfl rfl ?_ ?_
       ·
        rw [hg]
        exact ⟨rfl, trivial⟩
       rw [hg]
       rfl
    ·
     have hz : hereB (bys s) i1 ≠ 48 := by intro e; rw [e] at h55; simp at h55
     refine W.skip (qbN ?_)
     first | (refine W.endR [0, 1] ⟨(j + 1, n2), ?_⟩ ?_ rfl ?_ trivial ?_ ⟨rfl, rfl, trivial⟩ rfl) | (refine W.endR [0, 1] ⟨(j + 1, n), ?_⟩ ?_ rfl ?_ trivial ?_ ⟨rfl, rfl, trivial⟩ rfl)
     · exact ⟨by omega, hj1, hsn.symm, by omega, hdg2, fun _ => hz⟩
     · dsimp only; omega
     · repeat' first | exact trivial | refine ⟨rfl, ?_⟩ | refine ⟨congrArg some (renL_boxE _ _ _), ?_⟩ | refine ⟨step_nat (by assumption) (by assumption), ?_⟩
     · repeat' first | exact trivial | refine ⟨rfl, ?_⟩ | refine ⟨congrArg some (renL_boxE _ _ _), ?_⟩ | refine ⟨step_nat (by assumption) (by assumption), ?_⟩
   ·
    have hle : ¬ n ≤ 1000000000000000 := by simp at h39; omega
    rw [if_neg hle] at hsn
    refine W.skip (qs (W.seq (W.region ?_)))
    iterate 3 refine pE rfl ?_
    first | refine pE rfl ?_ | refine pR rfl rfl rfl rfl rfl ?_ | refine pB rfl rfl rfl rfl rfl rfl ?_
    refine pu (puI (ev tab rfl) (y := ((j + 1 : Nat) : Int)) (wrap64 (by omega))) rfl ?_
    iterate 2 refine pE rfl ?_
    refine storeR tab rfl rfl rfl rfl rfl rfl rfl rfl ?_
    refine WO.nil (qs (W.seq (W.region ?_)))
    iterate 2 refine pE rfl ?_
    refine WO.nil (qs ?_)
    refine condK rfl (fun h55 => ?_) (fun h55 => ?_)
    ·
     have hz : hereB (bys s) i1 = 48 := u8_of (n := 48) (by decide) (of_decide_eq_true h55)
     have hij0 : i1 = j := by
      rcases Nat.eq_or_lt_of_le hij with e | e
      · exact e
      · exact absurd hz (hne e)
     have hdig : digsJ (bys s) i1 = j + 1 := by unfold digsJ; rw [if_pos hz, hij0]
     rw [hdig, hsn] at hg
     refine W.exit ?_
     refine qbExit' rfl ?_
     refine qlExit (qbExit (qs ?_))
     iterate 2 refine W.seq ?_
     refine W.region ?_
     iterate 2 refine pE rfl ?_
     refine WO.nil (qs ?_)
     refine condK rfl (fun h57 => ?_) (fun h57 => ?_)
     ·
      have hbig := of_decide_eq_true h57
      first | rw [if_pos (show 1000000000000000 < n2 by omega)] at hg | rw [if_pos (show 1000000000000000 < n by omega)] at hg
      refine W.region ?_
      iterate 2 refine pE rfl ?_
      refine callB [0] [] rfl rfl rfl rfl rfl ((rfail_0 s _ p 0 2 (i : Int) rfl)) rfl rfl (by rfl) (by rfl) rfl rfl rfl rfl ?_
      refine WO.nil (qs ?_)
      iterate 2 refine W.seq ?_
      refine W.region ?_
      refine pE rfl ?_
      refine WO.nil (qs ?_)
      refine condK rfl (fun h61 => ?_) (fun h61 => ?_)
      ·
       have h45 : hereB (bys s) i = 45 := u8_of (n := 45) (by decide) (of_decide_eq_true h61)
       rw [if_pos h45] at hg
       refine W.region ?_
       refine pE rfl ?_
       first | refine pu (puI (ev tab rfl) (y := -((n2 : Nat) : Int)) (by show IntKind.i64.wrap (0 - ((n2 : Nat) : Int)) = _; rw [Int.zero_sub]; exact wrap64 (by omega))) rfl ?_ | refine pu (puI (ev tab rfl) (y := -((n : Nat) : Int)) (by show IntKind.i64.wrap (0 - ((n : Nat) : Int)) = _; rw [Int.zero_sub]; exact wrap64 (by omega))) rfl ?_
       refine pE rfl ?_
       refine WO.nil (qs (W.seq (W.region ?_)))
       refine pE rfl ?_
       refine pu (build tab rfl rfl rfl rfl) rfl ?_
       try refine nilS 65 rfl rfl rfl ?_
       refine storeR tab rfl rfl rfl rfl rfl rfl rfl rfl ?_
       refine WO.nil (qs ?_)
       try refine nilBox 1 3 rfl rfl rfl ?_
       try refine nilBox 1 4 rfl rfl rfl ?_
       refine W.ret ?_
       refine QB1.end tab [] trivial rfl rfl rfl rfl ?_ ?_
       ·
        rw [hg]
        exact ⟨rfl, trivial⟩
       rw [hg]
       rfl
      ·
       have h45 : ¬ hereB (bys s) i = 45 := by intro e; rw [e] at h61; simp at h61
       rw [if_neg h45] at hg
       refine W.skip (qs (W.seq (W.region ?_)))
       refine pE rfl ?_
       refine pu (build tab rfl rfl rfl rfl) rfl ?_
       try refine nilS 65 rfl rfl rfl ?_
       refine storeR tab rfl rfl rfl rfl rfl rfl rfl rfl ?_
       refine WO.nil (qs ?_)
       try refine nilBox 1 3 rfl rfl rfl ?_
       try refine nilBox 1 4 rfl rfl rfl ?_
       refine W.ret ?_
       refine QB1.end tab [] trivial rfl rfl rfl rfl ?_ ?_
       ·
        rw [hg]
        exact ⟨rfl, trivial⟩
       rw [hg]
       rfl
     ·
      have hbig := of_decide_eq_false h57
      first | rw [if_neg (show ¬ 1000000000000000 < n2 by omega)] at hg | rw [if_neg (show ¬ 1000000000000000 < n by omega)] at hg
      refine W.skip (qs ?_)
      iterate 2 refine W.seq ?_
      refine W.region ?_
      refine pE rfl ?_
      refine WO.nil (qs ?_)
      refine condK rfl (fun h61 => ?_) (fun h61 => ?_)
      ·
       have h45 : hereB (bys s) i = 45 := u8_of (n := 45) (by decide) (of_decide_eq_true h61)
       rw [if_pos h45] at hg
       refine W.region ?_
       refine pE rfl ?_
       first | refine pu (puI (ev tab rfl) (y := -((n2 : Nat) : Int)) (by show IntKind.i64.wrap (0 - ((n2 : Nat) : Int)) = _; rw [Int.zero_sub]; exact wrap64 (by omega))) rfl ?_ | refine pu (puI (ev tab rfl) (y := -((n : Nat) : Int)) (by show IntKind.i64.wrap (0 - ((n : Nat) : Int)) = _; rw [Int.zero_sub]; exact wrap64 (by omega))) rfl ?_
       refine pE rfl ?_
       refine WO.nil (qs (W.seq (W.region ?_)))
       refine pE rfl ?_
       refine pu (build tab rfl rfl rfl rfl) rfl ?_
       try refine nilS 65 rfl rfl rfl ?_
       refine storeR tab rfl rfl rfl rfl rfl rfl rfl rfl ?_
       refine WO.nil (qs ?_)
       try refine nilBox 1 3 rfl rfl rfl ?_
       try refine nilBox 1 4 rfl rfl rfl ?_
       refine W.ret ?_
       refine QB1.end tab [] trivial rfl rfl rfl rfl ?_ ?_
       ·
        rw [hg]
        exact ⟨rfl, trivial⟩
       rw [hg]
       rfl
      ·
       have h45 : ¬ hereB (bys s) i = 45 := by intro e; rw [e] at h61; simp at h61
       rw [if_neg h45] at hg
       refine W.skip (qs (W.seq (W.region ?_)))
       refine pE rfl ?_
       refine pu (build tab rfl rfl rfl rfl) rfl ?_
       try refine nilS 65 rfl rfl rfl ?_
       refine storeR tab rfl rfl rfl rfl rfl rfl rfl rfl ?_
       refine WO.nil (qs ?_)
       try refine nilBox 1 3 rfl rfl rfl ?_
       try refine nilBox 1 4 rfl rfl rfl ?_
       refine W.ret ?_
       refine QB1.end tab [] trivial rfl rfl rfl rfl ?_ ?_
       ·
        rw [hg]
        exact ⟨rfl, trivial⟩
       rw [hg]
       rfl
    ·
     have hz : hereB (bys s) i1 ≠ 48 := by intro e; rw [e] at h55; simp at h55
     refine W.skip (qbN ?_)
     first | (refine W.endR [0, 1] ⟨(j + 1, n2), ?_⟩ ?_ rfl ?_ trivial ?_ ⟨rfl, rfl, trivial⟩ rfl) | (refine W.endR [0, 1] ⟨(j + 1, n), ?_⟩ ?_ rfl ?_ trivial ?_ ⟨rfl, rfl, trivial⟩ rfl)
     · exact ⟨by omega, hj1, hsn.symm, by omega, hdg2, fun _ => hz⟩
     · dsimp only; omega
     · repeat' first | exact trivial | refine ⟨rfl, ?_⟩ | refine ⟨congrArg some (renL_boxE _ _ _), ?_⟩ | refine ⟨step_nat (by assumption) (by assumption), ?_⟩
     · repeat' first | exact trivial | refine ⟨rfl, ?_⟩ | refine ⟨congrArg some (renL_boxE _ _ _), ?_⟩ | refine ⟨step_nat (by assumption) (by assumption), ?_⟩
  ·
   have hdj : isDig (hereB (bys s) j) = false := h37
   have hij2 : i1 < j := by
    rcases Nat.eq_or_lt_of_le hij with e | e
    · subst e; rw [hd] at hdj; cases hdj
    · exact e
   have hdig : digsJ (bys s) i1 = j := digs_run (hne hij2) hij hdg hdj
   rw [hdig, ← hn] at hg
   refine W.exit (qsExit (qlExit (qbExit (qs ?_))))
   iterate 2 refine W.seq ?_
   refine W.region ?_
   iterate 2 refine pE rfl ?_
   refine WO.nil (qs ?_)
   refine condK rfl (fun h57 => ?_) (fun h57 => ?_)
   ·
    have hbig := of_decide_eq_true h57
    first | rw [if_pos (show 1000000000000000 < n2 by omega)] at hg | rw [if_pos (show 1000000000000000 < n by omega)] at hg
    refine W.region ?_
    iterate 2 refine pE rfl ?_
    refine callB [0] [] rfl rfl rfl rfl rfl ((rfail_0 s _ p 0 2 (i : Int) rfl)) rfl rfl (by rfl) (by rfl) rfl rfl rfl rfl ?_
    refine WO.nil (qs ?_)
    iterate 2 refine W.seq ?_
    refine W.region ?_
    refine pE rfl ?_
    refine WO.nil (qs ?_)
    refine condK rfl (fun h61 => ?_) (fun h61 => ?_)
    ·
     have h45 : hereB (bys s) i = 45 := u8_of (n := 45) (by decide) (of_decide_eq_true h61)
     rw [if_pos h45] at hg
     refine W.region ?_
     refine pE rfl ?_
     first | refine pu (puI (ev tab rfl) (y := -((n2 : Nat) : Int)) (by show IntKind.i64.wrap (0 - ((n2 : Nat) : Int)) = _; rw [Int.zero_sub]; exact wrap64 (by omega))) rfl ?_ | refine pu (puI (ev tab rfl) (y := -((n : Nat) : Int)) (by show IntKind.i64.wrap (0 - ((n : Nat) : Int)) = _; rw [Int.zero_sub]; exact wrap64 (by omega))) rfl ?_
     refine pE rfl ?_
     refine WO.nil (qs (W.seq (W.region ?_)))
     refine pE rfl ?_
     refine pu (build tab rfl rfl rfl rfl) rfl ?_
     try refine nilS 65 rfl rfl rfl ?_
     refine storeR tab rfl rfl rfl rfl rfl rfl rfl rfl ?_
     refine WO.nil (qs ?_)
     try refine nilBox 1 3 rfl rfl rfl ?_
     try refine nilBox 1 4 rfl rfl rfl ?_
     refine W.ret ?_
     refine QB1.end tab [] trivial rfl rfl rfl rfl ?_ ?_
     ·
      rw [hg]
      exact ⟨rfl, trivial⟩
     rw [hg]
     rfl
    ·
     have h45 : ¬ hereB (bys s) i = 45 := by intro e; rw [e] at h61; simp at h61
     rw [if_neg h45] at hg
     refine W.skip (qs (W.seq (W.region ?_)))
     refine pE rfl ?_
     refine pu (build tab rfl rfl rfl rfl) rfl ?_
     try refine nilS 65 rfl rfl rfl ?_
     refine storeR tab rfl rfl rfl rfl rfl rfl rfl rfl ?_
     refine WO.nil (qs ?_)
     try refine nilBox 1 3 rfl rfl rfl ?_
     try refine nilBox 1 4 rfl rfl rfl ?_
     refine W.ret ?_
     refine QB1.end tab [] trivial rfl rfl rfl rfl ?_ ?_
     ·
      rw [hg]
      exact ⟨rfl, trivial⟩
     rw [hg]
     rfl
   ·
    have hbig := of_decide_eq_false h57
    first | rw [if_neg (show ¬ 1000000000000000 < n2 by omega)] at hg | rw [if_neg (show ¬ 1000000000000000 < n by omega)] at hg
    refine W.skip (qs ?_)
    iterate 2 refine W.seq ?_
    refine W.region ?_
    refine pE rfl ?_
    refine WO.nil (qs ?_)
    refine condK rfl (fun h61 => ?_) (fun h61 => ?_)
    ·
     have h45 : hereB (bys s) i = 45 := u8_of (n := 45) (by decide) (of_decide_eq_true h61)
     rw [if_pos h45] at hg
     refine W.region ?_
     refine pE rfl ?_
     first | refine pu (puI (ev tab rfl) (y := -((n2 : Nat) : Int)) (by show IntKind.i64.wrap (0 - ((n2 : Nat) : Int)) = _; rw [Int.zero_sub]; exact wrap64 (by omega))) rfl ?_ | refine pu (puI (ev tab rfl) (y := -((n : Nat) : Int)) (by show IntKind.i64.wrap (0 - ((n : Nat) : Int)) = _; rw [Int.zero_sub]; exact wrap64 (by omega))) rfl ?_
     refine pE rfl ?_
     refine WO.nil (qs (W.seq (W.region ?_)))
     refine pE rfl ?_
     refine pu (build tab rfl rfl rfl rfl) rfl ?_
     try refine nilS 65 rfl rfl rfl ?_
     refine storeR tab rfl rfl rfl rfl rfl rfl rfl rfl ?_
     refine WO.nil (qs ?_)
     try refine nilBox 1 3 rfl rfl rfl ?_
     try refine nilBox 1 4 rfl rfl rfl ?_
     refine W.ret ?_
     refine QB1.end tab [] trivial rfl rfl rfl rfl ?_ ?_
     ·
      rw [hg]
      exact ⟨rfl, trivial⟩
     rw [hg]
     rfl
    ·
     have h45 : ¬ hereB (bys s) i = 45 := by intro e; rw [e] at h61; simp at h61
     rw [if_neg h45] at hg
     refine W.skip (qs (W.seq (W.region ?_)))
     refine pE rfl ?_
     refine pu (build tab rfl rfl rfl rfl) rfl ?_
     try refine nilS 65 rfl rfl rfl ?_
     refine storeR tab rfl rfl rfl rfl rfl rfl rfl rfl ?_
     refine WO.nil (qs ?_)
     try refine nilBox 1 3 rfl rfl rfl ?_
     try refine nilBox 1 4 rfl rfl rfl ?_
     refine W.ret ?_
     refine QB1.end tab [] trivial rfl rfl rfl rfl ?_ ?_
     ·
      rw [hg]
      exact ⟨rfl, trivial⟩
     rw [hg]
     rfl
end Go.Proofs.YtllkpgnpioojjaaDoor
namespace Go.Proofs.YtllkpgnpioojjaaDoor
open Go.Ab Go.Tb
set_option maxRecDepth 10000
attribute [local irreducible] W WO Pu QS QB QL QF QV QV1 CH QE
def stF (st : RS) (w a : Int) : RS := (st.1, (if st.2.2 = 0 then a else st.2.1), (if st.2.2 = 0 then w else st.2.2))
def stSp (l : List UInt8) (st : RS) : RS := (skipB l st.1, st.2.1, st.2.2)
def stUp (st : RS) : RS := (st.1 + 1, st.2.1, st.2.2)
def stNeed (l w : List UInt8) (st : RS) : RS := if st.2.2 = 0 then outR (wordJ l w st.1) st.2.1 else st
def hasB (keys : List ByteArray) (t : ByteArray) : Bool := keys.any fun x => decide (x = t)
def stKey (l : List UInt8) (keys : List ByteArray) (st : RS) : RS := if hasB keys (strR (textJ l (skipB l st.1))) = true then stF (outR (textJ l (skipB l st.1)) st.2.1) 4 (skipB l st.1) else outR (textJ l (skipB l st.1)) st.2.1
def rkeyS (l : List UInt8) (op : Int) (keys : List ByteArray) (st : RS) : List ByteArray × RS :=
 if op = 6 then (keys ++ [strR (textJ l (skipB l st.1))], stNeed l [58] (stSp l (stKey l keys st))) else (keys, st)
def finS (l : List UInt8) (r : JV × RS) : JV × RS := if r.2.2.2 = 0 then (r.1, stSp l r.2) else r
def headS (st : RS) (ar : Int) : RS := if 16 ≤ ar then stF st 20 st.1 else st
mutual
def rvalS (l : List UInt8) : Nat → Int → RS → JV × RS
 | 0, _, st => (zeroJ, st)
 | k + 1, ar, st => if st.2.2 = 0 then finS l (
   if hereB l (skipB l st.1) = 110 then (.mk 1 0 (B #[]) [] [], outR (wordJ l nullL (skipB l st.1)) st.2.1)
   else if hereB l (skipB l st.1) = 116 then (.mk 2 1 (B #[]) [] [], outR (wordJ l trueL (skipB l st.1)) st.2.1)
   else if hereB l (skipB l st.1) = 102 then (.mk 2 0 (B #[]) [] [], outR (wordJ l falseL (skipB l st.1)) st.2.1)
   else if hereB l (skipB l st.1) = 34 then (.mk 4 0 (strR (textJ l (skipB l st.1))) [] [], outR (textJ l (skipB l st.1)) st.2.1)
   else if hereB l (skipB l st.1) = 91 then rlistS l k 5 93 ar (skipB l st.1, st.2.1, 0)
   else if hereB l (skipB l st.1) = 123 then rlistS l k 6 125 ar (skipB l st.1, st.2.1, 0)
   else rnumR l (skipB l st.1) st.2.1) else (zeroJ, st)
def rlistS (l : List UInt8) : Nat → Int → UInt8 → Int → RS → JV × RS
 | 0, op, _, _, st => (.mk op 0 (B #[]) [] [], st)
 | k + 1, op, c, ar, st =>
   if (headS st ar).2.2 = 0 ∧ hereB l (stSp l (stUp (headS st ar))).1 = c then (.mk op 0 (B #[]) [] [], stUp (stSp l (stUp (headS st ar))))
   else rloopS l k op c ar [] [] (stSp l (stUp (headS st ar)))
def rloopS (l : List UInt8) : Nat → Int → UInt8 → Int → List ByteArray → List JV → RS → JV × RS
 | 0, op, _, _, keys, kids, st => (.mk op 0 (B #[]) keys kids, st)
 | k + 1, op, c, ar, keys, kids, st => if st.2.2 = 0 then
   (if (rvalS l k (ar + 1) (rkeyS l op keys st).2).2.2.2 = 0 ∧ hereB l (rvalS l k (ar + 1) (rkeyS l op keys st).2).2.1 = c then
    (.mk op 0 (B #[]) (rkeyS l op keys st).1 (kids ++ [(rvalS l k (ar + 1) (rkeyS l op keys st).2).1]), stUp (rvalS l k (ar + 1) (rkeyS l op keys st).2).2)
   else rloopS l k op c ar (rkeyS l op keys st).1 (kids ++ [(rvalS l k (ar + 1) (rkeyS l op keys st).2).1]) (stNeed l [44] (rvalS l k (ar + 1) (rkeyS l op keys st).2).2))
   else (.mk op 0 (B #[]) keys kids, st)
end
theorem rvalS_eq (l : List UInt8) (k : Nat) (ar : Int) (st : RS) : rvalS l (k + 1) ar st = if st.2.2 = 0 then finS l (
   if hereB l (skipB l st.1) = 110 then (.mk 1 0 (B #[]) [] [], outR (wordJ l nullL (skipB l st.1)) st.2.1)
   else if hereB l (skipB l st.1) = 116 then (.mk 2 1 (B #[]) [] [], outR (wordJ l trueL (skipB l st.1)) st.2.1)
   else if hereB l (skipB l st.1) = 102 then (.mk 2 0 (B #[]) [] [], outR (wordJ l falseL (skipB l st.1)) st.2.1)
   else if hereB l (skipB l st.1) = 34 then (.mk 4 0 (strR (textJ l (skipB l st.1))) [] [], outR (textJ l (skipB l st.1)) st.2.1)
   else if hereB l (skipB l st.1) = 91 then rlistS l k 5 93 ar (skipB l st.1, st.2.1, 0)
   else if hereB l (skipB l st.1) = 123 then rlistS l k 6 125 ar (skipB l st.1, st.2.1, 0)
   else rnumR l (skipB l st.1) st.2.1) else (zeroJ, st) := by rw [rvalS]
theorem rlistS_eq (l : List UInt8) (k : Nat) (op : Int) (c : UInt8) (ar : Int) (st : RS) : rlistS l (k + 1) op c ar st =
   if (headS st ar).2.2 = 0 ∧ hereB l (stSp l (stUp (headS st ar))).1 = c then (.mk op 0 (B #[]) [] [], stUp (stSp l (stUp (headS st ar))))
   else rloopS l k op c ar [] [] (stSp l (stUp (headS st ar))) := by rw [rlistS]
theorem rloopS_eq (l : List UInt8) (k : Nat) (op : Int) (c : UInt8) (ar : Int) (keys : List ByteArray) (kids : List JV) (st : RS) : rloopS l (k + 1) op c ar keys kids st = if st.2.2 = 0 then
   (if (rvalS l k (ar + 1) (rkeyS l op keys st).2).2.2.2 = 0 ∧ hereB l (rvalS l k (ar + 1) (rkeyS l op keys st).2).2.1 = c then
    (.mk op 0 (B #[]) (rkeyS l op keys st).1 (kids ++ [(rvalS l k (ar + 1) (rkeyS l op keys st).2).1]), stUp (rvalS l k (ar + 1) (rkeyS l op keys st).2).2)
   else rloopS l k op c ar (rkeyS l op keys st).1 (kids ++ [(rvalS l k (ar + 1) (rkeyS l op keys st).2).1]) (stNeed l [44] (rvalS l k (ar + 1) (rkeyS l op keys st).2).2))
   else (.mk op 0 (B #[]) keys kids, st) := by rw [rloopS]
/-! where the reader stands -/
theorem outR_le {α : Type} {l : List UInt8} {i : Nat} {x : PE α} {p : Int} (h : Bd l i x) : (outR x p).1 ≤ l.length := by
 cases x with
 | ok v j => exact h.2
 | no a w => exact h.2
theorem word_le {l : List UInt8} {w : List UInt8} {i : Nat} {p : Int} (h : i ≤ l.length) : (outR (wordJ l w i) p).1 ≤ l.length := by
 have hb := wordJ_bd (l := l) (x := w) h
 revert hb
 cases wordJ l w i with
 | ok v j => exact fun hb => hb.2
 | no a w => exact fun hb => hb.2
theorem stSp_le {l : List UInt8} {st : RS} (h : st.1 ≤ l.length) : (stSp l st).1 ≤ l.length := skipB_le h
theorem stNeed_le {l w : List UInt8} {st : RS} (h : st.1 ≤ l.length) : (stNeed l w st).1 ≤ l.length := by
 unfold stNeed; split
 · exact word_le h
 · exact h
theorem stKey_le {l : List UInt8} {keys : List ByteArray} {st : RS} (h : st.1 ≤ l.length) : (stKey l keys st).1 ≤ l.length := by
 have := outR_le (p := st.2.1) (textJ_bd (l := l) (skipB_le h))
 unfold stKey; split
 · exact this
 · exact this
theorem rkeyS_le {l : List UInt8} {op : Int} {keys : List ByteArray} {st : RS} (h : st.1 ≤ l.length) : (rkeyS l op keys st).2.1 ≤ l.length := by
 unfold rkeyS; split
 · exact stNeed_le (stSp_le (stKey_le h))
 · exact h
theorem rnumR_le {l : List UInt8} {i : Nat} {p : Int} (h : i ≤ l.length) : (rnumR l i p).2.1 ≤ l.length := by
 have h1 : (if hereB l i = 45 then i + 1 else i) ≤ l.length := by
  split
  · rename_i q; exact here_lt (by rw [q]; decide)
  · exact h
 have h2 := (digsJ_bd (l := l) h1).2
 unfold rnumR
 dsimp only
 generalize (if hereB l i = 45 then i + 1 else i) = i1 at h1 h2 ⊢
 split
 · exact h1
 ·
  dsimp only
  split
  · exact h2
  · exact h2
theorem finS_le {l : List UInt8} {r : JV × RS} (h : r.2.1 ≤ l.length) : (finS l r).2.1 ≤ l.length := by
 unfold finS; split
 · exact stSp_le h
 · exact h
theorem headS_1 (st : RS) (ar : Int) : (headS st ar).1 = st.1 := by unfold headS; split <;> rfl
structure Ps (l : List UInt8) (k : Nat) : Prop where
 v : ∀ ar st, st.1 ≤ l.length → (rvalS l k ar st).2.1 ≤ l.length
 a : ∀ op c ar st, st.1 < l.length → c ≠ 0 → (rlistS l k op c ar st).2.1 ≤ l.length
 g : ∀ op c ar keys kids st, st.1 ≤ l.length → c ≠ 0 → (rloopS l k op c ar keys kids st).2.1 ≤ l.length
theorem places (l : List UInt8) : ∀ k, Ps l k
 | 0 => ⟨fun _ _ h => by unfold rvalS; exact h, fun _ _ _ _ h _ => by unfold rlistS; exact Nat.le_of_lt h, fun _ _ _ _ _ _ h _ => by unfold rloopS; exact h⟩
 | k + 1 => by
  have ih := places l k
  refine ⟨fun ar st h => ?_, fun op c ar st h hc => ?_, fun op c ar keys kids st h hc => ?_⟩
  ·
   have hle := skipB_le h
   rw [rvalS_eq]
   split
   ·
    refine finS_le ?_
    split
    · exact word_le hle
    ·
     split
     · exact word_le hle
     ·
      split
      · exact word_le hle
      ·
       split
       · exact outR_le (textJ_bd hle)
       ·
        split
        · rename_i q; exact ih.a _ _ _ _ (here_lt (by rw [q]; decide)) (by decide)
        ·
         split
         · rename_i q; exact ih.a _ _ _ _ (here_lt (by rw [q]; decide)) (by decide)
         · exact rnumR_le hle
   · exact h
  ·
   have h1 : (stSp l (stUp (headS st ar))).1 ≤ l.length := stSp_le (by show (headS st ar).1 + 1 ≤ _; rw [headS_1]; exact h)
   rw [rlistS_eq]
   split
   · rename_i q; exact here_lt (by rw [q.2]; exact hc)
   · exact ih.g _ _ _ _ _ _ h1 hc
  ·
   rw [rloopS_eq]
   have h1 := ih.v (ar + 1) (rkeyS l op keys st).2 (rkeyS_le h)
   split
   ·
    split
    · rename_i q; exact here_lt (by rw [q.2]; exact hc)
    · exact ih.g _ _ _ _ _ _ (stNeed_le h1) hc
   · exact h
/-! need, space and fail at any state -/
theorem rneed1_fn (s w : ByteArray) (st : RS) (he : st.2.2 ≠ 0) : DoesB Tryd.prog 75 [.ptr 0 0, .d (.v (.string w))] [rst s st] 0 (.tup []) [rst s st] 0 := by
 refine DoesB.of_V tab (n := 37) (rs := []) Tryd.func75 (by kernel_rfl) rfl Tryd.ntmps75 Tryd.results75 rfl rfl fun C hC hG => ?_
 refine W.seq (W.region ?_)
 refine pE rfl ?_
 refine WO.nil (qs (W.block ?_))
 refine W.loopR (ι := {x : Nat // match x with | k => k = 0 ∧ True})
  (fun x => match x.1 with | k => [(0, .ptr 0 0), (4, .d (.v (.int .i64 ((k : Nat) : Int))))]) [(1, _)]
  (fun x => match x.1 with | k => [(0, [.d (cs s), .d (.v (.int .i64 (st.1 : Int))), .d (.v (.int .i64 st.2.1)), .d (.v (.int .i64 st.2.2))])]) [] [] 1 (fun x => match x.1 with | k => k)
  [0] ⟨0, ?_⟩ rfl ?_ ⟨rfl, rfl, trivial⟩ ?_ trivial rfl ?_
 · exact ⟨rfl, trivial⟩
 · repeat' first | exact trivial | refine ⟨rfl, ?_⟩ | refine ⟨congrArg some (renL_boxE _ _ _), ?_⟩ | refine ⟨step_nat (by assumption) (by assumption), ?_⟩
 · repeat' first | exact trivial | refine ⟨rfl, ?_⟩ | refine ⟨congrArg some (renL_boxE _ _ _), ?_⟩ | refine ⟨step_nat (by assumption) (by assumption), ?_⟩
 rintro ⟨k, hk, hI⟩
 show W _ _ _ _ _ ⟨[(0, .ptr 0 0), (4, .d (.v (.int .i64 ((k : Nat) : Int)))), (1, _)], [(0, [.d (cs s), .d (.v (.int .i64 (st.1 : Int))), .d (.v (.int .i64 st.2.1)), .d (.v (.int .i64 st.2.2))])], [], 1⟩
 iterate 2 refine W.seq ?_
 apply regionB; (case hb => rfl)
 ·
  iterate 5 refine pE rfl ?_
  apply splitJ; (case hj => rfl); (case hl => rfl)
  ·
   refine goG rfl rfl ?_
   refine pE rfl ?_
   refine goG rfl rfl ?_
   refine pE rfl ?_
   refine goG rfl rfl ?_
   refine pE rfl ?_
   refine goG rfl rfl ?_
   first | refine pE rfl ?_ | refine pR rfl rfl rfl rfl rfl ?_ | refine pB rfl rfl rfl rfl rfl rfl ?_
   refine goG rfl rfl ?_
   iterate 2 refine pE rfl ?_
   refine WO.nil ?_
   refine qv1 rfl rfl rfl
  ·
   iterate 5 refine skipT rfl rfl rfl rfl ?_
   refine pE rfl ?_
   refine WO.nil ?_
   refine qv1 rfl rfl rfl
 refine qs ?_
 refine condK rfl (fun h15 => ?_) (fun h15 => ?_)
 ·
  exfalso
  revert h15
  simp [he]
 ·
  refine W.exit (qsExit (qlExit (qbExit ?_)))
  refine QB1.end tab [] trivial rfl rfl rfl rfl ?_ ?_
  · exact ⟨rfl, trivial⟩
  rfl
theorem rneedS_fn (s w : ByteArray) (st : RS) (hi : st.1 ≤ s.size) (hs : s.size ≤ 1000000000) (hw : ∀ b ∈ bys w, b ≠ 0) : DoesB Tryd.prog 75 [.ptr 0 0, .d (.v (.string w))] [rst s st] 0 (.tup []) [rst s (stNeed (bys s) (bys w) st)] 0 := by
 unfold stNeed
 split
 ·
  rename_i e
  obtain ⟨i, p, e0⟩ := st
  have e : e0 = 0 := e
  subst e
  have hN := rneed_fn s w i p hi hs hw
  revert hN
  cases hX : wordJ (bys s) (bys w) i <;> exact fun h => (by simp only [hX]; exact h)
 · rename_i e; exact rneed1_fn s w st e
theorem rspaceS_fn (s : ByteArray) (st : RS) (hi : st.1 ≤ s.size) (hs : s.size ≤ 1000000000) : DoesB Tryd.prog 57 [.ptr 0 0] [rst s st] 0 (.tup []) [rst s (stSp (bys s) st)] 0 := rspace_fn s st.1 st.2.1 st.2.2 hi hs
theorem rfailS_fn (s : ByteArray) (st : RS) (w a : Int) : DoesB Tryd.prog 36 [.ptr 0 0, .d (.v (.int .i64 w)), .d (.v (.int .i64 a))] [rst s st] 0 (.tup []) [rst s (stF st w a)] 0 := rfail_fn s st.1 st.2.1 st.2.2 w a
theorem rpeekS_fn (s : ByteArray) (st : RS) : DoesB Tryd.prog 58 [.ptr 0 0] [rst s st] 0 (.d (.v (.int .u8 (hereB (bys s) st.1).toNat))) [rst s st] 0 := rpeek_fn s st.1 st.2.1 st.2.2
end Go.Proofs.YtllkpgnpioojjaaDoor
namespace Go.Proofs.YtllkpgnpioojjaaDoor
open Go.Ab Go.Tb
set_option maxRecDepth 10000
attribute [local irreducible] W WO Pu QS QB QL QF QV QV1 CH QE
theorem finS_0 {l : List UInt8} {r : JV × RS} (h : r.2.2.2 = 0) : finS l r = (r.1, stSp l r.2) := by unfold finS; rw [if_pos h]
theorem finS_1 {l : List UInt8} {r : JV × RS} (h : ¬ r.2.2.2 = 0) : finS l r = r := by unfold finS; rw [if_neg h]
theorem rvalue_step (s : ByteArray) (k : Nat) (hs : s.size ≤ 1000000000) (ar : Int) (st : RS) (hi : st.1 ≤ s.size)
  (hA : ∀ i p, i < s.size → hereB (bys s) i = 91 → st.1 ≤ i → st.2.2 = 0 → DoesB Tryd.prog 61 [.ptr 0 0, .d (.v (.int .i64 5)), .d (.v (.int .u8 93)), .d (.v (.int .i64 ar))] [rbox s i p 0] 0 (.ag (rlistS (bys s) k 5 93 ar (i, p, 0)).1.c) [rst s (rlistS (bys s) k 5 93 ar (i, p, 0)).2] 0)
  (hO : ∀ i p, i < s.size → hereB (bys s) i = 123 → st.1 ≤ i → st.2.2 = 0 → DoesB Tryd.prog 61 [.ptr 0 0, .d (.v (.int .i64 6)), .d (.v (.int .u8 125)), .d (.v (.int .i64 ar))] [rbox s i p 0] 0 (.ag (rlistS (bys s) k 6 125 ar (i, p, 0)).1.c) [rst s (rlistS (bys s) k 6 125 ar (i, p, 0)).2] 0) :
  DoesB Tryd.prog 35 [.ptr 0 0, .d (.v (.int .i64 ar))] [rst s st] 0 (.ag (rvalS (bys s) (k + 1) ar st).1.c) [rst s (rvalS (bys s) (k + 1) ar st).2] 0 := by
 obtain ⟨i0, p, e⟩ := st
 have hi : i0 ≤ s.size := hi
 have hg := rvalS_eq (bys s) k ar (i0, p, e)
 generalize rvalS (bys s) (k + 1) ar (i0, p, e) = Y at hg ⊢
 have hle : skipB (bys s) i0 ≤ s.size := by have := skipB_le (l := bys s) (i := i0) (by rw [bytes_len]; exact hi); rwa [bytes_len] at this
 have hge := skipB_ge (bys s) i0
 have hpos := fun (x : JV × RS) (h : x.2.1 ≤ s.size) => h
 have hlt : hereB (bys s) (skipB (bys s) i0) ≠ 0 → skipB (bys s) i0 < s.size := fun h => by have := here_lt h; rwa [bytes_len] at this
 have hb : ∀ {j : Nat}, j ≤ (bys s).length → j ≤ s.size := fun h => by rwa [bytes_len] at h
 have hle' : skipB (bys s) i0 ≤ (bys s).length := by rw [bytes_len]; exact hle
 refine DoesB.of_V tab (n := 56) (rs := [.cell 4 26]) Tryd.func35 (by kernel_rfl) rfl Tryd.ntmps35 Tryd.results35 rfl rfl fun C hC hG => ?_
 refine W.seq (W.region ?_)
 refine allocR tab rfl rfl rfl ?_
 refine WO.nil (qs (W.seq (W.region ?_)))
 refine allocR tab rfl rfl rfl ?_
 refine WO.nil (qs ?_)
 iterate 2 refine W.seq ?_
 refine W.region ?_
 iterate 3 refine pE rfl ?_
 first | refine pE rfl ?_ | refine pR rfl rfl rfl rfl rfl ?_ | refine pB rfl rfl rfl rfl rfl rfl ?_
 refine pE rfl ?_
 refine WO.nil (qs ?_)
 refine condK rfl (fun h10 => ?_) (fun h10 => ?_)
 ·
  have he : ¬ e = 0 := by simpa using h10
  rw [if_neg he] at hg
  refine W.seq (W.region ?_)
  first | refine pE rfl ?_ | refine pR rfl rfl rfl rfl rfl ?_ | refine pB rfl rfl rfl rfl rfl rfl ?_
  refine storeR tab rfl rfl rfl rfl rfl rfl rfl rfl ?_
  refine WO.nil (qs ?_)
  try refine nilBox 1 3 rfl rfl rfl ?_
  try refine nilBox 1 4 rfl rfl rfl ?_
  refine W.ret (qsRet ?_)
  refine QB1.end tab [] trivial rfl rfl rfl rfl ?_ ?_
  ·
   rw [hg]
   exact ⟨rfl, trivial⟩
  rw [hg]
  rfl
 ·
  have he : e = 0 := by simpa using h10
  subst he
  rw [if_pos rfl] at hg
  dsimp only at hg
  refine W.skip (qs (W.seq (W.region ?_)))
  refine pE rfl ?_
  refine callB [0] [] rfl rfl rfl rfl rfl ((rspace_fn s i0 p 0 hi hs)) rfl rfl (by rfl) (by rfl) rfl rfl rfl rfl ?_
  refine WO.nil (qs ?_)
  iterate 2 refine W.seq ?_
  refine W.region ?_
  refine pE rfl ?_
  refine callB [0] [] rfl rfl rfl rfl rfl ((rpeek_fn s (skipB (bys s) i0) p 0)) rfl rfl (by rfl) (by rfl) rfl rfl rfl rfl ?_
  refine WO.nil (qs (W.block (W.seq (W.region ?_))))
  iterate 2 refine pE rfl ?_
  refine WO.nil (qs ?_)
  refine condK rfl (fun h18 => ?_) (fun h18 => ?_)
  ·
   rw [if_pos (eq_of (d := 110) h18)] at hg
   have hw := rword_fn s (B #[110, 117, 108, 108]) (.mk 1 0 (B #[]) [] []) (skipB (bys s) i0) p hle hs (by decide)
   have hw : DoesB Tryd.prog 59 [.ptr 0 0, .d (.v (.string (B #[110, 117, 108, 108]))), .ag (JV.mk 1 0 (B #[]) [] []).c] [rbox s (skipB (bys s) i0) p 0] 0 (.ag (JV.mk 1 0 (B #[]) [] []).c) [rst s (outR (wordJ (bys s) nullL (skipB (bys s) i0)) p)] 0 := hw
   have hol := hb (word_le (w := nullL) (p := p) hle')
   generalize outR (wordJ (bys s) nullL (skipB (bys s) i0)) p = o at hg hw hol
   refine W.region ?_
   refine pE rfl ?_
   refine pu (build tab rfl rfl rfl rfl) rfl ?_
   try refine nilO 21 rfl rfl rfl ?_
   refine callB [0] [] rfl rfl rfl rfl rfl (hw ..) rfl rfl (by rfl) (by rfl) rfl rfl rfl rfl ?_
   refine storeR tab rfl rfl rfl rfl rfl rfl rfl rfl ?_
   refine WO.nil (qbN (qs ?_))
   iterate 2 refine W.seq ?_
   refine W.region ?_
   iterate 3 refine pE rfl ?_
   first | refine pE rfl ?_ | refine pR rfl rfl rfl rfl rfl ?_ | refine pB rfl rfl rfl rfl rfl rfl ?_
   refine pE rfl ?_
   refine WO.nil (qs ?_)
   refine condK rfl (fun h52 => ?_) (fun h52 => ?_)
   ·
    rw [finS_0 (of_decide_eq_true h52)] at hg
    refine W.region ?_
    refine pE rfl ?_
    refine callB [0] [] rfl rfl rfl rfl rfl ((rspaceS_fn s o hol hs)) rfl rfl (by rfl) (by rfl) rfl rfl rfl rfl ?_
    refine WO.nil (qs (W.seq (W.region ?_)))
    first | refine pE rfl ?_ | refine pR rfl rfl rfl rfl rfl ?_ | refine pB rfl rfl rfl rfl rfl rfl ?_
    refine storeR tab rfl rfl rfl rfl rfl rfl rfl rfl ?_
    refine WO.nil (qs ?_)
    try refine nilBox 1 3 rfl rfl rfl ?_
    try refine nilBox 1 4 rfl rfl rfl ?_
    refine W.ret ?_
    refine QB1.end tab [] trivial rfl rfl rfl rfl ?_ ?_
    ·
     rw [hg]
     exact ⟨rfl, trivial⟩
    rw [hg]
    rfl
   ·
    rw [finS_1 (of_decide_eq_false h52)] at hg
    refine W.skip (qs (W.seq (W.region ?_)))
    first | refine pE rfl ?_ | refine pR rfl rfl rfl rfl rfl ?_ | refine pB rfl rfl rfl rfl rfl rfl ?_
    refine storeR tab rfl rfl rfl rfl rfl rfl rfl rfl ?_
    refine WO.nil (qs ?_)
    try refine nilBox 1 3 rfl rfl rfl ?_
    try refine nilBox 1 4 rfl rfl rfl ?_
    refine W.ret ?_
    refine QB1.end tab [] trivial rfl rfl rfl rfl ?_ ?_
    ·
     rw [hg]
     exact ⟨rfl, trivial⟩
    rw [hg]
    rfl
  ·
   rw [if_neg (ne_of (d := 110) h18)] at hg
   refine W.seq (W.region ?_)
   iterate 2 refine pE rfl ?_
   refine WO.nil (qs ?_)
   refine condK rfl (fun h23 => ?_) (fun h23 => ?_)
   ·
    rw [if_pos (eq_of (d := 116) h23)] at hg
    have hw := rword_fn s (B #[116, 114, 117, 101]) (.mk 2 1 (B #[]) [] []) (skipB (bys s) i0) p hle hs (by decide)
    have hw : DoesB Tryd.prog 59 [.ptr 0 0, .d (.v (.string (B #[116, 114, 117, 101]))), .ag (JV.mk 2 1 (B #[]) [] []).c] [rbox s (skipB (bys s) i0) p 0] 0 (.ag (JV.mk 2 1 (B #[]) [] []).c) [rst s (outR (wordJ (bys s) trueL (skipB (bys s) i0)) p)] 0 := hw
    have hol := hb (word_le (w := trueL) (p := p) hle')
    generalize outR (wordJ (bys s) trueL (skipB (bys s) i0)) p = o at hg hw hol
    refine W.region ?_
    refine pE rfl ?_
    refine pu (build tab rfl rfl rfl rfl) rfl ?_
    try refine nilO 26 rfl rfl rfl ?_
    refine callB [0] [] rfl rfl rfl rfl rfl (hw ..) rfl rfl (by rfl) (by rfl) rfl rfl rfl rfl ?_
    refine storeR tab rfl rfl rfl rfl rfl rfl rfl rfl ?_
    refine WO.nil (qbN (qs ?_))
    iterate 2 refine W.seq ?_
    refine W.region ?_
    iterate 3 refine pE rfl ?_
    first | refine pE rfl ?_ | refine pR rfl rfl rfl rfl rfl ?_ | refine pB rfl rfl rfl rfl rfl rfl ?_
    refine pE rfl ?_
    refine WO.nil (qs ?_)
    refine condK rfl (fun h52 => ?_) (fun h52 => ?_)
    ·
     rw [finS_0 (of_decide_eq_true h52)] at hg
     refine W.region ?_
     refine pE rfl ?_
     refine callB [0] [] rfl rfl rfl rfl rfl ((rspaceS_fn s o hol hs)) rfl rfl (by rfl) (by rfl) rfl rfl rfl rfl ?_
     refine WO.nil (qs (W.seq (W.region ?_)))
     first | refine pE rfl ?_ | refine pR rfl rfl rfl rfl rfl ?_ | refine pB rfl rfl rfl rfl rfl rfl ?_
     refine storeR tab rfl rfl rfl rfl rfl rfl rfl rfl ?_
     refine WO.nil (qs ?_)
     try refine nilBox 1 3 rfl rfl rfl ?_
     try refine nilBox 1 4 rfl rfl rfl ?_
     refine W.ret ?_
     refine QB1.end tab [] trivial rfl rfl rfl rfl ?_ ?_
     ·
      rw [hg]
      exact ⟨rfl, trivial⟩
     rw [hg]
     rfl
    ·
     rw [finS_1 (of_decide_eq_false h52)] at hg
     refine W.skip (qs (W.seq (W.region ?_)))
     first | refine pE rfl ?_ | refine pR rfl rfl rfl rfl rfl ?_ | refine pB rfl rfl rfl rfl rfl rfl ?_
     refine storeR tab rfl rfl rfl rfl rfl rfl rfl rfl ?_
     refine WO.nil (qs ?_)
     try refine nilBox 1 3 rfl rfl rfl ?_
     try refine nilBox 1 4 rfl rfl rfl ?_
     refine W.ret ?_
     refine QB1.end tab [] trivial rfl rfl rfl rfl ?_ ?_
     ·
      rw [hg]
      exact ⟨rfl, trivial⟩
     rw [hg]
     rfl
   ·
    rw [if_neg (ne_of (d := 116) h23)] at hg
    refine W.seq (W.region ?_)
    iterate 2 refine pE rfl ?_
    refine WO.nil (qs ?_)
    refine condK rfl (fun h28 => ?_) (fun h28 => ?_)
    ·
     rw [if_pos (eq_of (d := 102) h28)] at hg
     have hw := rword_fn s (B #[102, 97, 108, 115, 101]) (.mk 2 0 (B #[]) [] []) (skipB (bys s) i0) p hle hs (by decide)
     have hw : DoesB Tryd.prog 59 [.ptr 0 0, .d (.v (.string (B #[102, 97, 108, 115, 101]))), .ag (JV.mk 2 0 (B #[]) [] []).c] [rbox s (skipB (bys s) i0) p 0] 0 (.ag (JV.mk 2 0 (B #[]) [] []).c) [rst s (outR (wordJ (bys s) falseL (skipB (bys s) i0)) p)] 0 := hw
     have hol := hb (word_le (w := falseL) (p := p) hle')
     generalize outR (wordJ (bys s) falseL (skipB (bys s) i0)) p = o at hg hw hol
     refine W.region ?_
     refine pE rfl ?_
     refine pu (build tab rfl rfl rfl rfl) rfl ?_
     try refine nilO 31 rfl rfl rfl ?_
     refine callB [0] [] rfl rfl rfl rfl rfl (hw ..) rfl rfl (by rfl) (by rfl) rfl rfl rfl rfl ?_
     refine storeR tab rfl rfl rfl rfl rfl rfl rfl rfl ?_
     refine WO.nil (qbN (qs ?_))
     iterate 2 refine W.seq ?_
     refine W.region ?_
     iterate 3 refine pE rfl ?_
     first | refine pE rfl ?_ | refine pR rfl rfl rfl rfl rfl ?_ | refine pB rfl rfl rfl rfl rfl rfl ?_
     refine pE rfl ?_
     refine WO.nil (qs ?_)
     refine condK rfl (fun h52 => ?_) (fun h52 => ?_)
     ·
      rw [finS_0 (of_decide_eq_true h52)] at hg
      refine W.region ?_
      refine pE rfl ?_
      refine callB [0] [] rfl rfl rfl rfl rfl ((rspaceS_fn s o hol hs)) rfl rfl (by rfl) (by rfl) rfl rfl rfl rfl ?_
      refine WO.nil (qs (W.seq (W.region ?_)))
      first | refine pE rfl ?_ | refine pR rfl rfl rfl rfl rfl ?_ | refine pB rfl rfl rfl rfl rfl rfl ?_
      refine storeR tab rfl rfl rfl rfl rfl rfl rfl rfl ?_
      refine WO.nil (qs ?_)
      try refine nilBox 1 3 rfl rfl rfl ?_
      try refine nilBox 1 4 rfl rfl rfl ?_
      refine W.ret ?_
      refine QB1.end tab [] trivial rfl rfl rfl rfl ?_ ?_
      ·
       rw [hg]
       exact ⟨rfl, trivial⟩
      rw [hg]
      rfl
     ·
      rw [finS_1 (of_decide_eq_false h52)] at hg
      refine W.skip (qs (W.seq (W.region ?_)))
      first | refine pE rfl ?_ | refine pR rfl rfl rfl rfl rfl ?_ | refine pB rfl rfl rfl rfl rfl rfl ?_
      refine storeR tab rfl rfl rfl rfl rfl rfl rfl rfl ?_
      refine WO.nil (qs ?_)
      try refine nilBox 1 3 rfl rfl rfl ?_
      try refine nilBox 1 4 rfl rfl rfl ?_
      refine W.ret ?_
      refine QB1.end tab [] trivial rfl rfl rfl rfl ?_ ?_
      ·
       rw [hg]
       exact ⟨rfl, trivial⟩
      rw [hg]
      rfl
    ·
     rw [if_neg (ne_of (d := 102) h28)] at hg
     refine W.seq (W.region ?_)
     iterate 2 refine pE rfl ?_
     refine WO.nil (qs ?_)
     refine condK rfl (fun h33 => ?_) (fun h33 => ?_)
     ·
      rw [if_pos (eq_of (d := 34) h33)] at hg
      have hw := rstring_fn s (skipB (bys s) i0) p hle hs
      have hol := hb (outR_le (p := p) (textJ_bd (l := bys s) hle'))
      generalize outR (textJ (bys s) (skipB (bys s) i0)) p = o at hg hw hol
      generalize strR (textJ (bys s) (skipB (bys s) i0)) = tx at hg hw
      refine W.region ?_
      refine pE rfl ?_
      refine callB [0] [] rfl rfl rfl rfl rfl (hw ..) rfl rfl (by rfl) (by rfl) rfl rfl rfl rfl ?_
      refine pu (build tab rfl rfl rfl rfl) rfl ?_
      try refine nilO 37 rfl rfl rfl ?_
      refine storeR tab rfl rfl rfl rfl rfl rfl rfl rfl ?_
      refine WO.nil (qbN (qs ?_))
      iterate 2 refine W.seq ?_
      refine W.region ?_
      iterate 3 refine pE rfl ?_
      first | refine pE rfl ?_ | refine pR rfl rfl rfl rfl rfl ?_ | refine pB rfl rfl rfl rfl rfl rfl ?_
      refine pE rfl ?_
      refine WO.nil (qs ?_)
      refine condK rfl (fun h52 => ?_) (fun h52 => ?_)
      ·
       rw [finS_0 (of_decide_eq_true h52)] at hg
       refine W.region ?_
       refine pE rfl ?_
       refine callB [0] [] rfl rfl rfl rfl rfl ((rspaceS_fn s o hol hs)) rfl rfl (by rfl) (by rfl) rfl rfl rfl rfl ?_
       refine WO.nil (qs (W.seq (W.region ?_)))
       first | refine pE rfl ?_ | refine pR rfl rfl rfl rfl rfl ?_ | refine pB rfl rfl rfl rfl rfl rfl ?_
       refine storeR tab rfl rfl rfl rfl rfl rfl rfl rfl ?_
       refine WO.nil (qs ?_)
       try refine nilBox 1 3 rfl rfl rfl ?_
       try refine nilBox 1 4 rfl rfl rfl ?_
       refine W.ret ?_
       refine QB1.end tab [] trivial rfl rfl rfl rfl ?_ ?_
       ·
        rw [hg]
        exact ⟨rfl, trivial⟩
       rw [hg]
       rfl
      ·
       rw [finS_1 (of_decide_eq_false h52)] at hg
       refine W.skip (qs (W.seq (W.region ?_)))
       first | refine pE rfl ?_ | refine pR rfl rfl rfl rfl rfl ?_ | refine pB rfl rfl rfl rfl rfl rfl ?_
       refine storeR tab rfl rfl rfl rfl rfl rfl rfl rfl ?_
       refine WO.nil (qs ?_)
       try refine nilBox 1 3 rfl rfl rfl ?_
       try refine nilBox 1 4 rfl rfl rfl ?_
       refine W.ret ?_
       refine QB1.end tab [] trivial rfl rfl rfl rfl ?_ ?_
       ·
        rw [hg]
        exact ⟨rfl, trivial⟩
       rw [hg]
       rfl
     ·
      rw [if_neg (ne_of (d := 34) h33)] at hg
      refine W.seq (W.region ?_)
      iterate 2 refine pE rfl ?_
      refine WO.nil (qs ?_)
      refine condK rfl (fun h38 => ?_) (fun h38 => ?_)
      ·
       have h91 := eq_of (d := 91) h38
       rw [if_pos h91] at hg
       have hw := hA (skipB (bys s) i0) p (hlt (by rw [h91]; decide)) h91 hge rfl
       have hol := hb ((places (bys s) k).a 5 93 ar (skipB (bys s) i0, p, 0) (by show _ < _; rw [bytes_len]; exact hlt (by rw [h91]; decide)) (by decide))
       generalize rlistS (bys s) k 5 93 ar (skipB (bys s) i0, p, 0) = R at hg hw hol
       obtain ⟨v, o⟩ := R
       refine W.region ?_
       iterate 2 refine pE rfl ?_
       refine callB [0] [] rfl rfl rfl rfl rfl (hw ..) rfl rfl (by rfl) (by rfl) rfl rfl rfl rfl ?_
       refine storeR tab rfl rfl rfl rfl rfl rfl rfl rfl ?_
       refine WO.nil (qbN (qs ?_))
       iterate 2 refine W.seq ?_
       refine W.region ?_
       iterate 3 refine pE rfl ?_
       first | refine pE rfl ?_ | refine pR rfl rfl rfl rfl rfl ?_ | refine pB rfl rfl rfl rfl rfl rfl ?_
       refine pE rfl ?_
       refine WO.nil (qs ?_)
       refine condK rfl (fun h52 => ?_) (fun h52 => ?_)
       ·
        rw [finS_0 (of_decide_eq_true h52)] at hg
        refine W.region ?_
        refine pE rfl ?_
        refine callB [0] [] rfl rfl rfl rfl rfl ((rspaceS_fn s o hol hs)) rfl rfl (by rfl) (by rfl) rfl rfl rfl rfl ?_
        refine WO.nil (qs (W.seq (W.region ?_)))
        first | refine pE rfl ?_ | refine pR rfl rfl rfl rfl rfl ?_ | refine pB rfl rfl rfl rfl rfl rfl ?_
        refine storeR tab rfl rfl rfl rfl rfl rfl rfl rfl ?_
        refine WO.nil (qs ?_)
        try refine nilBox 1 3 rfl rfl rfl ?_
        try refine nilBox 1 4 rfl rfl rfl ?_
        refine W.ret ?_
        refine QB1.end tab [] trivial rfl rfl rfl rfl ?_ ?_
        ·
         rw [hg]
         exact ⟨rfl, trivial⟩
        rw [hg]
        rfl
       ·
        rw [finS_1 (of_decide_eq_false h52)] at hg
        refine W.skip (qs (W.seq (W.region ?_)))
        first | refine pE rfl ?_ | refine pR rfl rfl rfl rfl rfl ?_ | refine pB rfl rfl rfl rfl rfl rfl ?_
        refine storeR tab rfl rfl rfl rfl rfl rfl rfl rfl ?_
        refine WO.nil (qs ?_)
        try refine nilBox 1 3 rfl rfl rfl ?_
        try refine nilBox 1 4 rfl rfl rfl ?_
        refine W.ret ?_
        refine QB1.end tab [] trivial rfl rfl rfl rfl ?_ ?_
        ·
         rw [hg]
         exact ⟨rfl, trivial⟩
        rw [hg]
        rfl
      ·
       rw [if_neg (ne_of (d := 91) h38)] at hg
       refine W.seq (W.region ?_)
       iterate 2 refine pE rfl ?_
       refine WO.nil (qs ?_)
       refine condK rfl (fun h43 => ?_) (fun h43 => ?_)
       ·
        have h123 := eq_of (d := 123) h43
        rw [if_pos h123] at hg
        have hw := hO (skipB (bys s) i0) p (hlt (by rw [h123]; decide)) h123 hge rfl
        have hol := hb ((places (bys s) k).a 6 125 ar (skipB (bys s) i0, p, 0) (by show _ < _; rw [bytes_len]; exact hlt (by rw [h123]; decide)) (by decide))
        generalize rlistS (bys s) k 6 125 ar (skipB (bys s) i0, p, 0) = R at hg hw hol
        obtain ⟨v, o⟩ := R
        refine W.region ?_
        iterate 2 refine pE rfl ?_
        refine callB [0] [] rfl rfl rfl rfl rfl (hw ..) rfl rfl (by rfl) (by rfl) rfl rfl rfl rfl ?_
        refine storeR tab rfl rfl rfl rfl rfl rfl rfl rfl ?_
        refine WO.nil (qbN (qs ?_))
        iterate 2 refine W.seq ?_
        refine W.region ?_
        iterate 3 refine pE rfl ?_
        first | refine pE rfl ?_ | refine pR rfl rfl rfl rfl rfl ?_ | refine pB rfl rfl rfl rfl rfl rfl ?_
        refine pE rfl ?_
        refine WO.nil (qs ?_)
        refine condK rfl (fun h52 => ?_) (fun h52 => ?_)
        ·
         rw [finS_0 (of_decide_eq_true h52)] at hg
         refine W.region ?_
         refine pE rfl ?_
         refine callB [0] [] rfl rfl rfl rfl rfl ((rspaceS_fn s o hol hs)) rfl rfl (by rfl) (by rfl) rfl rfl rfl rfl ?_
         refine WO.nil (qs (W.seq (W.region ?_)))
         first | refine pE rfl ?_ | refine pR rfl rfl rfl rfl rfl ?_ | refine pB rfl rfl rfl rfl rfl rfl ?_
         refine storeR tab rfl rfl rfl rfl rfl rfl rfl rfl ?_
         refine WO.nil (qs ?_)
         try refine nilBox 1 3 rfl rfl rfl ?_
         try refine nilBox 1 4 rfl rfl rfl ?_
         refine W.ret ?_
         refine QB1.end tab [] trivial rfl rfl rfl rfl ?_ ?_
         ·
          rw [hg]
          exact ⟨rfl, trivial⟩
         rw [hg]
         rfl
        ·
         rw [finS_1 (of_decide_eq_false h52)] at hg
         refine W.skip (qs (W.seq (W.region ?_)))
         first | refine pE rfl ?_ | refine pR rfl rfl rfl rfl rfl ?_ | refine pB rfl rfl rfl rfl rfl rfl ?_
         refine storeR tab rfl rfl rfl rfl rfl rfl rfl rfl ?_
         refine WO.nil (qs ?_)
         try refine nilBox 1 3 rfl rfl rfl ?_
         try refine nilBox 1 4 rfl rfl rfl ?_
         refine W.ret ?_
         refine QB1.end tab [] trivial rfl rfl rfl rfl ?_ ?_
         ·
          rw [hg]
          exact ⟨rfl, trivial⟩
         rw [hg]
         rfl
       ·
        rw [if_neg (ne_of (d := 123) h43)] at hg
        have hw := rnumber_fn s (skipB (bys s) i0) p hle hs
        have hol := hb (rnumR_le (p := p) hle')
        generalize rnumR (bys s) (skipB (bys s) i0) p = R at hg hw hol
        obtain ⟨v, o⟩ := R
        refine W.region ?_
        refine pE rfl ?_
        refine callB [0] [] rfl rfl rfl rfl rfl (hw ..) rfl rfl (by rfl) (by rfl) rfl rfl rfl rfl ?_
        refine storeR tab rfl rfl rfl rfl rfl rfl rfl rfl ?_
        refine WO.nil (qbN (qs ?_))
        iterate 2 refine W.seq ?_
        refine W.region ?_
        iterate 3 refine pE rfl ?_
        first | refine pE rfl ?_ | refine pR rfl rfl rfl rfl rfl ?_ | refine pB rfl rfl rfl rfl rfl rfl ?_
        refine pE rfl ?_
        refine WO.nil (qs ?_)
        refine condK rfl (fun h52 => ?_) (fun h52 => ?_)
        ·
         rw [finS_0 (of_decide_eq_true h52)] at hg
         refine W.region ?_
         refine pE rfl ?_
         refine callB [0] [] rfl rfl rfl rfl rfl ((rspaceS_fn s o hol hs)) rfl rfl (by rfl) (by rfl) rfl rfl rfl rfl ?_
         refine WO.nil (qs (W.seq (W.region ?_)))
         first | refine pE rfl ?_ | refine pR rfl rfl rfl rfl rfl ?_ | refine pB rfl rfl rfl rfl rfl rfl ?_
         refine storeR tab rfl rfl rfl rfl rfl rfl rfl rfl ?_
         refine WO.nil (qs ?_)
         try refine nilBox 1 3 rfl rfl rfl ?_
         try refine nilBox 1 4 rfl rfl rfl ?_
         refine W.ret ?_
         refine QB1.end tab [] trivial rfl rfl rfl rfl ?_ ?_
         ·
          rw [hg]
          exact ⟨rfl, trivial⟩
         rw [hg]
         rfl
        ·
         rw [finS_1 (of_decide_eq_false h52)] at hg
         refine W.skip (qs (W.seq (W.region ?_)))
         first | refine pE rfl ?_ | refine pR rfl rfl rfl rfl rfl ?_ | refine pB rfl rfl rfl rfl rfl rfl ?_
         refine storeR tab rfl rfl rfl rfl rfl rfl rfl rfl ?_
         refine WO.nil (qs ?_)
         try refine nilBox 1 3 rfl rfl rfl ?_
         try refine nilBox 1 4 rfl rfl rfl ?_
         refine W.ret ?_
         refine QB1.end tab [] trivial rfl rfl rfl rfl ?_ ?_
         ·
          rw [hg]
          exact ⟨rfl, trivial⟩
         rw [hg]
         rfl
end Go.Proofs.YtllkpgnpioojjaaDoor
namespace Go.Proofs.YtllkpgnpioojjaaDoor
open Go.Ab Go.Tb
set_option maxRecDepth 10000
attribute [local irreducible] W WO Pu QS QB QL QF QV QV1 CH QE
theorem outR_ge {α : Type} {l : List UInt8} {i : Nat} {x : PE α} {p : Int} (h : Bd l i x) : i ≤ (outR x p).1 := by
 cases x with
 | ok v j => exact Nat.le_of_lt h.1
 | no a w => exact h.1
theorem word_ge {l : List UInt8} {w : List UInt8} {i : Nat} {p : Int} (h : i ≤ l.length) : i ≤ (outR (wordJ l w i) p).1 := by
 have hb := wordJ_ge (l := l) (x := w) h
 revert hb
 cases wordJ l w i with
 | ok v j => exact fun hb => hb
 | no a w => exact fun hb => hb
theorem stNeed_ge {l w : List UInt8} {st : RS} (h : st.1 ≤ l.length) : st.1 ≤ (stNeed l w st).1 := by
 unfold stNeed; split
 · exact word_ge h
 · exact Nat.le_refl _
theorem stSp_ge (l : List UInt8) (st : RS) : st.1 ≤ (stSp l st).1 := skipB_ge l st.1
theorem rkeyS_ge {l : List UInt8} {op : Int} {keys : List ByteArray} {st : RS} (h : st.1 ≤ l.length) : st.1 ≤ (rkeyS l op keys st).2.1 := by
 unfold rkeyS; split
 ·
  have h1 := skipB_ge l st.1
  have h2 := outR_ge (p := st.2.1) (textJ_bd (l := l) (skipB_le h))
  have h3 : (stKey l keys st).1 = (outR (textJ l (skipB l st.1)) st.2.1).1 := by unfold stKey; split <;> rfl
  have h4 := stSp_ge l (stKey l keys st)
  have h5 := stNeed_ge (w := [58]) (stSp_le (stKey_le (keys := keys) h))
  show st.1 ≤ (stNeed l [58] (stSp l (stKey l keys st))).1
  omega
 · exact Nat.le_refl _
theorem rnumR_ge {l : List UInt8} {i : Nat} {p : Int} (h : i ≤ l.length) : i ≤ (rnumR l i p).2.1 := by
 have h1 : i ≤ (if hereB l i = 45 then i + 1 else i) ∧ (if hereB l i = 45 then i + 1 else i) ≤ l.length := by
  split
  · rename_i q; exact ⟨Nat.le_succ _, here_lt (by rw [q]; decide)⟩
  · exact ⟨Nat.le_refl _, h⟩
 have h2 := (digsJ_bd (l := l) h1.2).1
 unfold rnumR
 dsimp only
 generalize (if hereB l i = 45 then i + 1 else i) = i1 at h1 h2 ⊢
 split
 · exact h1.1
 ·
  dsimp only
  split
  · exact Nat.le_trans h1.1 h2
  · exact Nat.le_trans h1.1 h2
theorem finS_ge {l : List UInt8} {i : Nat} {r : JV × RS} (h : i ≤ r.2.1) : i ≤ (finS l r).2.1 := by
 unfold finS; split
 · exact Nat.le_trans h (stSp_ge l r.2)
 · exact h
structure Qs (l : List UInt8) (k : Nat) : Prop where
 v : ∀ ar st, st.1 ≤ l.length → st.1 ≤ (rvalS l k ar st).2.1
 a : ∀ op c ar st, st.1 < l.length → c ≠ 0 → st.1 ≤ (rlistS l k op c ar st).2.1
 g : ∀ op c ar keys kids st, st.1 ≤ l.length → c ≠ 0 → st.1 ≤ (rloopS l k op c ar keys kids st).2.1
theorem onward (l : List UInt8) : ∀ k, Qs l k
 | 0 => ⟨fun _ _ _ => by unfold rvalS; exact Nat.le_refl _, fun _ _ _ _ _ _ => by unfold rlistS; exact Nat.le_refl _, fun _ _ _ _ _ _ _ _ => by unfold rloopS; exact Nat.le_refl _⟩
 | k + 1 => by
  have ih := onward l k
  have pl := places l k
  refine ⟨fun ar st h => ?_, fun op c ar st h hc => ?_, fun op c ar keys kids st h hc => ?_⟩
  ·
   have hle := skipB_le h
   have hge := skipB_ge l st.1
   rw [rvalS_eq]
   split
   ·
    refine finS_ge (Nat.le_trans hge ?_)
    split
    · exact word_ge hle
    ·
     split
     · exact word_ge hle
     ·
      split
      · exact word_ge hle
      ·
       split
       · exact outR_ge (textJ_bd hle)
       ·
        split
        · rename_i q; exact ih.a 5 93 ar (skipB l st.1, st.2.1, 0) (here_lt (by rw [q]; decide)) (by decide)
        ·
         split
         · rename_i q; exact ih.a 6 125 ar (skipB l st.1, st.2.1, 0) (here_lt (by rw [q]; decide)) (by decide)
         · exact rnumR_ge hle
   · exact Nat.le_refl _
  ·
   have h0 : (headS st ar).1 = st.1 := headS_1 st ar
   have h1 : (stSp l (stUp (headS st ar))).1 ≤ l.length := stSp_le (by show (headS st ar).1 + 1 ≤ _; rw [headS_1]; exact h)
   have h2 : (headS st ar).1 + 1 ≤ (stSp l (stUp (headS st ar))).1 := stSp_ge l (stUp (headS st ar))
   rw [rlistS_eq]
   split
   · show st.1 ≤ (stSp l (stUp (headS st ar))).1 + 1; omega
   · have := ih.g op c ar [] [] _ h1 hc; omega
  ·
   rw [rloopS_eq]
   have h0 := rkeyS_ge (op := op) (keys := keys) h
   have h1 := pl.v (ar + 1) (rkeyS l op keys st).2 (rkeyS_le h)
   have h2 := ih.v (ar + 1) (rkeyS l op keys st).2 (rkeyS_le h)
   split
   ·
    split
    · show st.1 ≤ (rvalS l k (ar + 1) (rkeyS l op keys st).2).2.1 + 1; omega
    ·
     have h3 := stNeed_ge (w := [44]) h1
     have := ih.g op c ar (rkeyS l op keys st).1 (kids ++ [(rvalS l k (ar + 1) (rkeyS l op keys st).2).1]) _ (stNeed_le (w := [44]) h1) hc
     omega
   · exact Nat.le_refl _
theorem stNeed_up {l : List UInt8} {c : UInt8} {st : RS} (h : (stNeed l [c] st).2.2 = 0) : (stNeed l [c] st).1 = st.1 + 1 := by
 unfold stNeed at h ⊢
 by_cases q : st.2.2 = 0
 ·
  rw [if_pos q] at h ⊢
  have hw : wordJ l [c] st.1 = takeJ l c st.1 := by simp only [wordJ]; cases takeJ l c st.1 <;> rfl
  rw [hw] at h ⊢
  unfold takeJ at h ⊢
  by_cases q2 : st.1 < l.length ∧ hereB l st.1 = c
  · rw [if_pos q2]; rfl
  · rw [if_neg q2] at h; exact absurd (show (10 : Int) = 0 from h) (by decide)
 · rw [if_neg q] at h; exact absurd h q
theorem jvc_gen (op : Int) (keys : List ByteArray) (acc : List JV) : (JV.mk op 0 (B #[]) keys acc).c = [ci op, ci 0, cs (B #[]), .sl (keys.map sc), .sl (acc.map JV.c)] := by simp [JV.c, JV.kc_eq, JV.op, JV.n, JV.s, JV.keys, JV.kids]
set_option maxHeartbeats 4000000 in
theorem rlist_step (s : ByteArray) (K : Nat) (hs : s.size ≤ 1000000000) (hKb : K ≤ 4000000000) (ar : Int) (har : 0 ≤ ar ∧ ar ≤ 1000)
  (hV : ∀ k, k < K → ∀ st : RS, st.1 ≤ s.size → (st.2.2 = 0 → ar + 1 ≤ 16 ∧ 3 * (s.size - st.1) + 1 ≤ k) → DoesB Tryd.prog 35 [.ptr 0 0, .d (.v (.int .i64 (ar + 1)))] [rst s st] 0 (.ag (rvalS (bys s) k (ar + 1) st).1.c) [rst s (rvalS (bys s) k (ar + 1) st).2] 0)
  (op : Int) (c : UInt8) (hc : c ≠ 0) (i : Nat) (p : Int) (hi : i < s.size) (hK : 3 * (s.size - i) ≤ K) (hK1 : 1 ≤ K) :
  DoesB Tryd.prog 61 [.ptr 0 0, .d (.v (.int .i64 op)), .d (.v (.int .u8 c.toNat)), .d (.v (.int .i64 ar))] [rbox s i p 0] 0 (.ag (rlistS (bys s) K op c ar (i, p, 0)).1.c) [rst s (rlistS (bys s) K op c ar (i, p, 0)).2] 0 := by
 obtain ⟨K', rfl⟩ : ∃ K', K = K' + 1 := ⟨K - 1, by omega⟩
 have hg := rlistS_eq (bys s) K' op c ar (i, p, 0)
 generalize rlistS (bys s) (K' + 1) op c ar (i, p, 0) = Y at hg ⊢
 obtain ⟨hd, hhd⟩ : ∃ hd, hd = headS (i, p, 0) ar := ⟨_, rfl⟩
 have hd1 : hd.1 = i := by rw [hhd]; exact headS_1 _ _
 have hd2 : hd.2.2 = 0 → ar + 1 ≤ 16 := fun h => by
  rw [hhd] at h
  unfold headS at h
  split at h
  · exact absurd (show (20 : Int) = 0 from h) (by decide)
  · omega
 rw [← hhd] at hg
 have hlt : ∀ j, hereB (bys s) j = c → j < s.size := fun j h => by have := here_lt (l := bys s) (i := j) (by rw [h]; exact hc); rwa [bytes_len] at this
 have hb : ∀ {j : Nat}, j ≤ (bys s).length → j ≤ s.size := fun h => by rwa [bytes_len] at h
 have hb' : ∀ {j : Nat}, j ≤ s.size → j ≤ (bys s).length := fun h => by rwa [bytes_len]
 have ceq : ∀ (b : UInt8), decide ((b.toNat : Int) = (c.toNat : Int)) = true → b = c := fun b h => UInt8.toNat_inj.1 (by have := of_decide_eq_true h; omega)
 have cne : ∀ (b : UInt8), decide ((b.toNat : Int) = (c.toNat : Int)) = false → b ≠ c := fun b h e => by rw [e] at h; simp at h
 have s1 : (stSp (bys s) (stUp hd)).1 ≤ s.size := hb (stSp_le (by show hd.1 + 1 ≤ _; rw [bytes_len, hd1]; exact hi))
 have s1g : i + 1 ≤ (stSp (bys s) (stUp hd)).1 := by have := stSp_ge (bys s) (stUp hd); have e : (stUp hd).1 = hd.1 + 1 := rfl; omega
 refine DoesB.of_V tab (n := 113) (rs := [.cell 8 26]) Tryd.func61 (by kernel_rfl) rfl Tryd.ntmps61 Tryd.results61 rfl rfl fun C hC hG => ?_
 refine W.seq (W.region ?_)
 refine allocR tab rfl rfl rfl ?_
 refine WO.nil (qs (W.seq (W.region ?_)))
 refine pE rfl ?_
 refine pu (build tab rfl rfl rfl rfl) rfl ?_
 refine allocR tab rfl rfl rfl ?_
 refine storeR tab rfl rfl rfl rfl rfl rfl rfl rfl ?_
 refine WO.nil (qs ?_)
 iterate 2 refine W.seq ?_
 refine W.region ?_
 iterate 2 refine pE rfl ?_
 refine WO.nil (qs ?_)
 refine W.cutS [(0, .ptr 0 0), (1, .d (.v (.int .i64 op))), (2, .d (.v (.int .u8 c.toNat))), (3, .d (.v (.int .i64 ar))), (8, .ptr 1 0), (9, .ptr 2 0)] [] [(0, [.d (cs s), .d (.v (.int .i64 (hd.1 : Int))), .d (.v (.int .i64 hd.2.1)), .d (.v (.int .i64 hd.2.2))])] [1, 2] [] 3 ?_ ?_
 ·
  refine condK rfl (fun h15 => ?_) (fun h15 => ?_)
  ·
   have h16 : 16 ≤ ar := by simp at h15; omega
   have e : hd = stF (i, p, 0) 20 (i : Int) := by rw [hhd]; unfold headS; rw [if_pos h16]
   subst e
   refine W.region ?_
   iterate 4 refine pE rfl ?_
   first | refine pE rfl ?_ | refine pR rfl rfl rfl rfl rfl ?_ | refine pB rfl rfl rfl rfl rfl rfl ?_
   refine callB [0] [] rfl rfl rfl rfl rfl ((rfailS_fn s (i, p, 0) 20 (i : Int))) rfl rfl (by rfl) (by rfl) rfl rfl rfl rfl ?_
   refine WO.nil ?_
   refine cutEnd [0, 1, 2] rfl ?_ trivial ?_ ⟨rfl, rfl, rfl, rfl, trivial⟩ rfl
   · repeat' first | exact trivial | refine ⟨rfl, ?_⟩ | refine ⟨congrArg some (renL_boxE _ _ _), ?_⟩ | refine ⟨step_nat (by assumption) (by assumption), ?_⟩
   · repeat' first | exact trivial | refine ⟨rfl, ?_⟩ | refine ⟨congrArg some (renL_boxE _ _ _), ?_⟩ | refine ⟨step_nat (by assumption) (by assumption), ?_⟩
  ·
   have h16 : ¬ 16 ≤ ar := by simp at h15; omega
   have e : hd = (i, p, 0) := by rw [hhd]; unfold headS; rw [if_neg h16]
   subst e
   refine W.skip ?_
   refine cutEnd [0, 1, 2] rfl ?_ trivial ?_ ⟨rfl, rfl, rfl, rfl, trivial⟩ rfl
   · repeat' first | exact trivial | refine ⟨rfl, ?_⟩ | refine ⟨congrArg some (renL_boxE _ _ _), ?_⟩ | refine ⟨step_nat (by assumption) (by assumption), ?_⟩
   · repeat' first | exact trivial | refine ⟨rfl, ?_⟩ | refine ⟨congrArg some (renL_boxE _ _ _), ?_⟩ | refine ⟨step_nat (by assumption) (by assumption), ?_⟩
 refine qs (W.seq (W.region ?_))
 iterate 3 refine pE rfl ?_
 first | refine pE rfl ?_ | refine pR rfl rfl rfl rfl rfl ?_ | refine pB rfl rfl rfl rfl rfl rfl ?_
 refine pu (puI (ev tab rfl) (y := ((hd.1 + 1 : Nat) : Int)) (wrap64 (by omega))) rfl ?_
 iterate 2 refine pE rfl ?_
 refine storeR tab rfl rfl rfl rfl rfl rfl rfl rfl ?_
 refine WO.nil (qs (W.seq (W.region ?_)))
 refine pE rfl ?_
 refine callB [0] [] rfl rfl rfl rfl rfl ((rspaceS_fn s (stUp hd) (by show hd.1 + 1 ≤ _; omega) hs)) rfl rfl (by rfl) (by rfl) rfl rfl rfl rfl ?_
 refine WO.nil (qs ?_)
 iterate 2 refine W.seq ?_
 refine W.region ?_
 iterate 3 refine pE rfl ?_
 first | refine pE rfl ?_ | refine pR rfl rfl rfl rfl rfl ?_ | refine pB rfl rfl rfl rfl rfl rfl ?_
 iterate 2 refine pE rfl ?_
 refine splitG rfl rfl (fun g36 => ?_) (fun g36 => ?_)
 ·
  refine goG rfl rfl ?_
  refine pE rfl ?_
  refine goG rfl rfl ?_
  refine callB [0] [] rfl rfl rfl rfl rfl ((rpeekS_fn s (stSp (bys s) (stUp hd)))) rfl rfl (by rfl) (by rfl) rfl rfl rfl rfl ?_
  refine goG rfl rfl ?_
  refine pE rfl ?_
  refine goG rfl rfl ?_
  iterate 2 refine pE rfl ?_
  refine WO.nil (qs ?_)
  refine condK rfl (fun h41 => ?_) (fun h41 => ?_)
  ·
   rw [if_pos ⟨of_decide_eq_true g36, ceq _ h41⟩] at hg
   have hlt1 := hlt _ (ceq _ h41)
   refine W.seq (W.region ?_)
   iterate 3 refine pE rfl ?_
   first | refine pE rfl ?_ | refine pR rfl rfl rfl rfl rfl ?_ | refine pB rfl rfl rfl rfl rfl rfl ?_
   refine pu (puI (ev tab rfl) (y := (((stSp (bys s) (stUp hd)).1 + 1 : Nat) : Int)) (wrap64 (by omega))) rfl ?_
   iterate 2 refine pE rfl ?_
   refine storeR tab rfl rfl rfl rfl rfl rfl rfl rfl ?_
   refine WO.nil (qs (W.seq (W.region ?_)))
   first | refine pE rfl ?_ | refine pR rfl rfl rfl rfl rfl ?_ | refine pB rfl rfl rfl rfl rfl rfl ?_
   refine storeR tab rfl rfl rfl rfl rfl rfl rfl rfl ?_
   refine WO.nil (qs ?_)
   try refine nilBox 1 3 rfl rfl rfl ?_
   try refine nilBox 1 4 rfl rfl rfl ?_
   refine W.ret (qsRet ?_)
   refine QB1.end tab [] trivial rfl rfl rfl rfl ?_ ?_
   ·
    rw [hg]
    exact ⟨rfl, trivial⟩
   rw [hg]
   rfl
  ·
   rw [if_neg (fun q => by first | exact cne _ h41 q.2 | exact of_decide_eq_false g36 q.1)] at hg
   refine W.skip (qs (W.seq (W.block ?_)))
   try rw [if_neg (fun q => of_decide_eq_false g36 q.1)] at hg
   refine W.gen 6 rfl ?_
   refine ownNilBox 2 3 rfl rfl rfl ?_
   refine ownNilBox 2 4 rfl rfl rfl ?_
   refine W.loopR (ι := {x : Nat × List ByteArray × List JV × RS // match x with | (k, keys, kids, st) => k ≤ K' ∧ st.1 ≤ s.size ∧ keys.length + k ≤ K' ∧ kids.length + k ≤ K' ∧ (st.2.2 = 0 → ar + 1 ≤ 16 ∧ 3 * (s.size - st.1) + 2 ≤ k) ∧ rloopS (bys s) k op c ar keys kids st = Y})
    (fun x => match x.1 with | (k, keys, kids, st) => [(0, .ptr 0 0), (1, .d (.v (.int .i64 op))), (2, .d (.v (.int .u8 c.toNat))), (3, .d (.v (.int .i64 ar))), (8, .ptr 1 0), (9, .ptr 2 0)]) []
    (fun x => match x.1 with | (k, keys, kids, st) => [(0, [.d (cs s), .d (.v (.int .i64 (st.1 : Int))), .d (.v (.int .i64 st.2.1)), .d (.v (.int .i64 st.2.2))]), (2, [.d (ci op), .d (ci 0), .d (cs (B #[])), .own 3 (keys.map sc), .own 4 (kids.map JV.c)])]) [(1, _)] [4, 3] 5 (fun x => match x.1 with | (k, keys, kids, st) => k)
    [0, 1, 2, 6, 7] ⟨(K', [], [], stSp (bys s) (stUp hd)), ?_⟩ rfl ?_ trivial ?_ ⟨rfl, rfl, trivial⟩ rfl ?_
   · exact ⟨Nat.le_refl _, s1, Nat.le_of_eq (Nat.zero_add _), Nat.le_of_eq (Nat.zero_add _), fun h => ⟨hd2 h, by omega⟩, hg.symm⟩
   · repeat' first | exact trivial | refine ⟨rfl, ?_⟩ | refine ⟨congrArg some (renL_boxE _ _ _), ?_⟩ | refine ⟨step_nat (by assumption) (by assumption), ?_⟩
   · repeat' first | exact trivial | refine ⟨rfl, ?_⟩ | refine ⟨congrArg some (renL_boxE _ _ _), ?_⟩ | refine ⟨step_nat (by assumption) (by assumption), ?_⟩
   rintro ⟨⟨k, keys, kids, st⟩, hkK, hst, hkl, hdl, hF, hI⟩
   show W _ _ _ _ _ ⟨[(0, .ptr 0 0), (1, .d (.v (.int .i64 op))), (2, .d (.v (.int .u8 c.toNat))), (3, .d (.v (.int .i64 ar))), (8, .ptr 1 0), (9, .ptr 2 0)], [(0, [.d (cs s), .d (.v (.int .i64 (st.1 : Int))), .d (.v (.int .i64 st.2.1)), .d (.v (.int .i64 st.2.2))]), (2, [.d (ci op), .d (ci 0), .d (cs (B #[])), .own 3 (keys.map sc), .own 4 (kids.map JV.c)]), (1, _)], [4, 3], 5⟩
   iterate 2 refine W.seq ?_
   refine W.region ?_
   iterate 3 refine pE rfl ?_
   first | refine pE rfl ?_ | refine pR rfl rfl rfl rfl rfl ?_ | refine pB rfl rfl rfl rfl rfl rfl ?_
   refine pE rfl ?_
   refine WO.nil (qs ?_)
   refine condK rfl (fun h54 => ?_) (fun h54 => ?_)
   ·
    obtain ⟨j, q, e⟩ := st
    have he : e = 0 := of_decide_eq_true h54
    subst he
    have hj : j ≤ s.size := hst
    obtain ⟨har1, hfu⟩ := hF rfl
    have hfu : 3 * (s.size - j) + 2 ≤ k := hfu
    obtain ⟨k', rfl⟩ : ∃ k', k = k' + 1 := ⟨k - 1, by omega⟩
    rw [rloopS_eq, if_pos rfl] at hI
    have hks1 := hb (rkeyS_le (l := bys s) (op := op) (keys := keys) (st := (j, q, 0)) (hb' hj))
    have hks2 := rkeyS_ge (l := bys s) (op := op) (keys := keys) (st := (j, q, 0)) (hb' hj)
    have hks2 : j ≤ (rkeyS (bys s) op keys (j, q, 0)).2.1 := hks2
    have hle := hb (skipB_le (l := bys s) (i := j) (hb' hj))
    refine W.skip (qs (W.block ?_))
    iterate 2 refine W.seq ?_
    refine W.region ?_
    iterate 2 refine pE rfl ?_
    refine WO.nil (qs ?_)
    refine condK rfl (fun h56 => ?_) (fun h56 => ?_)
    ·
     have hop : op = 6 := of_decide_eq_true h56
     have hT := rstring_fn s (skipB (bys s) j) q hle hs
     have hks : rkeyS (bys s) op keys (j, q, 0) = (keys ++ [strR (textJ (bys s) (skipB (bys s) j))], stNeed (bys s) [58] (stSp (bys s) (stKey (bys s) keys (j, q, 0)))) := by unfold rkeyS; rw [if_pos hop]
     obtain ⟨o2, ho2⟩ : ∃ o2, o2 = stKey (bys s) keys (j, q, 0) := ⟨_, rfl⟩
     have ho2l : o2.1 ≤ s.size := by rw [ho2]; exact hb (stKey_le (hb' hj))
     have ho2e : o2 = if hasB keys (strR (textJ (bys s) (skipB (bys s) j))) = true then stF (outR (textJ (bys s) (skipB (bys s) j)) q) 4 (skipB (bys s) j) else outR (textJ (bys s) (skipB (bys s) j)) q := ho2
     rw [← ho2] at hks
     rw [hks] at hI hks1 hks2
     generalize outR (textJ (bys s) (skipB (bys s) j)) q = o at hT ho2e
     generalize strR (textJ (bys s) (skipB (bys s) j)) = tx at hT ho2e hks hI hks1 hks2
     dsimp only at hI hks1 hks2
     have hv := hV k' (by omega) _ hks1 (fun _ => ⟨har1, by omega⟩)
     have hvl := hb ((places (bys s) k').v (ar + 1) _ (hb' hks1))
     have hvg := (onward (bys s) k').v (ar + 1) _ (hb' hks1)
     generalize rvalS (bys s) k' (ar + 1) (stNeed (bys s) [58] (stSp (bys s) o2)) = V at hI hv hvl hvg
     refine W.seq (W.region ?_)
     refine pE rfl ?_
     refine callB [0] [] rfl rfl rfl rfl rfl ((rspace_fn s j q 0 hj hs)) rfl rfl (by rfl) (by rfl) rfl rfl rfl rfl ?_
     refine WO.nil (qs (W.seq (W.region ?_)))
     iterate 3 refine pE rfl ?_
     first | refine pE rfl ?_ | refine pR rfl rfl rfl rfl rfl ?_ | refine pB rfl rfl rfl rfl rfl rfl ?_
     refine pE rfl ?_
     refine WO.nil (qs (W.seq (W.region ?_)))
     refine pE rfl ?_
     refine callB [0] [] rfl rfl rfl rfl rfl (hT ..) rfl rfl (by rfl) (by rfl) rfl rfl rfl rfl ?_
     refine pE rfl ?_
     refine WO.nil (qs ?_)
     iterate 2 refine W.seq ?_
     refine W.region ?_
     refine pE rfl ?_
     first | refine pE rfl ?_ | refine pR rfl rfl rfl rfl rfl ?_ | refine pB rfl rfl rfl rfl rfl rfl ?_
     refine pE rfl ?_
     refine pu (puCall rfl rfl rfl (has21_fn keys tx) rfl) rfl ?_
     refine WO.nil (qs ?_)
     refine condK rfl (fun h68 => ?_) (fun h68 => ?_)
     ·
      have e : o2 = stF o 4 (skipB (bys s) j : Int) := by rw [ho2e, if_pos (show hasB keys tx = true from h68)]
      subst e
      refine W.region ?_
      iterate 2 refine pE rfl ?_
      refine callB [0] [] rfl rfl rfl rfl rfl ((rfailS_fn s o 4 (skipB (bys s) j : Int))) rfl rfl (by rfl) (by rfl) rfl rfl rfl rfl ?_
      refine WO.nil (qs (W.seq ?_))
      refine W.gen 8 rfl ?_
      refine W.region ?_
      refine pE rfl ?_
      first | refine pE rfl ?_ | refine pR rfl rfl rfl rfl rfl ?_ | refine pB rfl rfl rfl rfl rfl rfl ?_
      refine pE rfl ?_
      refine pu (buildV tab rfl rfl rfl rfl rfl rfl rfl rfl rfl) rfl ?_
      refine appendM (fn := sc) (a := tx) tab rfl rfl rfl rfl rfl rfl rfl rfl rfl rfl (fun _ => rfl) (by show (keys.length + 1) * 16 ≤ _; omega) ?_
      refine pE rfl ?_
      refine storeR tab rfl rfl rfl rfl rfl rfl rfl rfl ?_
      refine WO.nil (qs (W.seq (W.region ?_)))
      refine pE rfl ?_
      refine callB [0] [] rfl rfl rfl rfl rfl ((rspaceS_fn s _ ho2l hs)) rfl rfl (by rfl) (by rfl) rfl rfl rfl rfl ?_
      refine WO.nil (qs (W.region ?_))
      refine pE rfl ?_
      refine callB [0] [] rfl rfl rfl rfl rfl ((rneedS_fn s (B #[58]) _ (hb (stSp_le (hb' ho2l))) hs (by decide))) rfl rfl (by rfl) (by rfl) rfl rfl rfl rfl ?_
      refine WO.nil (qs (W.seq ?_))
      refine W.gen 11 rfl ?_
      apply W.regionC tab 7 5; (case hB => kernel_rfl); (case h1 => rfl); (case h2 => rfl)
      refine' ccPu ?p1_1 (ev tab rfl) rfl rfl rfl rfl rfl ?h_1
      case' h_1 => skip
      first | (refine' ccPu ?p1_2 (ev tab rfl) rfl rfl rfl rfl rfl ?h_2) | (refine' ccPu ?p1_2 (loadRow tab rfl rfl rfl rfl) rfl rfl rfl rfl rfl ?h_2) | (refine' ccPu ?p1_2 (loadBox tab rfl rfl rfl rfl rfl) rfl rfl rfl rfl rfl ?h_2)
      case' h_2 => skip
      refine' ccPu0 (ev tab rfl) rfl rfl rfl rfl rfl ?h_3
      case' h_3 => skip
      refine' ccPu ?p1_4 (ev tab rfl) rfl rfl rfl rfl rfl ?h_4
      case' h_4 => skip
      refine' ccPu0 (puI (ev tab rfl) (y := ar + 1) (wrap64 (by omega))) rfl rfl rfl rfl rfl ?h_5
      case' h_5 => skip
      refine' ccX (fun g => ?e_6) rfl rfl rfl ?h_6
      case e_6 =>
       refine callB [0] [] rfl rfl rfl rfl rfl (hv ..) rfl rfl (by rfl) (by rfl) rfl rfl rfl rfl ?_
       refine WO.nil ?_
       exact ⟨rfl, rfl⟩
      case' h_6 => skip
      case p1_1 => exact (ev tab rfl)
      case p1_2 => first | (exact (ev tab rfl)) | (exact (loadRow tab rfl rfl rfl rfl)) | (exact (loadBox tab rfl rfl rfl rfl rfl))
      case p1_4 => exact (ev tab rfl)
      refine ccPu1 (buildV tab rfl rfl rfl rfl rfl rfl rfl rfl rfl) rfl rfl rfl rfl rfl ?_
      refine CC.nil ?_
      refine appendM (fn := JV.c) (a := V.1) tab rfl rfl rfl rfl rfl rfl rfl rfl rfl rfl (fun _ => rfl) (by show (kids.length + 1) * 80 ≤ _; omega) ?_
      refine pE rfl ?_
      refine storeR tab rfl rfl rfl rfl rfl rfl rfl rfl ?_
      refine WO.nil (qs ?_)
      iterate 2 refine W.seq ?_
      refine W.region ?_
      iterate 3 refine pE rfl ?_
      first | refine pE rfl ?_ | refine pR rfl rfl rfl rfl rfl ?_ | refine pB rfl rfl rfl rfl rfl rfl ?_
      iterate 2 refine pE rfl ?_
      refine splitG rfl rfl (fun g96 => ?_) (fun g96 => ?_)
      ·
       refine goG rfl rfl ?_
       refine pE rfl ?_
       refine goG rfl rfl ?_
       refine callB [0] [] rfl rfl rfl rfl rfl ((rpeekS_fn s V.2)) rfl rfl (by rfl) (by rfl) rfl rfl rfl rfl ?_
       refine goG rfl rfl ?_
       refine pE rfl ?_
       refine goG rfl rfl ?_
       iterate 2 refine pE rfl ?_
       refine WO.nil (qs ?_)
       refine condK rfl (fun h101 => ?_) (fun h101 => ?_)
       ·
        rw [if_pos ⟨of_decide_eq_true g96, ceq _ h101⟩] at hI
        have hlt1 := hlt _ (ceq _ h101)
        refine W.seq (W.region ?_)
        iterate 3 refine pE rfl ?_
        first | refine pE rfl ?_ | refine pR rfl rfl rfl rfl rfl ?_ | refine pB rfl rfl rfl rfl rfl rfl ?_
        refine pu (puI (ev tab rfl) (y := ((V.2.1 + 1 : Nat) : Int)) (wrap64 (by omega))) rfl ?_
        iterate 2 refine pE rfl ?_
        refine storeR tab rfl rfl rfl rfl rfl rfl rfl rfl ?_
        refine WO.nil (qs (W.seq (W.region ?_)))
        first | refine pE rfl ?_ | refine pR rfl rfl rfl rfl rfl ?_ | refine pB rfl rfl rfl rfl rfl rfl ?_
        refine storeR tab rfl rfl rfl rfl rfl rfl rfl rfl ?_
        refine WO.nil (qs ?_)
        try refine nilBox 1 3 rfl rfl rfl ?_
        try refine nilBox 1 4 rfl rfl rfl ?_
        refine W.ret (qsRet (qbRet (qlRet (qbRet (qsRet ?_)))))
        refine QB1.end tab [] trivial rfl rfl rfl rfl ?_ ?_
        · first | (rw [hY]; exact ⟨rfl, trivial⟩) | (rw [← hI]; exact ⟨rfl, trivial⟩)
        first | (rw [hY, jvc_gen]; rfl) | (rw [← hI, jvc_gen]; rfl)
       ·
        rw [if_neg (fun q => by first | exact cne _ h101 q.2 | exact of_decide_eq_false g96 q.1)] at hI
        refine W.skip (qs ?_)
        try rw [if_neg (fun q => of_decide_eq_false g96 q.1)] at hI
        refine W.region ?_
        refine pE rfl ?_
        refine callB [0] [] rfl rfl rfl rfl rfl ((rneedS_fn s (B #[44]) V.2 hvl hs (by decide))) rfl rfl (by rfl) (by rfl) rfl rfl rfl rfl ?_
        refine WO.nil (qbN ?_)
        first | (refine W.endR [0, 1, 2, 8, 12] ⟨(k', keys ++ [tx], kids ++ [V.1], stNeed (bys s) [44] V.2), ?_⟩ ?_ rfl ?_ trivial ?_ ⟨rfl, rfl, trivial⟩ rfl) | (refine W.endR [0, 1, 2, 3, 12] ⟨(k', keys, kids ++ [V.1], stNeed (bys s) [44] V.2), ?_⟩ ?_ rfl ?_ trivial ?_ ⟨rfl, rfl, trivial⟩ rfl)
        · exact ⟨by omega, hb (stNeed_le (hb' hvl)), by first | (rw [List.length_append, List.length_singleton]; omega) | omega, by rw [List.length_append, List.length_singleton]; omega, fun h => ⟨har1, by have := stNeed_up (l := bys s) (c := 44) (st := V.2) h; have hle2 := hb (stNeed_le (l := bys s) (w := [44]) (hb' hvl)); show 3 * (s.size - (stNeed (bys s) [44] V.2).1) + 2 ≤ k'; omega⟩, hI⟩
        · dsimp only; omega
        · repeat' first | exact trivial | refine ⟨rfl, ?_⟩ | refine ⟨congrArg some (renL_boxE _ _ _), ?_⟩ | refine ⟨step_nat (by assumption) (by assumption), ?_⟩
        · repeat' first | exact trivial | refine ⟨rfl, ?_⟩ | refine ⟨congrArg some (renL_boxE _ _ _), ?_⟩ | refine ⟨step_nat (by assumption) (by assumption), ?_⟩
      ·
       iterate 4 refine skipT rfl rfl rfl rfl ?_
       refine pE rfl ?_
       refine WO.nil (qs ?_)
       refine W.condF rfl ?_
       refine W.skip (qs ?_)
       try rw [if_neg (fun q => of_decide_eq_false g96 q.1)] at hI
       refine W.region ?_
       refine pE rfl ?_
       refine callB [0] [] rfl rfl rfl rfl rfl ((rneedS_fn s (B #[44]) V.2 hvl hs (by decide))) rfl rfl (by rfl) (by rfl) rfl rfl rfl rfl ?_
       refine WO.nil (qbN ?_)
       first | (refine W.endR [0, 1, 2, 8, 12] ⟨(k', keys ++ [tx], kids ++ [V.1], stNeed (bys s) [44] V.2), ?_⟩ ?_ rfl ?_ trivial ?_ ⟨rfl, rfl, trivial⟩ rfl) | (refine W.endR [0, 1, 2, 3, 12] ⟨(k', keys, kids ++ [V.1], stNeed (bys s) [44] V.2), ?_⟩ ?_ rfl ?_ trivial ?_ ⟨rfl, rfl, trivial⟩ rfl)
       · exact ⟨by omega, hb (stNeed_le (hb' hvl)), by first | (rw [List.length_append, List.length_singleton]; omega) | omega, by rw [List.length_append, List.length_singleton]; omega, fun h => ⟨har1, by have := stNeed_up (l := bys s) (c := 44) (st := V.2) h; have hle2 := hb (stNeed_le (l := bys s) (w := [44]) (hb' hvl)); show 3 * (s.size - (stNeed (bys s) [44] V.2).1) + 2 ≤ k'; omega⟩, hI⟩
       · dsimp only; omega
       · repeat' first | exact trivial | refine ⟨rfl, ?_⟩ | refine ⟨congrArg some (renL_boxE _ _ _), ?_⟩ | refine ⟨step_nat (by assumption) (by assumption), ?_⟩
       · repeat' first | exact trivial | refine ⟨rfl, ?_⟩ | refine ⟨congrArg some (renL_boxE _ _ _), ?_⟩ | refine ⟨step_nat (by assumption) (by assumption), ?_⟩
     ·
      have e : o2 = o := by rw [ho2e, if_neg (by show ¬ hasB keys tx = true; rw [show hasB keys tx = false from h68]; decide)]
      subst e
      refine W.skip (qs (W.seq ?_))
      refine W.gen 8 rfl ?_
      refine W.region ?_
      refine pE rfl ?_
      first | refine pE rfl ?_ | refine pR rfl rfl rfl rfl rfl ?_ | refine pB rfl rfl rfl rfl rfl rfl ?_
      refine pE rfl ?_
      refine pu (buildV tab rfl rfl rfl rfl rfl rfl rfl rfl rfl) rfl ?_
      refine appendM (fn := sc) (a := tx) tab rfl rfl rfl rfl rfl rfl rfl rfl rfl rfl (fun _ => rfl) (by show (keys.length + 1) * 16 ≤ _; omega) ?_
      refine pE rfl ?_
      refine storeR tab rfl rfl rfl rfl rfl rfl rfl rfl ?_
      refine WO.nil (qs (W.seq (W.region ?_)))
      refine pE rfl ?_
      refine callB [0] [] rfl rfl rfl rfl rfl ((rspaceS_fn s _ ho2l hs)) rfl rfl (by rfl) (by rfl) rfl rfl rfl rfl ?_
      refine WO.nil (qs (W.region ?_))
      refine pE rfl ?_
      refine callB [0] [] rfl rfl rfl rfl rfl ((rneedS_fn s (B #[58]) _ (hb (stSp_le (hb' ho2l))) hs (by decide))) rfl rfl (by rfl) (by rfl) rfl rfl rfl rfl ?_
      refine WO.nil (qs (W.seq ?_))
      refine W.gen 11 rfl ?_
      apply W.regionC tab 7 5; (case hB => kernel_rfl); (case h1 => rfl); (case h2 => rfl)
      refine' ccPu ?p1_8 (ev tab rfl) rfl rfl rfl rfl rfl ?h_8
      case' h_8 => skip
      first | (refine' ccPu ?p1_9 (ev tab rfl) rfl rfl rfl rfl rfl ?h_9) | (refine' ccPu ?p1_9 (loadRow tab rfl rfl rfl rfl) rfl rfl rfl rfl rfl ?h_9) | (refine' ccPu ?p1_9 (loadBox tab rfl rfl rfl rfl rfl) rfl rfl rfl rfl rfl ?h_9)
      case' h_9 => skip
      refine' ccPu0 (ev tab rfl) rfl rfl rfl rfl rfl ?h_10
      case' h_10 => skip
      refine' ccPu ?p1_11 (ev tab rfl) rfl rfl rfl rfl rfl ?h_11
      case' h_11 => skip
      refine' ccPu0 (puI (ev tab rfl) (y := ar + 1) (wrap64 (by omega))) rfl rfl rfl rfl rfl ?h_12
      case' h_12 => skip
      refine' ccX (fun g => ?e_13) rfl rfl rfl ?h_13
      case e_13 =>
       refine callB [0] [] rfl rfl rfl rfl rfl (hv ..) rfl rfl (by rfl) (by rfl) rfl rfl rfl rfl ?_
       refine WO.nil ?_
       exact ⟨rfl, rfl⟩
      case' h_13 => skip
      case p1_8 => exact (ev tab rfl)
      case p1_9 => first | (exact (ev tab rfl)) | (exact (loadRow tab rfl rfl rfl rfl)) | (exact (loadBox tab rfl rfl rfl rfl rfl))
      case p1_11 => exact (ev tab rfl)
      refine ccPu1 (buildV tab rfl rfl rfl rfl rfl rfl rfl rfl rfl) rfl rfl rfl rfl rfl ?_
      refine CC.nil ?_
      refine appendM (fn := JV.c) (a := V.1) tab rfl rfl rfl rfl rfl rfl rfl rfl rfl rfl (fun _ => rfl) (by show (kids.length + 1) * 80 ≤ _; omega) ?_
      refine pE rfl ?_
      refine storeR tab rfl rfl rfl rfl rfl rfl rfl rfl ?_
      refine WO.nil (qs ?_)
      iterate 2 refine W.seq ?_
      refine W.region ?_
      iterate 3 refine pE rfl ?_
      first | refine pE rfl ?_ | refine pR rfl rfl rfl rfl rfl ?_ | refine pB rfl rfl rfl rfl rfl rfl ?_
      iterate 2 refine pE rfl ?_
      refine splitG rfl rfl (fun g96 => ?_) (fun g96 => ?_)
      ·
       refine goG rfl rfl ?_
       refine pE rfl ?_
       refine goG rfl rfl ?_
       refine callB [0] [] rfl rfl rfl rfl rfl ((rpeekS_fn s V.2)) rfl rfl (by rfl) (by rfl) rfl rfl rfl rfl ?_
       refine goG rfl rfl ?_
       refine pE rfl ?_
       refine goG rfl rfl ?_
       iterate 2 refine pE rfl ?_
       refine WO.nil (qs ?_)
       refine condK rfl (fun h101 => ?_) (fun h101 => ?_)
       ·
        rw [if_pos ⟨of_decide_eq_true g96, ceq _ h101⟩] at hI
        have hlt1 := hlt _ (ceq _ h101)
        refine W.seq (W.region ?_)
        iterate 3 refine pE rfl ?_
        first | refine pE rfl ?_ | refine pR rfl rfl rfl rfl rfl ?_ | refine pB rfl rfl rfl rfl rfl rfl ?_
        refine pu (puI (ev tab rfl) (y := ((V.2.1 + 1 : Nat) : Int)) (wrap64 (by omega))) rfl ?_
        iterate 2 refine pE rfl ?_
        refine storeR tab rfl rfl rfl rfl rfl rfl rfl rfl ?_
        refine WO.nil (qs (W.seq (W.region ?_)))
        first | refine pE rfl ?_ | refine pR rfl rfl rfl rfl rfl ?_ | refine pB rfl rfl rfl rfl rfl rfl ?_
        refine storeR tab rfl rfl rfl rfl rfl rfl rfl rfl ?_
        refine WO.nil (qs ?_)
        try refine nilBox 1 3 rfl rfl rfl ?_
        try refine nilBox 1 4 rfl rfl rfl ?_
        refine W.ret (qsRet (qbRet (qlRet (qbRet (qsRet ?_)))))
        refine QB1.end tab [] trivial rfl rfl rfl rfl ?_ ?_
        · first | (rw [hY]; exact ⟨rfl, trivial⟩) | (rw [← hI]; exact ⟨rfl, trivial⟩)
        first | (rw [hY, jvc_gen]; rfl) | (rw [← hI, jvc_gen]; rfl)
       ·
        rw [if_neg (fun q => by first | exact cne _ h101 q.2 | exact of_decide_eq_false g96 q.1)] at hI
        refine W.skip (qs ?_)
        try rw [if_neg (fun q => of_decide_eq_false g96 q.1)] at hI
        refine W.region ?_
        refine pE rfl ?_
        refine callB [0] [] rfl rfl rfl rfl rfl ((rneedS_fn s (B #[44]) V.2 hvl hs (by decide))) rfl rfl (by rfl) (by rfl) rfl rfl rfl rfl ?_
        refine WO.nil (qbN ?_)
        first | (refine W.endR [0, 1, 2, 8, 12] ⟨(k', keys ++ [tx], kids ++ [V.1], stNeed (bys s) [44] V.2), ?_⟩ ?_ rfl ?_ trivial ?_ ⟨rfl, rfl, trivial⟩ rfl) | (refine W.endR [0, 1, 2, 3, 12] ⟨(k', keys, kids ++ [V.1], stNeed (bys s) [44] V.2), ?_⟩ ?_ rfl ?_ trivial ?_ ⟨rfl, rfl, trivial⟩ rfl)
        · exact ⟨by omega, hb (stNeed_le (hb' hvl)), by first | (rw [List.length_append, List.length_singleton]; omega) | omega, by rw [List.length_append, List.length_singleton]; omega, fun h => ⟨har1, by have := stNeed_up (l := bys s) (c := 44) (st := V.2) h; have hle2 := hb (stNeed_le (l := bys s) (w := [44]) (hb' hvl)); show 3 * (s.size - (stNeed (bys s) [44] V.2).1) + 2 ≤ k'; omega⟩, hI⟩
        · dsimp only; omega
        · repeat' first | exact trivial | refine ⟨rfl, ?_⟩ | refine ⟨congrArg some (renL_boxE _ _ _), ?_⟩ | refine ⟨step_nat (by assumption) (by assumption), ?_⟩
        · repeat' first | exact trivial | refine ⟨rfl, ?_⟩ | refine ⟨congrArg some (renL_boxE _ _ _), ?_⟩ | refine ⟨step_nat (by assumption) (by assumption), ?_⟩
      ·
       iterate 4 refine skipT rfl rfl rfl rfl ?_
       refine pE rfl ?_
       refine WO.nil (qs ?_)
       refine W.condF rfl ?_
       refine W.skip (qs ?_)
       try rw [if_neg (fun q => of_decide_eq_false g96 q.1)] at hI
       refine W.region ?_
       refine pE rfl ?_
       refine callB [0] [] rfl rfl rfl rfl rfl ((rneedS_fn s (B #[44]) V.2 hvl hs (by decide))) rfl rfl (by rfl) (by rfl) rfl rfl rfl rfl ?_
       refine WO.nil (qbN ?_)
       first | (refine W.endR [0, 1, 2, 8, 12] ⟨(k', keys ++ [tx], kids ++ [V.1], stNeed (bys s) [44] V.2), ?_⟩ ?_ rfl ?_ trivial ?_ ⟨rfl, rfl, trivial⟩ rfl) | (refine W.endR [0, 1, 2, 3, 12] ⟨(k', keys, kids ++ [V.1], stNeed (bys s) [44] V.2), ?_⟩ ?_ rfl ?_ trivial ?_ ⟨rfl, rfl, trivial⟩ rfl)
       · exact ⟨by omega, hb (stNeed_le (hb' hvl)), by first | (rw [List.length_append, List.length_singleton]; omega) | omega, by rw [List.length_append, List.length_singleton]; omega, fun h => ⟨har1, by have := stNeed_up (l := bys s) (c := 44) (st := V.2) h; have hle2 := hb (stNeed_le (l := bys s) (w := [44]) (hb' hvl)); show 3 * (s.size - (stNeed (bys s) [44] V.2).1) + 2 ≤ k'; omega⟩, hI⟩
       · dsimp only; omega
       · repeat' first | exact trivial | refine ⟨rfl, ?_⟩ | refine ⟨congrArg some (renL_boxE _ _ _), ?_⟩ | refine ⟨step_nat (by assumption) (by assumption), ?_⟩
       · repeat' first | exact trivial | refine ⟨rfl, ?_⟩ | refine ⟨congrArg some (renL_boxE _ _ _), ?_⟩ | refine ⟨step_nat (by assumption) (by assumption), ?_⟩
    ·
     have hop : ¬ op = 6 := of_decide_eq_false h56
     have hks : rkeyS (bys s) op keys (j, q, 0) = (keys, (j, q, 0)) := by unfold rkeyS; rw [if_neg hop]
     rw [hks] at hI hks1 hks2
     dsimp only at hI hks1 hks2
     have hv := hV k' (by omega) (j, q, 0) hks1 (fun _ => ⟨har1, by show 3 * (s.size - j) + 1 ≤ k'; omega⟩)
     have hvl := hb ((places (bys s) k').v (ar + 1) (j, q, 0) (hb' hks1))
     have hvg := (onward (bys s) k').v (ar + 1) (j, q, 0) (hb' hks1)
     have hvg : j ≤ (rvalS (bys s) k' (ar + 1) (j, q, 0)).2.1 := hvg
     generalize rvalS (bys s) k' (ar + 1) (j, q, 0) = V at hI hv hvl hvg
     refine W.skip (qs (W.seq ?_))
     refine W.gen 11 rfl ?_
     apply W.regionC tab 7 5; (case hB => kernel_rfl); (case h1 => rfl); (case h2 => rfl)
     refine' ccPu ?p1_15 (ev tab rfl) rfl rfl rfl rfl rfl ?h_15
     case' h_15 => skip
     first | (refine' ccPu ?p1_16 (ev tab rfl) rfl rfl rfl rfl rfl ?h_16) | (refine' ccPu ?p1_16 (loadRow tab rfl rfl rfl rfl) rfl rfl rfl rfl rfl ?h_16) | (refine' ccPu ?p1_16 (loadBox tab rfl rfl rfl rfl rfl) rfl rfl rfl rfl rfl ?h_16)
     case' h_16 => skip
     refine' ccPu0 (ev tab rfl) rfl rfl rfl rfl rfl ?h_17
     case' h_17 => skip
     refine' ccPu ?p1_18 (ev tab rfl) rfl rfl rfl rfl rfl ?h_18
     case' h_18 => skip
     refine' ccPu0 (puI (ev tab rfl) (y := ar + 1) (wrap64 (by omega))) rfl rfl rfl rfl rfl ?h_19
     case' h_19 => skip
     refine' ccX (fun g => ?e_20) rfl rfl rfl ?h_20
     case e_20 =>
      refine callB [0] [] rfl rfl rfl rfl rfl (hv ..) rfl rfl (by rfl) (by rfl) rfl rfl rfl rfl ?_
      refine WO.nil ?_
      exact ⟨rfl, rfl⟩
     case' h_20 => skip
     case p1_15 => exact (ev tab rfl)
     case p1_16 => first | (exact (ev tab rfl)) | (exact (loadRow tab rfl rfl rfl rfl)) | (exact (loadBox tab rfl rfl rfl rfl rfl))
     case p1_18 => exact (ev tab rfl)
     refine ccPu1 (buildV tab rfl rfl rfl rfl rfl rfl rfl rfl rfl) rfl rfl rfl rfl rfl ?_
     refine CC.nil ?_
     refine appendM (fn := JV.c) (a := V.1) tab rfl rfl rfl rfl rfl rfl rfl rfl rfl rfl (fun _ => rfl) (by show (kids.length + 1) * 80 ≤ _; omega) ?_
     refine pE rfl ?_
     refine storeR tab rfl rfl rfl rfl rfl rfl rfl rfl ?_
     refine WO.nil (qs ?_)
     iterate 2 refine W.seq ?_
     refine W.region ?_
     iterate 3 refine pE rfl ?_
     first | refine pE rfl ?_ | refine pR rfl rfl rfl rfl rfl ?_ | refine pB rfl rfl rfl rfl rfl rfl ?_
     iterate 2 refine pE rfl ?_
     refine splitG rfl rfl (fun g96 => ?_) (fun g96 => ?_)
     ·
      refine goG rfl rfl ?_
      refine pE rfl ?_
      refine goG rfl rfl ?_
      refine callB [0] [] rfl rfl rfl rfl rfl ((rpeekS_fn s V.2)) rfl rfl (by rfl) (by rfl) rfl rfl rfl rfl ?_
      refine goG rfl rfl ?_
      refine pE rfl ?_
      refine goG rfl rfl ?_
      iterate 2 refine pE rfl ?_
      refine WO.nil (qs ?_)
      refine condK rfl (fun h101 => ?_) (fun h101 => ?_)
      ·
       rw [if_pos ⟨of_decide_eq_true g96, ceq _ h101⟩] at hI
       have hlt1 := hlt _ (ceq _ h101)
       refine W.seq (W.region ?_)
       iterate 3 refine pE rfl ?_
       first | refine pE rfl ?_ | refine pR rfl rfl rfl rfl rfl ?_ | refine pB rfl rfl rfl rfl rfl rfl ?_
       refine pu (puI (ev tab rfl) (y := ((V.2.1 + 1 : Nat) : Int)) (wrap64 (by omega))) rfl ?_
       iterate 2 refine pE rfl ?_
       refine storeR tab rfl rfl rfl rfl rfl rfl rfl rfl ?_
       refine WO.nil (qs (W.seq (W.region ?_)))
       first | refine pE rfl ?_ | refine pR rfl rfl rfl rfl rfl ?_ | refine pB rfl rfl rfl rfl rfl rfl ?_
       refine storeR tab rfl rfl rfl rfl rfl rfl rfl rfl ?_
       refine WO.nil (qs ?_)
       try refine nilBox 1 3 rfl rfl rfl ?_
       try refine nilBox 1 4 rfl rfl rfl ?_
       refine W.ret (qsRet (qbRet (qlRet (qbRet (qsRet ?_)))))
       refine QB1.end tab [] trivial rfl rfl rfl rfl ?_ ?_
       · first | (rw [hY]; exact ⟨rfl, trivial⟩) | (rw [← hI]; exact ⟨rfl, trivial⟩)
       first | (rw [hY, jvc_gen]; rfl) | (rw [← hI, jvc_gen]; rfl)
      ·
       rw [if_neg (fun q => by first | exact cne _ h101 q.2 | exact of_decide_eq_false g96 q.1)] at hI
       refine W.skip (qs ?_)
       try rw [if_neg (fun q => of_decide_eq_false g96 q.1)] at hI
       refine W.region ?_
       refine pE rfl ?_
       refine callB [0] [] rfl rfl rfl rfl rfl ((rneedS_fn s (B #[44]) V.2 hvl hs (by decide))) rfl rfl (by rfl) (by rfl) rfl rfl rfl rfl ?_
       refine WO.nil (qbN ?_)
       first | (refine W.endR [0, 1, 2, 8, 12] ⟨(k', keys ++ [tx], kids ++ [V.1], stNeed (bys s) [44] V.2), ?_⟩ ?_ rfl ?_ trivial ?_ ⟨rfl, rfl, trivial⟩ rfl) | (refine W.endR [0, 1, 2, 3, 12] ⟨(k', keys, kids ++ [V.1], stNeed (bys s) [44] V.2), ?_⟩ ?_ rfl ?_ trivial ?_ ⟨rfl, rfl, trivial⟩ rfl)
       · exact ⟨by omega, hb (stNeed_le (hb' hvl)), by first | (rw [List.length_append, List.length_singleton]; omega) | omega, by rw [List.length_append, List.length_singleton]; omega, fun h => ⟨har1, by have := stNeed_up (l := bys s) (c := 44) (st := V.2) h; have hle2 := hb (stNeed_le (l := bys s) (w := [44]) (hb' hvl)); show 3 * (s.size - (stNeed (bys s) [44] V.2).1) + 2 ≤ k'; omega⟩, hI⟩
       · dsimp only; omega
       · repeat' first | exact trivial | refine ⟨rfl, ?_⟩ | refine ⟨congrArg some (renL_boxE _ _ _), ?_⟩ | refine ⟨step_nat (by assumption) (by assumption), ?_⟩
       · repeat' first | exact trivial | refine ⟨rfl, ?_⟩ | refine ⟨congrArg some (renL_boxE _ _ _), ?_⟩ | refine ⟨step_nat (by assumption) (by assumption), ?_⟩
     ·
      iterate 4 refine skipT rfl rfl rfl rfl ?_
      refine pE rfl ?_
      refine WO.nil (qs ?_)
      refine W.condF rfl ?_
      refine W.skip (qs ?_)
      try rw [if_neg (fun q => of_decide_eq_false g96 q.1)] at hI
      refine W.region ?_
      refine pE rfl ?_
      refine callB [0] [] rfl rfl rfl rfl rfl ((rneedS_fn s (B #[44]) V.2 hvl hs (by decide))) rfl rfl (by rfl) (by rfl) rfl rfl rfl rfl ?_
      refine WO.nil (qbN ?_)
      first | (refine W.endR [0, 1, 2, 8, 12] ⟨(k', keys ++ [tx], kids ++ [V.1], stNeed (bys s) [44] V.2), ?_⟩ ?_ rfl ?_ trivial ?_ ⟨rfl, rfl, trivial⟩ rfl) | (refine W.endR [0, 1, 2, 3, 12] ⟨(k', keys, kids ++ [V.1], stNeed (bys s) [44] V.2), ?_⟩ ?_ rfl ?_ trivial ?_ ⟨rfl, rfl, trivial⟩ rfl)
      · exact ⟨by omega, hb (stNeed_le (hb' hvl)), by first | (rw [List.length_append, List.length_singleton]; omega) | omega, by rw [List.length_append, List.length_singleton]; omega, fun h => ⟨har1, by have := stNeed_up (l := bys s) (c := 44) (st := V.2) h; have hle2 := hb (stNeed_le (l := bys s) (w := [44]) (hb' hvl)); show 3 * (s.size - (stNeed (bys s) [44] V.2).1) + 2 ≤ k'; omega⟩, hI⟩
      · dsimp only; omega
      · repeat' first | exact trivial | refine ⟨rfl, ?_⟩ | refine ⟨congrArg some (renL_boxE _ _ _), ?_⟩ | refine ⟨step_nat (by assumption) (by assumption), ?_⟩
      · repeat' first | exact trivial | refine ⟨rfl, ?_⟩ | refine ⟨congrArg some (renL_boxE _ _ _), ?_⟩ | refine ⟨step_nat (by assumption) (by assumption), ?_⟩
   ·
    have he : ¬ st.2.2 = 0 := of_decide_eq_false h54
    have hY : Y = (.mk op 0 (B #[]) keys kids, st) := by
     rw [← hI]
     cases k with
     | zero => unfold rloopS; rfl
     | succ k => rw [rloopS_eq, if_neg he]
    refine W.exit (qsExit (qlExit (qbExit (qs (W.seq (W.region ?_))))))
    first | refine pE rfl ?_ | refine pR rfl rfl rfl rfl rfl ?_ | refine pB rfl rfl rfl rfl rfl rfl ?_
    refine storeR tab rfl rfl rfl rfl rfl rfl rfl rfl ?_
    refine WO.nil (qs ?_)
    try refine nilBox 1 3 rfl rfl rfl ?_
    try refine nilBox 1 4 rfl rfl rfl ?_
    refine W.ret ?_
    refine QB1.end tab [] trivial rfl rfl rfl rfl ?_ ?_
    · first | (rw [hY]; exact ⟨rfl, trivial⟩) | (rw [← hI]; exact ⟨rfl, trivial⟩)
    first | (rw [hY, jvc_gen]; rfl) | (rw [← hI, jvc_gen]; rfl)
 ·
  iterate 4 refine skipT rfl rfl rfl rfl ?_
  refine pE rfl ?_
  refine WO.nil (qs ?_)
  refine W.condF rfl ?_
  refine W.skip (qs (W.seq (W.block ?_)))
  try rw [if_neg (fun q => of_decide_eq_false g36 q.1)] at hg
  refine W.gen 6 rfl ?_
  refine ownNilBox 2 3 rfl rfl rfl ?_
  refine ownNilBox 2 4 rfl rfl rfl ?_
  refine W.loopR (ι := {x : Nat × List ByteArray × List JV × RS // match x with | (k, keys, kids, st) => k ≤ K' ∧ st.1 ≤ s.size ∧ keys.length + k ≤ K' ∧ kids.length + k ≤ K' ∧ (st.2.2 = 0 → ar + 1 ≤ 16 ∧ 3 * (s.size - st.1) + 2 ≤ k) ∧ rloopS (bys s) k op c ar keys kids st = Y})
   (fun x => match x.1 with | (k, keys, kids, st) => [(0, .ptr 0 0), (1, .d (.v (.int .i64 op))), (2, .d (.v (.int .u8 c.toNat))), (3, .d (.v (.int .i64 ar))), (8, .ptr 1 0), (9, .ptr 2 0)]) []
   (fun x => match x.1 with | (k, keys, kids, st) => [(0, [.d (cs s), .d (.v (.int .i64 (st.1 : Int))), .d (.v (.int .i64 st.2.1)), .d (.v (.int .i64 st.2.2))]), (2, [.d (ci op), .d (ci 0), .d (cs (B #[])), .own 3 (keys.map sc), .own 4 (kids.map JV.c)])]) [(1, _)] [4, 3] 5 (fun x => match x.1 with | (k, keys, kids, st) => k)
   [0, 1, 2, 6, 7] ⟨(K', [], [], stSp (bys s) (stUp hd)), ?_⟩ rfl ?_ trivial ?_ ⟨rfl, rfl, trivial⟩ rfl ?_
  · exact ⟨Nat.le_refl _, s1, Nat.le_of_eq (Nat.zero_add _), Nat.le_of_eq (Nat.zero_add _), fun h => ⟨hd2 h, by omega⟩, hg.symm⟩
  · repeat' first | exact trivial | refine ⟨rfl, ?_⟩ | refine ⟨congrArg some (renL_boxE _ _ _), ?_⟩ | refine ⟨step_nat (by assumption) (by assumption), ?_⟩
  · repeat' first | exact trivial | refine ⟨rfl, ?_⟩ | refine ⟨congrArg some (renL_boxE _ _ _), ?_⟩ | refine ⟨step_nat (by assumption) (by assumption), ?_⟩
  rintro ⟨⟨k, keys, kids, st⟩, hkK, hst, hkl, hdl, hF, hI⟩
  show W _ _ _ _ _ ⟨[(0, .ptr 0 0), (1, .d (.v (.int .i64 op))), (2, .d (.v (.int .u8 c.toNat))), (3, .d (.v (.int .i64 ar))), (8, .ptr 1 0), (9, .ptr 2 0)], [(0, [.d (cs s), .d (.v (.int .i64 (st.1 : Int))), .d (.v (.int .i64 st.2.1)), .d (.v (.int .i64 st.2.2))]), (2, [.d (ci op), .d (ci 0), .d (cs (B #[])), .own 3 (keys.map sc), .own 4 (kids.map JV.c)]), (1, _)], [4, 3], 5⟩
  iterate 2 refine W.seq ?_
  refine W.region ?_
  iterate 3 refine pE rfl ?_
  first | refine pE rfl ?_ | refine pR rfl rfl rfl rfl rfl ?_ | refine pB rfl rfl rfl rfl rfl rfl ?_
  refine pE rfl ?_
  refine WO.nil (qs ?_)
  refine condK rfl (fun h54 => ?_) (fun h54 => ?_)
  ·
   obtain ⟨j, q, e⟩ := st
   have he : e = 0 := of_decide_eq_true h54
   subst he
   have hj : j ≤ s.size := hst
   obtain ⟨har1, hfu⟩ := hF rfl
   have hfu : 3 * (s.size - j) + 2 ≤ k := hfu
   obtain ⟨k', rfl⟩ : ∃ k', k = k' + 1 := ⟨k - 1, by omega⟩
   rw [rloopS_eq, if_pos rfl] at hI
   have hks1 := hb (rkeyS_le (l := bys s) (op := op) (keys := keys) (st := (j, q, 0)) (hb' hj))
   have hks2 := rkeyS_ge (l := bys s) (op := op) (keys := keys) (st := (j, q, 0)) (hb' hj)
   have hks2 : j ≤ (rkeyS (bys s) op keys (j, q, 0)).2.1 := hks2
   have hle := hb (skipB_le (l := bys s) (i := j) (hb' hj))
   refine W.skip (qs (W.block ?_))
   iterate 2 refine W.seq ?_
   refine W.region ?_
   iterate 2 refine pE rfl ?_
   refine WO.nil (qs ?_)
   refine condK rfl (fun h56 => ?_) (fun h56 => ?_)
   ·
    have hop : op = 6 := of_decide_eq_true h56
    have hT := rstring_fn s (skipB (bys s) j) q hle hs
    have hks : rkeyS (bys s) op keys (j, q, 0) = (keys ++ [strR (textJ (bys s) (skipB (bys s) j))], stNeed (bys s) [58] (stSp (bys s) (stKey (bys s) keys (j, q, 0)))) := by unfold rkeyS; rw [if_pos hop]
    obtain ⟨o2, ho2⟩ : ∃ o2, o2 = stKey (bys s) keys (j, q, 0) := ⟨_, rfl⟩
    have ho2l : o2.1 ≤ s.size := by rw [ho2]; exact hb (stKey_le (hb' hj))
    have ho2e : o2 = if hasB keys (strR (textJ (bys s) (skipB (bys s) j))) = true then stF (outR (textJ (bys s) (skipB (bys s) j)) q) 4 (skipB (bys s) j) else outR (textJ (bys s) (skipB (bys s) j)) q := ho2
    rw [← ho2] at hks
    rw [hks] at hI hks1 hks2
    generalize outR (textJ (bys s) (skipB (bys s) j)) q = o at hT ho2e
    generalize strR (textJ (bys s) (skipB (bys s) j)) = tx at hT ho2e hks hI hks1 hks2
    dsimp only at hI hks1 hks2
    have hv := hV k' (by omega) _ hks1 (fun _ => ⟨har1, by omega⟩)
    have hvl := hb ((places (bys s) k').v (ar + 1) _ (hb' hks1))
    have hvg := (onward (bys s) k').v (ar + 1) _ (hb' hks1)
    generalize rvalS (bys s) k' (ar + 1) (stNeed (bys s) [58] (stSp (bys s) o2)) = V at hI hv hvl hvg
    refine W.seq (W.region ?_)
    refine pE rfl ?_
    refine callB [0] [] rfl rfl rfl rfl rfl ((rspace_fn s j q 0 hj hs)) rfl rfl (by rfl) (by rfl) rfl rfl rfl rfl ?_
    refine WO.nil (qs (W.seq (W.region ?_)))
    iterate 3 refine pE rfl ?_
    first | refine pE rfl ?_ | refine pR rfl rfl rfl rfl rfl ?_ | refine pB rfl rfl rfl rfl rfl rfl ?_
    refine pE rfl ?_
    refine WO.nil (qs (W.seq (W.region ?_)))
    refine pE rfl ?_
    refine callB [0] [] rfl rfl rfl rfl rfl (hT ..) rfl rfl (by rfl) (by rfl) rfl rfl rfl rfl ?_
    refine pE rfl ?_
    refine WO.nil (qs ?_)
    iterate 2 refine W.seq ?_
    refine W.region ?_
    refine pE rfl ?_
    first | refine pE rfl ?_ | refine pR rfl rfl rfl rfl rfl ?_ | refine pB rfl rfl rfl rfl rfl rfl ?_
    refine pE rfl ?_
    refine pu (puCall rfl rfl rfl (has21_fn keys tx) rfl) rfl ?_
    refine WO.nil (qs ?_)
    refine condK rfl (fun h68 => ?_) (fun h68 => ?_)
    ·
     have e : o2 = stF o 4 (skipB (bys s) j : Int) := by rw [ho2e, if_pos (show hasB keys tx = true from h68)]
     subst e
     refine W.region ?_
     iterate 2 refine pE rfl ?_
     refine callB [0] [] rfl rfl rfl rfl rfl ((rfailS_fn s o 4 (skipB (bys s) j : Int))) rfl rfl (by rfl) (by rfl) rfl rfl rfl rfl ?_
     refine WO.nil (qs (W.seq ?_))
     refine W.gen 8 rfl ?_
     refine W.region ?_
     refine pE rfl ?_
     first | refine pE rfl ?_ | refine pR rfl rfl rfl rfl rfl ?_ | refine pB rfl rfl rfl rfl rfl rfl ?_
     refine pE rfl ?_
     refine pu (buildV tab rfl rfl rfl rfl rfl rfl rfl rfl rfl) rfl ?_
     refine appendM (fn := sc) (a := tx) tab rfl rfl rfl rfl rfl rfl rfl rfl rfl rfl (fun _ => rfl) (by show (keys.length + 1) * 16 ≤ _; omega) ?_
     refine pE rfl ?_
     refine storeR tab rfl rfl rfl rfl rfl rfl rfl rfl ?_
     refine WO.nil (qs (W.seq (W.region ?_)))
     refine pE rfl ?_
     refine callB [0] [] rfl rfl rfl rfl rfl ((rspaceS_fn s _ ho2l hs)) rfl rfl (by rfl) (by rfl) rfl rfl rfl rfl ?_
     refine WO.nil (qs (W.region ?_))
     refine pE rfl ?_
     refine callB [0] [] rfl rfl rfl rfl rfl ((rneedS_fn s (B #[58]) _ (hb (stSp_le (hb' ho2l))) hs (by decide))) rfl rfl (by rfl) (by rfl) rfl rfl rfl rfl ?_
     refine WO.nil (qs (W.seq ?_))
     refine W.gen 11 rfl ?_
     apply W.regionC tab 7 5; (case hB => kernel_rfl); (case h1 => rfl); (case h2 => rfl)
     refine' ccPu ?p1_22 (ev tab rfl) rfl rfl rfl rfl rfl ?h_22
     case' h_22 => skip
     first | (refine' ccPu ?p1_23 (ev tab rfl) rfl rfl rfl rfl rfl ?h_23) | (refine' ccPu ?p1_23 (loadRow tab rfl rfl rfl rfl) rfl rfl rfl rfl rfl ?h_23) | (refine' ccPu ?p1_23 (loadBox tab rfl rfl rfl rfl rfl) rfl rfl rfl rfl rfl ?h_23)
     case' h_23 => skip
     refine' ccPu0 (ev tab rfl) rfl rfl rfl rfl rfl ?h_24
     case' h_24 => skip
     refine' ccPu ?p1_25 (ev tab rfl) rfl rfl rfl rfl rfl ?h_25
     case' h_25 => skip
     refine' ccPu0 (puI (ev tab rfl) (y := ar + 1) (wrap64 (by omega))) rfl rfl rfl rfl rfl ?h_26
     case' h_26 => skip
     refine' ccX (fun g => ?e_27) rfl rfl rfl ?h_27
     case e_27 =>
      refine callB [0] [] rfl rfl rfl rfl rfl (hv ..) rfl rfl (by rfl) (by rfl) rfl rfl rfl rfl ?_
      refine WO.nil ?_
      exact ⟨rfl, rfl⟩
     case' h_27 => skip
     case p1_22 => exact (ev tab rfl)
     case p1_23 => first | (exact (ev tab rfl)) | (exact (loadRow tab rfl rfl rfl rfl)) | (exact (loadBox tab rfl rfl rfl rfl rfl))
     case p1_25 => exact (ev tab rfl)
     refine ccPu1 (buildV tab rfl rfl rfl rfl rfl rfl rfl rfl rfl) rfl rfl rfl rfl rfl ?_
     refine CC.nil ?_
     refine appendM (fn := JV.c) (a := V.1) tab rfl rfl rfl rfl rfl rfl rfl rfl rfl rfl (fun _ => rfl) (by show (kids.length + 1) * 80 ≤ _; omega) ?_
     refine pE rfl ?_
     refine storeR tab rfl rfl rfl rfl rfl rfl rfl rfl ?_
     refine WO.nil (qs ?_)
     iterate 2 refine W.seq ?_
     refine W.region ?_
     iterate 3 refine pE rfl ?_
     first | refine pE rfl ?_ | refine pR rfl rfl rfl rfl rfl ?_ | refine pB rfl rfl rfl rfl rfl rfl ?_
     iterate 2 refine pE rfl ?_
     refine splitG rfl rfl (fun g96 => ?_) (fun g96 => ?_)
     ·
      refine goG rfl rfl ?_
      refine pE rfl ?_
      refine goG rfl rfl ?_
      refine callB [0] [] rfl rfl rfl rfl rfl ((rpeekS_fn s V.2)) rfl rfl (by rfl) (by rfl) rfl rfl rfl rfl ?_
      refine goG rfl rfl ?_
      refine pE rfl ?_
      refine goG rfl rfl ?_
      iterate 2 refine pE rfl ?_
      refine WO.nil (qs ?_)
      refine condK rfl (fun h101 => ?_) (fun h101 => ?_)
      ·
       rw [if_pos ⟨of_decide_eq_true g96, ceq _ h101⟩] at hI
       have hlt1 := hlt _ (ceq _ h101)
       refine W.seq (W.region ?_)
       iterate 3 refine pE rfl ?_
       first | refine pE rfl ?_ | refine pR rfl rfl rfl rfl rfl ?_ | refine pB rfl rfl rfl rfl rfl rfl ?_
       refine pu (puI (ev tab rfl) (y := ((V.2.1 + 1 : Nat) : Int)) (wrap64 (by omega))) rfl ?_
       iterate 2 refine pE rfl ?_
       refine storeR tab rfl rfl rfl rfl rfl rfl rfl rfl ?_
       refine WO.nil (qs (W.seq (W.region ?_)))
       first | refine pE rfl ?_ | refine pR rfl rfl rfl rfl rfl ?_ | refine pB rfl rfl rfl rfl rfl rfl ?_
       refine storeR tab rfl rfl rfl rfl rfl rfl rfl rfl ?_
       refine WO.nil (qs ?_)
       try refine nilBox 1 3 rfl rfl rfl ?_
       try refine nilBox 1 4 rfl rfl rfl ?_
       refine W.ret (qsRet (qbRet (qlRet (qbRet (qsRet ?_)))))
       refine QB1.end tab [] trivial rfl rfl rfl rfl ?_ ?_
       · first | (rw [hY]; exact ⟨rfl, trivial⟩) | (rw [← hI]; exact ⟨rfl, trivial⟩)
       first | (rw [hY, jvc_gen]; rfl) | (rw [← hI, jvc_gen]; rfl)
      ·
       rw [if_neg (fun q => by first | exact cne _ h101 q.2 | exact of_decide_eq_false g96 q.1)] at hI
       refine W.skip (qs ?_)
       try rw [if_neg (fun q => of_decide_eq_false g96 q.1)] at hI
       refine W.region ?_
       refine pE rfl ?_
       refine callB [0] [] rfl rfl rfl rfl rfl ((rneedS_fn s (B #[44]) V.2 hvl hs (by decide))) rfl rfl (by rfl) (by rfl) rfl rfl rfl rfl ?_
       refine WO.nil (qbN ?_)
       first | (refine W.endR [0, 1, 2, 8, 12] ⟨(k', keys ++ [tx], kids ++ [V.1], stNeed (bys s) [44] V.2), ?_⟩ ?_ rfl ?_ trivial ?_ ⟨rfl, rfl, trivial⟩ rfl) | (refine W.endR [0, 1, 2, 3, 12] ⟨(k', keys, kids ++ [V.1], stNeed (bys s) [44] V.2), ?_⟩ ?_ rfl ?_ trivial ?_ ⟨rfl, rfl, trivial⟩ rfl)
       · exact ⟨by omega, hb (stNeed_le (hb' hvl)), by first | (rw [List.length_append, List.length_singleton]; omega) | omega, by rw [List.length_append, List.length_singleton]; omega, fun h => ⟨har1, by have := stNeed_up (l := bys s) (c := 44) (st := V.2) h; have hle2 := hb (stNeed_le (l := bys s) (w := [44]) (hb' hvl)); show 3 * (s.size - (stNeed (bys s) [44] V.2).1) + 2 ≤ k'; omega⟩, hI⟩
       · dsimp only; omega
       · repeat' first | exact trivial | refine ⟨rfl, ?_⟩ | refine ⟨congrArg some (renL_boxE _ _ _), ?_⟩ | refine ⟨step_nat (by assumption) (by assumption), ?_⟩
       · repeat' first | exact trivial | refine ⟨rfl, ?_⟩ | refine ⟨congrArg some (renL_boxE _ _ _), ?_⟩ | refine ⟨step_nat (by assumption) (by assumption), ?_⟩
     ·
      iterate 4 refine skipT rfl rfl rfl rfl ?_
      refine pE rfl ?_
      refine WO.nil (qs ?_)
      refine W.condF rfl ?_
      refine W.skip (qs ?_)
      try rw [if_neg (fun q => of_decide_eq_false g96 q.1)] at hI
      refine W.region ?_
      refine pE rfl ?_
      refine callB [0] [] rfl rfl rfl rfl rfl ((rneedS_fn s (B #[44]) V.2 hvl hs (by decide))) rfl rfl (by rfl) (by rfl) rfl rfl rfl rfl ?_
      refine WO.nil (qbN ?_)
      first | (refine W.endR [0, 1, 2, 8, 12] ⟨(k', keys ++ [tx], kids ++ [V.1], stNeed (bys s) [44] V.2), ?_⟩ ?_ rfl ?_ trivial ?_ ⟨rfl, rfl, trivial⟩ rfl) | (refine W.endR [0, 1, 2, 3, 12] ⟨(k', keys, kids ++ [V.1], stNeed (bys s) [44] V.2), ?_⟩ ?_ rfl ?_ trivial ?_ ⟨rfl, rfl, trivial⟩ rfl)
      · exact ⟨by omega, hb (stNeed_le (hb' hvl)), by first | (rw [List.length_append, List.length_singleton]; omega) | omega, by rw [List.length_append, List.length_singleton]; omega, fun h => ⟨har1, by have := stNeed_up (l := bys s) (c := 44) (st := V.2) h; have hle2 := hb (stNeed_le (l := bys s) (w := [44]) (hb' hvl)); show 3 * (s.size - (stNeed (bys s) [44] V.2).1) + 2 ≤ k'; omega⟩, hI⟩
      · dsimp only; omega
      · repeat' first | exact trivial | refine ⟨rfl, ?_⟩ | refine ⟨congrArg some (renL_boxE _ _ _), ?_⟩ | refine ⟨step_nat (by assumption) (by assumption), ?_⟩
      · repeat' first | exact trivial | refine ⟨rfl, ?_⟩ | refine ⟨congrArg some (renL_boxE _ _ _), ?_⟩ | refine ⟨step_nat (by assumption) (by assumption), ?_⟩
    ·
     have e : o2 = o := by rw [ho2e, if_neg (by show ¬ hasB keys tx = true; rw [show hasB keys tx = false from h68]; decide)]
     subst e
     refine W.skip (qs (W.seq ?_))
     refine W.gen 8 rfl ?_
     refine W.region ?_
     refine pE rfl ?_
     first | refine pE rfl ?_ | refine pR rfl rfl rfl rfl rfl ?_ | refine pB rfl rfl rfl rfl rfl rfl ?_
     refine pE rfl ?_
     refine pu (buildV tab rfl rfl rfl rfl rfl rfl rfl rfl rfl) rfl ?_
     refine appendM (fn := sc) (a := tx) tab rfl rfl rfl rfl rfl rfl rfl rfl rfl rfl (fun _ => rfl) (by show (keys.length + 1) * 16 ≤ _; omega) ?_
     refine pE rfl ?_
     refine storeR tab rfl rfl rfl rfl rfl rfl rfl rfl ?_
     refine WO.nil (qs (W.seq (W.region ?_)))
     refine pE rfl ?_
     refine callB [0] [] rfl rfl rfl rfl rfl ((rspaceS_fn s _ ho2l hs)) rfl rfl (by rfl) (by rfl) rfl rfl rfl rfl ?_
     refine WO.nil (qs (W.region ?_))
     refine pE rfl ?_
     refine callB [0] [] rfl rfl rfl rfl rfl ((rneedS_fn s (B #[58]) _ (hb (stSp_le (hb' ho2l))) hs (by decide))) rfl rfl (by rfl) (by rfl) rfl rfl rfl rfl ?_
     refine WO.nil (qs (W.seq ?_))
     refine W.gen 11 rfl ?_
     apply W.regionC tab 7 5; (case hB => kernel_rfl); (case h1 => rfl); (case h2 => rfl)
     refine' ccPu ?p1_29 (ev tab rfl) rfl rfl rfl rfl rfl ?h_29
     case' h_29 => skip
     first | (refine' ccPu ?p1_30 (ev tab rfl) rfl rfl rfl rfl rfl ?h_30) | (refine' ccPu ?p1_30 (loadRow tab rfl rfl rfl rfl) rfl rfl rfl rfl rfl ?h_30) | (refine' ccPu ?p1_30 (loadBox tab rfl rfl rfl rfl rfl) rfl rfl rfl rfl rfl ?h_30)
     case' h_30 => skip
     refine' ccPu0 (ev tab rfl) rfl rfl rfl rfl rfl ?h_31
     case' h_31 => skip
     refine' ccPu ?p1_32 (ev tab rfl) rfl rfl rfl rfl rfl ?h_32
     case' h_32 => skip
     refine' ccPu0 (puI (ev tab rfl) (y := ar + 1) (wrap64 (by omega))) rfl rfl rfl rfl rfl ?h_33
     case' h_33 => skip
     refine' ccX (fun g => ?e_34) rfl rfl rfl ?h_34
     case e_34 =>
      refine callB [0] [] rfl rfl rfl rfl rfl (hv ..) rfl rfl (by rfl) (by rfl) rfl rfl rfl rfl ?_
      refine WO.nil ?_
      exact ⟨rfl, rfl⟩
     case' h_34 => skip
     case p1_29 => exact (ev tab rfl)
     case p1_30 => first | (exact (ev tab rfl)) | (exact (loadRow tab rfl rfl rfl rfl)) | (exact (loadBox tab rfl rfl rfl rfl rfl))
     case p1_32 => exact (ev tab rfl)
     refine ccPu1 (buildV tab rfl rfl rfl rfl rfl rfl rfl rfl rfl) rfl rfl rfl rfl rfl ?_
     refine CC.nil ?_
     refine appendM (fn := JV.c) (a := V.1) tab rfl rfl rfl rfl rfl rfl rfl rfl rfl rfl (fun _ => rfl) (by show (kids.length + 1) * 80 ≤ _; omega) ?_
     refine pE rfl ?_
     refine storeR tab rfl rfl rfl rfl rfl rfl rfl rfl ?_
     refine WO.nil (qs ?_)
     iterate 2 refine W.seq ?_
     refine W.region ?_
     iterate 3 refine pE rfl ?_
     first | refine pE rfl ?_ | refine pR rfl rfl rfl rfl rfl ?_ | refine pB rfl rfl rfl rfl rfl rfl ?_
     iterate 2 refine pE rfl ?_
     refine splitG rfl rfl (fun g96 => ?_) (fun g96 => ?_)
     ·
      refine goG rfl rfl ?_
      refine pE rfl ?_
      refine goG rfl rfl ?_
      refine callB [0] [] rfl rfl rfl rfl rfl ((rpeekS_fn s V.2)) rfl rfl (by rfl) (by rfl) rfl rfl rfl rfl ?_
      refine goG rfl rfl ?_
      refine pE rfl ?_
      refine goG rfl rfl ?_
      iterate 2 refine pE rfl ?_
      refine WO.nil (qs ?_)
      refine condK rfl (fun h101 => ?_) (fun h101 => ?_)
      ·
       rw [if_pos ⟨of_decide_eq_true g96, ceq _ h101⟩] at hI
       have hlt1 := hlt _ (ceq _ h101)
       refine W.seq (W.region ?_)
       iterate 3 refine pE rfl ?_
       first | refine pE rfl ?_ | refine pR rfl rfl rfl rfl rfl ?_ | refine pB rfl rfl rfl rfl rfl rfl ?_
       refine pu (puI (ev tab rfl) (y := ((V.2.1 + 1 : Nat) : Int)) (wrap64 (by omega))) rfl ?_
       iterate 2 refine pE rfl ?_
       refine storeR tab rfl rfl rfl rfl rfl rfl rfl rfl ?_
       refine WO.nil (qs (W.seq (W.region ?_)))
       first | refine pE rfl ?_ | refine pR rfl rfl rfl rfl rfl ?_ | refine pB rfl rfl rfl rfl rfl rfl ?_
       refine storeR tab rfl rfl rfl rfl rfl rfl rfl rfl ?_
       refine WO.nil (qs ?_)
       try refine nilBox 1 3 rfl rfl rfl ?_
       try refine nilBox 1 4 rfl rfl rfl ?_
       refine W.ret (qsRet (qbRet (qlRet (qbRet (qsRet ?_)))))
       refine QB1.end tab [] trivial rfl rfl rfl rfl ?_ ?_
       · first | (rw [hY]; exact ⟨rfl, trivial⟩) | (rw [← hI]; exact ⟨rfl, trivial⟩)
       first | (rw [hY, jvc_gen]; rfl) | (rw [← hI, jvc_gen]; rfl)
      ·
       rw [if_neg (fun q => by first | exact cne _ h101 q.2 | exact of_decide_eq_false g96 q.1)] at hI
       refine W.skip (qs ?_)
       try rw [if_neg (fun q => of_decide_eq_false g96 q.1)] at hI
       refine W.region ?_
       refine pE rfl ?_
       refine callB [0] [] rfl rfl rfl rfl rfl ((rneedS_fn s (B #[44]) V.2 hvl hs (by decide))) rfl rfl (by rfl) (by rfl) rfl rfl rfl rfl ?_
       refine WO.nil (qbN ?_)
       first | (refine W.endR [0, 1, 2, 8, 12] ⟨(k', keys ++ [tx], kids ++ [V.1], stNeed (bys s) [44] V.2), ?_⟩ ?_ rfl ?_ trivial ?_ ⟨rfl, rfl, trivial⟩ rfl) | (refine W.endR [0, 1, 2, 3, 12] ⟨(k', keys, kids ++ [V.1], stNeed (bys s) [44] V.2), ?_⟩ ?_ rfl ?_ trivial ?_ ⟨rfl, rfl, trivial⟩ rfl)
       · exact ⟨by omega, hb (stNeed_le (hb' hvl)), by first | (rw [List.length_append, List.length_singleton]; omega) | omega, by rw [List.length_append, List.length_singleton]; omega, fun h => ⟨har1, by have := stNeed_up (l := bys s) (c := 44) (st := V.2) h; have hle2 := hb (stNeed_le (l := bys s) (w := [44]) (hb' hvl)); show 3 * (s.size - (stNeed (bys s) [44] V.2).1) + 2 ≤ k'; omega⟩, hI⟩
       · dsimp only; omega
       · repeat' first | exact trivial | refine ⟨rfl, ?_⟩ | refine ⟨congrArg some (renL_boxE _ _ _), ?_⟩ | refine ⟨step_nat (by assumption) (by assumption), ?_⟩
       · repeat' first | exact trivial | refine ⟨rfl, ?_⟩ | refine ⟨congrArg some (renL_boxE _ _ _), ?_⟩ | refine ⟨step_nat (by assumption) (by assumption), ?_⟩
     ·
      iterate 4 refine skipT rfl rfl rfl rfl ?_
      refine pE rfl ?_
      refine WO.nil (qs ?_)
      refine W.condF rfl ?_
      refine W.skip (qs ?_)
      try rw [if_neg (fun q => of_decide_eq_false g96 q.1)] at hI
      refine W.region ?_
      refine pE rfl ?_
      refine callB [0] [] rfl rfl rfl rfl rfl ((rneedS_fn s (B #[44]) V.2 hvl hs (by decide))) rfl rfl (by rfl) (by rfl) rfl rfl rfl rfl ?_
      refine WO.nil (qbN ?_)
      first | (refine W.endR [0, 1, 2, 8, 12] ⟨(k', keys ++ [tx], kids ++ [V.1], stNeed (bys s) [44] V.2), ?_⟩ ?_ rfl ?_ trivial ?_ ⟨rfl, rfl, trivial⟩ rfl) | (refine W.endR [0, 1, 2, 3, 12] ⟨(k', keys, kids ++ [V.1], stNeed (bys s) [44] V.2), ?_⟩ ?_ rfl ?_ trivial ?_ ⟨rfl, rfl, trivial⟩ rfl)
      · exact ⟨by omega, hb (stNeed_le (hb' hvl)), by first | (rw [List.length_append, List.length_singleton]; omega) | omega, by rw [List.length_append, List.length_singleton]; omega, fun h => ⟨har1, by have := stNeed_up (l := bys s) (c := 44) (st := V.2) h; have hle2 := hb (stNeed_le (l := bys s) (w := [44]) (hb' hvl)); show 3 * (s.size - (stNeed (bys s) [44] V.2).1) + 2 ≤ k'; omega⟩, hI⟩
      · dsimp only; omega
      · repeat' first | exact trivial | refine ⟨rfl, ?_⟩ | refine ⟨congrArg some (renL_boxE _ _ _), ?_⟩ | refine ⟨step_nat (by assumption) (by assumption), ?_⟩
      · repeat' first | exact trivial | refine ⟨rfl, ?_⟩ | refine ⟨congrArg some (renL_boxE _ _ _), ?_⟩ | refine ⟨step_nat (by assumption) (by assumption), ?_⟩
   ·
    have hop : ¬ op = 6 := of_decide_eq_false h56
    have hks : rkeyS (bys s) op keys (j, q, 0) = (keys, (j, q, 0)) := by unfold rkeyS; rw [if_neg hop]
    rw [hks] at hI hks1 hks2
    dsimp only at hI hks1 hks2
    have hv := hV k' (by omega) (j, q, 0) hks1 (fun _ => ⟨har1, by show 3 * (s.size - j) + 1 ≤ k'; omega⟩)
    have hvl := hb ((places (bys s) k').v (ar + 1) (j, q, 0) (hb' hks1))
    have hvg := (onward (bys s) k').v (ar + 1) (j, q, 0) (hb' hks1)
    have hvg : j ≤ (rvalS (bys s) k' (ar + 1) (j, q, 0)).2.1 := hvg
    generalize rvalS (bys s) k' (ar + 1) (j, q, 0) = V at hI hv hvl hvg
    refine W.skip (qs (W.seq ?_))
    refine W.gen 11 rfl ?_
    apply W.regionC tab 7 5; (case hB => kernel_rfl); (case h1 => rfl); (case h2 => rfl)
    refine' ccPu ?p1_36 (ev tab rfl) rfl rfl rfl rfl rfl ?h_36
    case' h_36 => skip
    first | (refine' ccPu ?p1_37 (ev tab rfl) rfl rfl rfl rfl rfl ?h_37) | (refine' ccPu ?p1_37 (loadRow tab rfl rfl rfl rfl) rfl rfl rfl rfl rfl ?h_37) | (refine' ccPu ?p1_37 (loadBox tab rfl rfl rfl rfl rfl) rfl rfl rfl rfl rfl ?h_37)
    case' h_37 => skip
    refine' ccPu0 (ev tab rfl) rfl rfl rfl rfl rfl ?h_38
    case' h_38 => skip
    refine' ccPu ?p1_39 (ev tab rfl) rfl rfl rfl rfl rfl ?h_39
    case' h_39 => skip
    refine' ccPu0 (puI (ev tab rfl) (y := ar + 1) (wrap64 (by omega))) rfl rfl rfl rfl rfl ?h_40
    case' h_40 => skip
    refine' ccX (fun g => ?e_41) rfl rfl rfl ?h_41
    case e_41 =>
     refine callB [0] [] rfl rfl rfl rfl rfl (hv ..) rfl rfl (by rfl) (by rfl) rfl rfl rfl rfl ?_
     refine WO.nil ?_
     exact ⟨rfl, rfl⟩
    case' h_41 => skip
    case p1_36 => exact (ev tab rfl)
    case p1_37 => first | (exact (ev tab rfl)) | (exact (loadRow tab rfl rfl rfl rfl)) | (exact (loadBox tab rfl rfl rfl rfl rfl))
    case p1_39 => exact (ev tab rfl)
    refine ccPu1 (buildV tab rfl rfl rfl rfl rfl rfl rfl rfl rfl) rfl rfl rfl rfl rfl ?_
    refine CC.nil ?_
    refine appendM (fn := JV.c) (a := V.1) tab rfl rfl rfl rfl rfl rfl rfl rfl rfl rfl (fun _ => rfl) (by show (kids.length + 1) * 80 ≤ _; omega) ?_
    refine pE rfl ?_
    refine storeR tab rfl rfl rfl rfl rfl rfl rfl rfl ?_
    refine WO.nil (qs ?_)
    iterate 2 refine W.seq ?_
    refine W.region ?_
    iterate 3 refine pE rfl ?_
    first | refine pE rfl ?_ | refine pR rfl rfl rfl rfl rfl ?_ | refine pB rfl rfl rfl rfl rfl rfl ?_
    iterate 2 refine pE rfl ?_
    refine splitG rfl rfl (fun g96 => ?_) (fun g96 => ?_)
    ·
     refine goG rfl rfl ?_
     refine pE rfl ?_
     refine goG rfl rfl ?_
     refine callB [0] [] rfl rfl rfl rfl rfl ((rpeekS_fn s V.2)) rfl rfl (by rfl) (by rfl) rfl rfl rfl rfl ?_
     refine goG rfl rfl ?_
     refine pE rfl ?_
     refine goG rfl rfl ?_
     iterate 2 refine pE rfl ?_
     refine WO.nil (qs ?_)
     refine condK rfl (fun h101 => ?_) (fun h101 => ?_)
     ·
      rw [if_pos ⟨of_decide_eq_true g96, ceq _ h101⟩] at hI
      have hlt1 := hlt _ (ceq _ h101)
      refine W.seq (W.region ?_)
      iterate 3 refine pE rfl ?_
      first | refine pE rfl ?_ | refine pR rfl rfl rfl rfl rfl ?_ | refine pB rfl rfl rfl rfl rfl rfl ?_
      refine pu (puI (ev tab rfl) (y := ((V.2.1 + 1 : Nat) : Int)) (wrap64 (by omega))) rfl ?_
      iterate 2 refine pE rfl ?_
      refine storeR tab rfl rfl rfl rfl rfl rfl rfl rfl ?_
      refine WO.nil (qs (W.seq (W.region ?_)))
      first | refine pE rfl ?_ | refine pR rfl rfl rfl rfl rfl ?_ | refine pB rfl rfl rfl rfl rfl rfl ?_
      refine storeR tab rfl rfl rfl rfl rfl rfl rfl rfl ?_
      refine WO.nil (qs ?_)
      try refine nilBox 1 3 rfl rfl rfl ?_
      try refine nilBox 1 4 rfl rfl rfl ?_
      refine W.ret (qsRet (qbRet (qlRet (qbRet (qsRet ?_)))))
      refine QB1.end tab [] trivial rfl rfl rfl rfl ?_ ?_
      · first | (rw [hY]; exact ⟨rfl, trivial⟩) | (rw [← hI]; exact ⟨rfl, trivial⟩)
      first | (rw [hY, jvc_gen]; rfl) | (rw [← hI, jvc_gen]; rfl)
     ·
      rw [if_neg (fun q => by first | exact cne _ h101 q.2 | exact of_decide_eq_false g96 q.1)] at hI
      refine W.skip (qs ?_)
      try rw [if_neg (fun q => of_decide_eq_false g96 q.1)] at hI
      refine W.region ?_
      refine pE rfl ?_
      refine callB [0] [] rfl rfl rfl rfl rfl ((rneedS_fn s (B #[44]) V.2 hvl hs (by decide))) rfl rfl (by rfl) (by rfl) rfl rfl rfl rfl ?_
      refine WO.nil (qbN ?_)
      first | (refine W.endR [0, 1, 2, 8, 12] ⟨(k', keys ++ [tx], kids ++ [V.1], stNeed (bys s) [44] V.2), ?_⟩ ?_ rfl ?_ trivial ?_ ⟨rfl, rfl, trivial⟩ rfl) | (refine W.endR [0, 1, 2, 3, 12] ⟨(k', keys, kids ++ [V.1], stNeed (bys s) [44] V.2), ?_⟩ ?_ rfl ?_ trivial ?_ ⟨rfl, rfl, trivial⟩ rfl)
      · exact ⟨by omega, hb (stNeed_le (hb' hvl)), by first | (rw [List.length_append, List.length_singleton]; omega) | omega, by rw [List.length_append, List.length_singleton]; omega, fun h => ⟨har1, by have := stNeed_up (l := bys s) (c := 44) (st := V.2) h; have hle2 := hb (stNeed_le (l := bys s) (w := [44]) (hb' hvl)); show 3 * (s.size - (stNeed (bys s) [44] V.2).1) + 2 ≤ k'; omega⟩, hI⟩
      · dsimp only; omega
      · repeat' first | exact trivial | refine ⟨rfl, ?_⟩ | refine ⟨congrArg some (renL_boxE _ _ _), ?_⟩ | refine ⟨step_nat (by assumption) (by assumption), ?_⟩
      · repeat' first | exact trivial | refine ⟨rfl, ?_⟩ | refine ⟨congrArg some (renL_boxE _ _ _), ?_⟩ | refine ⟨step_nat (by assumption) (by assumption), ?_⟩
    ·
     iterate 4 refine skipT rfl rfl rfl rfl ?_
     refine pE rfl ?_
     refine WO.nil (qs ?_)
     refine W.condF rfl ?_
     refine W.skip (qs ?_)
     try rw [if_neg (fun q => of_decide_eq_false g96 q.1)] at hI
     refine W.region ?_
     refine pE rfl ?_
     refine callB [0] [] rfl rfl rfl rfl rfl ((rneedS_fn s (B #[44]) V.2 hvl hs (by decide))) rfl rfl (by rfl) (by rfl) rfl rfl rfl rfl ?_
     refine WO.nil (qbN ?_)
     first | (refine W.endR [0, 1, 2, 8, 12] ⟨(k', keys ++ [tx], kids ++ [V.1], stNeed (bys s) [44] V.2), ?_⟩ ?_ rfl ?_ trivial ?_ ⟨rfl, rfl, trivial⟩ rfl) | (refine W.endR [0, 1, 2, 3, 12] ⟨(k', keys, kids ++ [V.1], stNeed (bys s) [44] V.2), ?_⟩ ?_ rfl ?_ trivial ?_ ⟨rfl, rfl, trivial⟩ rfl)
     · exact ⟨by omega, hb (stNeed_le (hb' hvl)), by first | (rw [List.length_append, List.length_singleton]; omega) | omega, by rw [List.length_append, List.length_singleton]; omega, fun h => ⟨har1, by have := stNeed_up (l := bys s) (c := 44) (st := V.2) h; have hle2 := hb (stNeed_le (l := bys s) (w := [44]) (hb' hvl)); show 3 * (s.size - (stNeed (bys s) [44] V.2).1) + 2 ≤ k'; omega⟩, hI⟩
     · dsimp only; omega
     · repeat' first | exact trivial | refine ⟨rfl, ?_⟩ | refine ⟨congrArg some (renL_boxE _ _ _), ?_⟩ | refine ⟨step_nat (by assumption) (by assumption), ?_⟩
     · repeat' first | exact trivial | refine ⟨rfl, ?_⟩ | refine ⟨congrArg some (renL_boxE _ _ _), ?_⟩ | refine ⟨step_nat (by assumption) (by assumption), ?_⟩
  ·
   have he : ¬ st.2.2 = 0 := of_decide_eq_false h54
   have hY : Y = (.mk op 0 (B #[]) keys kids, st) := by
    rw [← hI]
    cases k with
    | zero => unfold rloopS; rfl
    | succ k => rw [rloopS_eq, if_neg he]
   refine W.exit (qsExit (qlExit (qbExit (qs (W.seq (W.region ?_))))))
   first | refine pE rfl ?_ | refine pR rfl rfl rfl rfl rfl ?_ | refine pB rfl rfl rfl rfl rfl rfl ?_
   refine storeR tab rfl rfl rfl rfl rfl rfl rfl rfl ?_
   refine WO.nil (qs ?_)
   try refine nilBox 1 3 rfl rfl rfl ?_
   try refine nilBox 1 4 rfl rfl rfl ?_
   refine W.ret ?_
   refine QB1.end tab [] trivial rfl rfl rfl rfl ?_ ?_
   · first | (rw [hY]; exact ⟨rfl, trivial⟩) | (rw [← hI]; exact ⟨rfl, trivial⟩)
   first | (rw [hY, jvc_gen]; rfl) | (rw [← hI, jvc_gen]; rfl)
end Go.Proofs.YtllkpgnpioojjaaDoor
namespace Go.Proofs.YtllkpgnpioojjaaDoor
open Go.Ab Go.Tb
set_option maxRecDepth 10000
attribute [local irreducible] W WO Pu QS QB QL QF QV QV1 CH QE
theorem rval_err (l : List UInt8) (k : Nat) (ar : Int) (st : RS) (h : ¬ st.2.2 = 0) : rvalS l k ar st = (zeroJ, st) := by
 cases k with
 | zero => unfold rvalS; rfl
 | succ k => rw [rvalS_eq, if_neg h]
theorem rvalue_all (s : ByteArray) (hs : s.size ≤ 1000000000) : ∀ K, K ≤ 4000000000 → ∀ k, k < K → ∀ (ar : Int) (st : RS), 0 ≤ ar → ar ≤ 17 → st.1 ≤ s.size → (st.2.2 = 0 → ar ≤ 16 ∧ 3 * (s.size - st.1) + 1 ≤ k) →
  DoesB Tryd.prog 35 [.ptr 0 0, .d (.v (.int .i64 ar))] [rst s st] 0 (.ag (rvalS (bys s) k ar st).1.c) [rst s (rvalS (bys s) k ar st).2] 0
 | 0, _, k, hk, _, _, _, _, _, _ => by omega
 | K + 1, hKb, k, hk, ar, st, h0, h17, hi, hf => by
  have key : ∀ k', k' ≤ K → (st.2.2 = 0 → ar ≤ 16 ∧ 3 * (s.size - st.1) + 1 ≤ k' + 1) → DoesB Tryd.prog 35 [.ptr 0 0, .d (.v (.int .i64 ar))] [rst s st] 0 (.ag (rvalS (bys s) (k' + 1) ar st).1.c) [rst s (rvalS (bys s) (k' + 1) ar st).2] 0 := by
   intro k' hk' hf'
   have hstep : ∀ (op : Int) (c : UInt8) (hc : c ≠ 0) (i : Nat) (p : Int), i < s.size → st.1 ≤ i → st.2.2 = 0 → DoesB Tryd.prog 61 [.ptr 0 0, .d (.v (.int .i64 op)), .d (.v (.int .u8 c.toNat)), .d (.v (.int .i64 ar))] [rbox s i p 0] 0 (.ag (rlistS (bys s) k' op c ar (i, p, 0)).1.c) [rst s (rlistS (bys s) k' op c ar (i, p, 0)).2] 0 := by
    intro op c hc i p h1 h2 h3
    obtain ⟨h4, h5⟩ := hf' h3
    refine rlist_step s k' hs (by omega) ar ⟨h0, by omega⟩ (fun k2 hk2 st2 hi2 hf2 => ?_) op c hc i p h1 (by omega) (by omega)
    exact rvalue_all s hs K (by omega) k2 (by omega) (ar + 1) st2 (by omega) (by omega) hi2 hf2
   exact rvalue_step s k' hs ar st hi (fun i p h1 _ h2 h3 => hstep 5 93 (by decide) i p h1 h2 h3) (fun i p h1 _ h2 h3 => hstep 6 125 (by decide) i p h1 h2 h3)
  cases k with
  | zero =>
   have he : ¬ st.2.2 = 0 := fun h => by have := (hf h).2; omega
   have h1 := key 0 (Nat.zero_le _) (fun h => absurd h he)
   rw [rval_err _ _ _ _ he] at h1 ⊢
   exact h1
  | succ k' => exact key k' (by omega) hf
def rres (s : ByteArray) : JV × RS := rvalS (bys s) (3 * s.size + 1) 0 (0, 0, 0)
def rend (s : ByteArray) (o : RS) : RS := if o.2.2 = 0 ∧ o.1 < s.size then stF o 10 (o.1 : Int) else o
def rparsed (s : ByteArray) : JV × Int × Int := if 65536 < s.size then (zeroJ, 0, 7) else if (rend s (rres s).2).2.2 = 0 then ((rres s).1, 0, 0) else (zeroJ, (rend s (rres s).2).2.1, (rend s (rres s).2).2.2)
theorem rparse_fn (s : ByteArray) : Does Tryd.prog 20 [.d (.v (.string s))] (.tup [.ag (rparsed s).1.c, .d (ci (rparsed s).2.1), .d (ci (rparsed s).2.2)]) 0 := by
 refine Does.of_V tab (n := 51) (rs := [.cell 2 26, .tmp 3, .tmp 4]) Tryd.func20 (by kernel_rfl) rfl Tryd.ntmps20 Tryd.results20 rfl fun C hC hG => ?_
 refine W.seq (W.region ?_)
 refine allocR tab rfl rfl rfl ?_
 iterate 2 refine pE rfl ?_
 refine WO.nil (qs ?_)
 iterate 2 refine W.seq ?_
 refine W.region ?_
 iterate 3 refine pE rfl ?_
 refine WO.nil (qs ?_)
 refine condK rfl (fun h9 => ?_) (fun h9 => ?_)
 ·
  have hg : rparsed s = (zeroJ, 0, 7) := by unfold rparsed; rw [if_pos (by simp at h9; omega)]
  refine W.seq (W.region ?_)
  refine pu (build tab rfl rfl rfl rfl) rfl ?_
  try refine nilO 10 rfl rfl rfl ?_
  refine storeR tab rfl rfl rfl rfl rfl rfl rfl rfl ?_
  iterate 2 refine pE rfl ?_
  refine WO.nil (qs ?_)
  try refine nilBox 0 3 rfl rfl rfl ?_
  try refine nilBox 0 4 rfl rfl rfl ?_
  refine W.ret (qsRet ?_)
  refine QV.ret0 tab trivial rfl ?_
  rw [hg]
  rfl
 ·
  have hs : ¬ 65536 < s.size := by simp at h9; omega
  have hg : rparsed s = if (rend s (rres s).2).2.2 = 0 then ((rres s).1, 0, 0) else (zeroJ, (rend s (rres s).2).2.1, (rend s (rres s).2).2.2) := by unfold rparsed; rw [if_neg hs]
  have hv := rvalue_all s (by omega) (3 * s.size + 2) (by omega) (3 * s.size + 1) (by omega) 0 (0, 0, 0) (by decide) (by decide) (Nat.zero_le _) (fun _ => ⟨by decide, by show 3 * (s.size - 0) + 1 ≤ _; omega⟩)
  have hv : DoesB Tryd.prog 35 [.ptr 0 0, .d (.v (.int .i64 0))] [rbox s 0 0 0] 0 (.ag (rres s).1.c) [rst s (rres s).2] 0 := hv
  generalize rres s = R at hg hv
  obtain ⟨v, o⟩ := R
  dsimp only at hg
  refine W.skip (qs (W.seq (W.region ?_)))
  refine pE rfl ?_
  refine pu (build tab rfl rfl rfl rfl) rfl ?_
  try refine nilO 12 rfl rfl rfl ?_
  refine boxR rfl rfl rfl ?_
  refine pE rfl ?_
  refine WO.nil (qs (W.seq (W.region ?_)))
  refine pE rfl ?_
  refine callB [1] [] rfl rfl rfl rfl rfl (hv ..) rfl rfl (by rfl) (by rfl) rfl rfl rfl rfl ?_
  refine allocR tab rfl rfl rfl ?_
  refine storeR tab rfl rfl rfl rfl rfl rfl rfl rfl ?_
  refine WO.nil (qs ?_)
  iterate 2 refine W.seq ?_
  apply regionB; (case hb => rfl)
  ·
   iterate 3 refine pE rfl ?_
   first | refine pE rfl ?_ | refine pR rfl rfl rfl rfl rfl ?_ | refine pB rfl rfl rfl rfl rfl rfl ?_
   iterate 2 refine pE rfl ?_
   apply splitJ; (case hj => rfl); (case hl => rfl)
   ·
    refine goG rfl rfl ?_
    refine pE rfl ?_
    refine goG rfl rfl ?_
    refine pE rfl ?_
    refine goG rfl rfl ?_
    refine pE rfl ?_
    refine goG rfl rfl ?_
    first | refine pE rfl ?_ | refine pR rfl rfl rfl rfl rfl ?_ | refine pB rfl rfl rfl rfl rfl rfl ?_
    refine goG rfl rfl ?_
    refine pE rfl ?_
    refine goG rfl rfl ?_
    refine pE rfl ?_
    refine goG rfl rfl ?_
    iterate 2 refine pE rfl ?_
    refine WO.nil ?_
    refine qv1 rfl rfl rfl
   ·
    iterate 7 refine skipT rfl rfl rfl rfl ?_
    refine pE rfl ?_
    refine WO.nil ?_
    refine qv1 rfl rfl rfl
  refine qs ?_
  refine condK rfl (fun h29 => ?_) (fun h29 => ?_)
  ·
   have ho : o.2.2 = 0 ∧ o.1 < s.size := by
    revert h29
    by_cases e : o.2.2 = 0
    · simp [e]
    · simp [e]
   have he : rend s o = (o.1, (o.1 : Int), 10) := by unfold rend; rw [if_pos ho]; unfold stF; rw [if_pos ho.1, if_pos ho.1]
   rw [he] at hg
   refine W.region ?_
   iterate 4 refine pE rfl ?_
   first | refine pE rfl ?_ | refine pR rfl rfl rfl rfl rfl ?_ | refine pB rfl rfl rfl rfl rfl rfl ?_
   refine callB [1] [] rfl rfl rfl rfl rfl ((rfail_0 s o.1 o.2.1 o.2.2 10 (o.1 : Int) ho.1)) rfl rfl (by rfl) (by rfl) rfl rfl rfl rfl ?_
   refine WO.nil (qs ?_)
   iterate 2 refine W.seq ?_
   refine W.region ?_
   iterate 3 refine pE rfl ?_
   first | refine pE rfl ?_ | refine pR rfl rfl rfl rfl rfl ?_ | refine pB rfl rfl rfl rfl rfl rfl ?_
   refine pE rfl ?_
   refine WO.nil (qs ?_)
   refine condK rfl (fun h40 => ?_) (fun h40 => ?_)
   ·
    first | rw [if_neg (show ¬ (10 : Int) = 0 by decide)] at hg | rw [if_neg (show ¬ o.2.2 = 0 by simpa using h40)] at hg
    refine W.seq ?_
    apply W.regionC tab 11 9; (case hB => kernel_rfl); (case h1 => rfl); (case h2 => rfl)
    refine' ccPu0 (build tab rfl rfl rfl rfl) rfl rfl rfl rfl rfl ?h_1
    case' h_1 => skip
    refine' ccPu ?p1_2 (ev tab rfl) rfl rfl rfl rfl rfl ?h_2
    case' h_2 => skip
    refine' ccPu ?p1_3 (ev tab rfl) rfl rfl rfl rfl rfl ?h_3
    case' h_3 => skip
    refine' ccPu ?p1_4 (ev tab rfl) rfl rfl rfl rfl rfl ?h_4
    case' h_4 => skip
    first | (refine' ccPu ?p1_5 (ev tab rfl) rfl rfl rfl rfl rfl ?h_5) | (refine' ccPu ?p1_5 (loadRow tab rfl rfl rfl rfl) rfl rfl rfl rfl rfl ?h_5) | (refine' ccPu ?p1_5 (loadBox tab rfl rfl rfl rfl rfl) rfl rfl rfl rfl rfl ?h_5)
    case' h_5 => skip
    refine' ccPu ?p1_6 (ev tab rfl) rfl rfl rfl rfl rfl ?h_6
    case' h_6 => skip
    refine' ccPu ?p1_7 (ev tab rfl) rfl rfl rfl rfl rfl ?h_7
    case' h_7 => skip
    refine' ccPu ?p1_8 (ev tab rfl) rfl rfl rfl rfl rfl ?h_8
    case' h_8 => skip
    first | (refine' ccPu ?p1_9 (ev tab rfl) rfl rfl rfl rfl rfl ?h_9) | (refine' ccPu ?p1_9 (loadRow tab rfl rfl rfl rfl) rfl rfl rfl rfl rfl ?h_9) | (refine' ccPu ?p1_9 (loadBox tab rfl rfl rfl rfl rfl) rfl rfl rfl rfl rfl ?h_9)
    case' h_9 => skip
    refine' ccX0 (fun g => ?e_10) rfl rfl ?h_10
    case e_10 =>
     refine storeR tab rfl rfl rfl rfl rfl rfl rfl rfl ?_
     refine WO.nil ?_
     exact ⟨rfl, rfl⟩
    case' h_10 => skip
    case p1_2 => exact (ev tab rfl)
    case p1_3 => exact (ev tab rfl)
    case p1_4 => exact (ev tab rfl)
    case p1_5 => first | (exact (ev tab rfl)) | (exact (loadRow tab rfl rfl rfl rfl)) | (exact (loadBox tab rfl rfl rfl rfl rfl))
    case p1_6 => exact (ev tab rfl)
    case p1_7 => exact (ev tab rfl)
    case p1_8 => exact (ev tab rfl)
    case p1_9 => first | (exact (ev tab rfl)) | (exact (loadRow tab rfl rfl rfl rfl)) | (exact (loadBox tab rfl rfl rfl rfl rfl))
    refine ccPu1 (ev tab rfl) rfl rfl rfl rfl rfl ?_
    refine CC.nil ?_
    refine pE rfl ?_
    refine WO.nil (qs ?_)
    try refine nilBox 0 3 rfl rfl rfl ?_
    try refine nilBox 0 4 rfl rfl rfl ?_
    refine W.ret (qsRet ?_)
    refine QV.ret0 tab trivial rfl ?_
    rw [hg]
    rfl
   ·
    have hg : rparsed s = (v, 0, 0) := by first | exact absurd h40 (by decide) | (rw [hg, if_pos (show o.2.2 = 0 by simpa using h40)])
    refine W.skip (qs (W.seq (W.region ?_)))
    first | refine pE rfl ?_ | refine pR rfl rfl rfl rfl rfl ?_ | refine pB rfl rfl rfl rfl rfl rfl ?_
    refine storeR tab rfl rfl rfl rfl rfl rfl rfl rfl ?_
    iterate 2 refine pE rfl ?_
    refine WO.nil (qs ?_)
    try refine nilBox 0 3 rfl rfl rfl ?_
    try refine nilBox 0 4 rfl rfl rfl ?_
    refine W.ret ?_
    refine QV.ret0 tab trivial rfl ?_
    rw [hg]
    rfl
  ·
   have ho : ¬ (o.2.2 = 0 ∧ o.1 < s.size) := by
    rintro ⟨e1, e2⟩
    revert h29
    have e3 : (o.1 : Int) < (s.size : Int) := by omega
    simp [e1, e3]
   have he : rend s o = o := by unfold rend; rw [if_neg ho]
   rw [he] at hg
   refine W.skip (qs ?_)
   iterate 2 refine W.seq ?_
   refine W.region ?_
   iterate 3 refine pE rfl ?_
   first | refine pE rfl ?_ | refine pR rfl rfl rfl rfl rfl ?_ | refine pB rfl rfl rfl rfl rfl rfl ?_
   refine pE rfl ?_
   refine WO.nil (qs ?_)
   refine condK rfl (fun h40 => ?_) (fun h40 => ?_)
   ·
    first | rw [if_neg (show ¬ (10 : Int) = 0 by decide)] at hg | rw [if_neg (show ¬ o.2.2 = 0 by simpa using h40)] at hg
    refine W.seq ?_
    apply W.regionC tab 11 9; (case hB => kernel_rfl); (case h1 => rfl); (case h2 => rfl)
    refine' ccPu0 (build tab rfl rfl rfl rfl) rfl rfl rfl rfl rfl ?h_12
    case' h_12 => skip
    refine' ccPu ?p1_13 (ev tab rfl) rfl rfl rfl rfl rfl ?h_13
    case' h_13 => skip
    refine' ccPu ?p1_14 (ev tab rfl) rfl rfl rfl rfl rfl ?h_14
    case' h_14 => skip
    refine' ccPu ?p1_15 (ev tab rfl) rfl rfl rfl rfl rfl ?h_15
    case' h_15 => skip
    first | (refine' ccPu ?p1_16 (ev tab rfl) rfl rfl rfl rfl rfl ?h_16) | (refine' ccPu ?p1_16 (loadRow tab rfl rfl rfl rfl) rfl rfl rfl rfl rfl ?h_16) | (refine' ccPu ?p1_16 (loadBox tab rfl rfl rfl rfl rfl) rfl rfl rfl rfl rfl ?h_16)
    case' h_16 => skip
    refine' ccPu ?p1_17 (ev tab rfl) rfl rfl rfl rfl rfl ?h_17
    case' h_17 => skip
    refine' ccPu ?p1_18 (ev tab rfl) rfl rfl rfl rfl rfl ?h_18
    case' h_18 => skip
    refine' ccPu ?p1_19 (ev tab rfl) rfl rfl rfl rfl rfl ?h_19
    case' h_19 => skip
    first | (refine' ccPu ?p1_20 (ev tab rfl) rfl rfl rfl rfl rfl ?h_20) | (refine' ccPu ?p1_20 (loadRow tab rfl rfl rfl rfl) rfl rfl rfl rfl rfl ?h_20) | (refine' ccPu ?p1_20 (loadBox tab rfl rfl rfl rfl rfl) rfl rfl rfl rfl rfl ?h_20)
    case' h_20 => skip
    refine' ccX0 (fun g => ?e_21) rfl rfl ?h_21
    case e_21 =>
     refine storeR tab rfl rfl rfl rfl rfl rfl rfl rfl ?_
     refine WO.nil ?_
     exact ⟨rfl, rfl⟩
    case' h_21 => skip
    case p1_13 => exact (ev tab rfl)
    case p1_14 => exact (ev tab rfl)
    case p1_15 => exact (ev tab rfl)
    case p1_16 => first | (exact (ev tab rfl)) | (exact (loadRow tab rfl rfl rfl rfl)) | (exact (loadBox tab rfl rfl rfl rfl rfl))
    case p1_17 => exact (ev tab rfl)
    case p1_18 => exact (ev tab rfl)
    case p1_19 => exact (ev tab rfl)
    case p1_20 => first | (exact (ev tab rfl)) | (exact (loadRow tab rfl rfl rfl rfl)) | (exact (loadBox tab rfl rfl rfl rfl rfl))
    refine ccPu1 (ev tab rfl) rfl rfl rfl rfl rfl ?_
    refine CC.nil ?_
    refine pE rfl ?_
    refine WO.nil (qs ?_)
    try refine nilBox 0 3 rfl rfl rfl ?_
    try refine nilBox 0 4 rfl rfl rfl ?_
    refine W.ret (qsRet ?_)
    refine QV.ret0 tab trivial rfl ?_
    rw [hg]
    rfl
   ·
    have hg : rparsed s = (v, 0, 0) := by first | exact absurd h40 (by decide) | (rw [hg, if_pos (show o.2.2 = 0 by simpa using h40)])
    refine W.skip (qs (W.seq (W.region ?_)))
    first | refine pE rfl ?_ | refine pR rfl rfl rfl rfl rfl ?_ | refine pB rfl rfl rfl rfl rfl rfl ?_
    refine storeR tab rfl rfl rfl rfl rfl rfl rfl rfl ?_
    iterate 2 refine pE rfl ?_
    refine WO.nil (qs ?_)
    try refine nilBox 0 3 rfl rfl rfl ?_
    try refine nilBox 0 4 rfl rfl rfl ?_
    refine W.ret ?_
    refine QV.ret0 tab trivial rfl ?_
    rw [hg]
    rfl
end Go.Proofs.YtllkpgnpioojjaaDoor
namespace Go.Proofs.YtllkpgnpioojjaaDoor
open Go.Ab Go.Tb
set_option maxRecDepth 10000
attribute [local irreducible] W WO Pu QS QB QL QF QV QV1 CH QE
theorem accD_ge : ∀ (l : List UInt8) (n : Nat), n ≤ accD n l
 | [], n => Nat.le_refl n
 | b :: r, n => by
  have h := accD_ge r (if isDig b then 10 * n + (b.toNat - 48) else n)
  have h2 : n ≤ (if isDig b then 10 * n + (b.toNat - 48) else n) := by split <;> omega
  exact Nat.le_trans h2 h
theorem satD_stay : ∀ (l : List UInt8) (n : Nat), 1000000000000000 < n → satD n l = n
 | [], _, _ => rfl
 | b :: r, n, h => by
  show satD (if n ≤ 1000000000000000 then 10 * n + (b.toNat - 48) else n) r = n
  rw [if_neg (by omega)]
  exact satD_stay r n h
theorem sat_acc : ∀ (l : List UInt8) (n : Nat), (∀ b ∈ l, isDig b = true) → (accD n l ≤ 1000000000000000 → satD n l = accD n l) ∧ (1000000000000000 < accD n l → 1000000000000000 < satD n l)
 | [], n, _ => ⟨fun _ => rfl, fun h => h⟩
 | b :: r, n, hd => by
  have e : accD n (b :: r) = accD (10 * n + (b.toNat - 48)) r := by
   show accD (if isDig b then 10 * n + (b.toNat - 48) else n) r = _
   rw [if_pos (hd b List.mem_cons_self)]
  have e2 : satD n (b :: r) = satD (if n ≤ 1000000000000000 then 10 * n + (b.toNat - 48) else n) r := rfl
  rw [e, e2]
  by_cases q : n ≤ 1000000000000000
  ·
   rw [if_pos q]
   exact sat_acc r _ (fun x hx => hd x (List.mem_cons_of_mem _ hx))
  ·
   rw [if_neg q, satD_stay r n (by omega)]
   have := accD_ge r (10 * n + (b.toNat - 48))
   exact ⟨fun h => by omega, fun _ => by omega⟩
theorem segL_len {l : List UInt8} {i j : Nat} (h : i ≤ j) (hj : j ≤ l.length) : (segL l i j).length = j - i := by unfold segL; simp; omega
theorem segL_mem {l : List UInt8} {i j : Nat} (hj : j ≤ l.length) {b : UInt8} (h : b ∈ segL l i j) : ∃ q, i ≤ q ∧ q < j ∧ hereB l q = b := by
 obtain ⟨n, hn⟩ := List.mem_iff_getElem?.1 h
 unfold segL at hn
 rw [List.getElem?_take, List.getElem?_drop] at hn
 split at hn
 ·
  rename_i q
  refine ⟨i + n, by omega, by omega, ?_⟩
  unfold hereB
  rw [List.getD_eq_getElem?_getD, hn]; rfl
 · cases hn
theorem segL_head {l : List UInt8} {i j : Nat} (h : i < j) (hj : j ≤ l.length) : (segL l i j).head? = some (hereB l i) := by
 unfold segL
 rw [List.head?_take, List.head?_drop]
 rw [if_neg (by omega)]
 unfold hereB
 rw [List.getD_eq_getElem?_getD, List.getElem?_eq_getElem (show i < l.length by omega)]; rfl
theorem digs_all {l : List UInt8} {i : Nat} (hd : isDig (hereB l i) = true) : i < digsJ l i ∧ (∀ q, i ≤ q → q < digsJ l i → isDig (hereB l q) = true) ∧ (i + 1 < digsJ l i → hereB l i ≠ 48) := by
 unfold digsJ
 split
 ·
  refine ⟨Nat.lt_succ_self i, fun q h1 h2 => ?_, fun h => by omega⟩
  have : q = i := by omega
  rw [this]; exact hd
 ·
  rename_i h48
  refine ⟨?_, runD_dig l _ i, fun _ => h48⟩
  have hlt : i < l.length := here_lt fun z => by rw [z] at hd; exact absurd hd (by decide)
  obtain ⟨k, hk⟩ : ∃ k, l.length - i = k + 1 := ⟨l.length - i - 1, by omega⟩
  rw [hk]
  unfold runD
  rw [if_pos ⟨hlt, hd⟩]
  exact (runD_bd (k := k) (show i + 1 ≤ l.length by omega)).1
def Tie (x : PE JV) (r : JV × RS) (p : Int) (f : Nat → Nat) : Prop := match x with
 | .ok v j => r = (v, (f j, p, 0))
 | .no a w => ∃ v' i', r = (v', (i', (a : Int), w))
theorem num_tie {l : List UInt8} {i : Nat} {p : Int} (hi : i ≤ l.length) : Tie (numJ l i) (rnumR l i p) p id := by
 obtain ⟨i1, hi1⟩ : ∃ i1, i1 = if hereB l i = 45 then i + 1 else i := ⟨_, rfl⟩
 have hi1l : i1 ≤ l.length := by
  rw [hi1]; split
  · rename_i q; exact here_lt (by rw [q]; decide)
  · exact hi
 unfold numJ rnumR
 dsimp only
 rw [← hi1]
 by_cases hd : isDig (hereB l i1) = true
 ·
  obtain ⟨h1, h2, h3⟩ := digs_all hd
  have hle := (digsJ_bd (l := l) hi1l).2
  rw [if_neg (show ¬ digsJ l i1 = i1 by omega), if_neg (show ¬ isDig (hereB l i1) = false by rw [hd]; decide)]
  have hsl := segL_len (Nat.le_of_lt h1) hle
  have hsd : ∀ b ∈ segL l i1 (digsJ l i1), isDig b = true := fun b hb => by
   obtain ⟨q, q1, q2, q3⟩ := segL_mem hle hb
   rw [← q3]; exact h2 q q1 q2
  have hhd := segL_head h1 hle
  have hne : segL l i1 (digsJ l i1) ≠ [] := fun e => by rw [e] at hsl; simp at hsl; omega
  have hz : 1 < (segL l i1 (digsJ l i1)).length → (segL l i1 (digsJ l i1)).head? ≠ some 48 := fun h e => by
   rw [hhd] at e
   exact h3 (by omega) (Option.some.inj e)
  obtain ⟨s1, s2⟩ := sat_acc _ 0 hsd
  have hdb := (digB_acc _ _ rfl hne hsd hz).1
  generalize hE : digsJ l i1 = e at *
  have hseg : segL l i e = if hereB l i = 45 then 45 :: segL l i1 e else segL l i1 e := by
   split
   ·
    rename_i q
    rw [if_pos q] at hi1
    subst hi1
    unfold segL
    have hil : i < l.length := by omega
    rw [List.drop_eq_getElem_cons hil, show e - i = (e - (i + 1)) + 1 by omega, List.take_succ_cons]
    congr 1
    unfold hereB at q
    rw [List.getD_eq_getElem?_getD, List.getElem?_eq_getElem hil] at q
    exact q
   · rename_i q; rw [if_neg q] at hi1; rw [hi1]
  have hsg : (l.drop i).take (e - i) = segL l i e := rfl
  rw [hsg, hseg]
  generalize hds : segL l i1 e = ds at *
  have hnum : ∀ (u : ByteArray) (n : Int), (accD 0 ds ≤ 1000000000000000 → numP u = (n, true) ∧ n = (if hereB l i = 45 then -(satD 0 ds : Int) else (satD 0 ds : Int))) → (1000000000000000 < accD 0 ds → (numP u).2 = false) →
    Tie (if (numP u).2 = true then PE.ok (JV.mk 3 (numP u).1 (B #[]) [] []) e else PE.no i 2) (JV.mk 3 (if hereB l i = 45 then -(satD 0 ds : Int) else (satD 0 ds : Int)) (B #[]) [] [], if 1000000000000000 < satD 0 ds then (e, (i : Int), 2) else (e, p, 0)) p id := by
   intro u n h1 h2
   rcases Nat.lt_or_ge 1000000000000000 (accD 0 ds) with hb | hb
   ·
    rw [h2 hb, if_neg (show ¬ false = true by decide), if_pos (show 1000000000000000 < satD 0 ds from s2 hb)]
    exact ⟨_, _, rfl⟩
   ·
    obtain ⟨g1, g2⟩ := h1 hb
    rw [g1, if_pos (show (n, true).2 = true from rfl), if_neg (show ¬ 1000000000000000 < satD 0 ds by rw [s1 hb]; omega), ← g2]
    exact rfl
  by_cases q : hereB l i = 45
  ·
   simp only [if_pos q] at hnum ⊢
   by_cases z : ds = [48]
   ·
    have ht : (⟨(45 :: ds).toArray⟩ : ByteArray) = B #[45, 48] := by rw [z]
    rw [if_pos ht]
    refine hnum _ 0 (fun _ => ⟨by decide +kernel, by rw [z]; decide⟩) (fun h => ?_)
    rw [z] at h
    exact absurd h (by decide)
   ·
    have ht : (⟨(45 :: ds).toArray⟩ : ByteArray) ≠ B #[45, 48] := fun e => z (by
     have e2 : (45 :: ds) = [45, 48] := congrArg bys e
     exact (List.cons.inj e2).2)
    rw [if_neg ht]
    have hpos : 0 < accD 0 ds := by
     rcases Nat.eq_zero_or_pos (accD 0 ds) with h0 | h0
     ·
      exfalso
      rw [h0, digB_small (by decide)] at hdb
      exact z hdb.symm
     · exact h0
    refine hnum _ (-(accD 0 ds : Int)) (fun hb => ⟨?_, by rw [s1 hb]⟩) (fun hb => ?_)
    ·
     have e : (⟨(45 :: ds).toArray⟩ : ByteArray) = numB (-(accD 0 ds : Int)) := by
      unfold numB
      rw [numB_neg (by omega), show (-(accD 0 ds : Int)).natAbs = accD 0 ds by omega, hdb]
     rw [e]
     exact numP_num (by simp [inR]; omega)
    ·
     have : numP (⟨(45 :: ds).toArray⟩ : ByteArray) = (0, false) := numP_none fun v hv e => by
      have hv' : -1000000000000000 ≤ v ∧ v ≤ 1000000000000000 := by simpa [inR] using hv
      have e2 : (45 :: ds : List UInt8) = Lib.itoa v := congrArg bys e
      rcases Int.lt_or_le v 0 with h | h
      ·
       rw [numB_neg h] at e2
       have e3 := (List.cons.inj e2).2
       rw [e3, accD_digB] at hb
       omega
      ·
       rw [numB_pos h] at e2
       have := digB_dig v.toNat 45 (by rw [← e2]; simp)
       exact absurd this (by decide)
     rw [this]
  ·
   simp only [if_neg q] at hnum ⊢
   have hb1 : bys (⟨ds.toArray⟩ : ByteArray) = ds := rfl
   have ht : (⟨ds.toArray⟩ : ByteArray) ≠ B #[45, 48] := fun e => by
    have e2 : ds = [45, 48] := congrArg bys e
    have := hsd 45 (by rw [e2]; simp)
    exact absurd this (by decide)
   rw [if_neg ht]
   have hn := numP_digs (s := (⟨ds.toArray⟩ : ByteArray)) hne hsd
   rw [hb1] at hn
   refine hnum _ (accD 0 ds : Int) (fun hb => ⟨?_, by rw [s1 hb]⟩) (fun hb => ?_)
   ·
    have h16 : ¬ 16 < ds.length := by
     have := digB_len (accD 0 ds) 15 (by have : (10 : Nat) ^ (15 + 1) = 10000000000000000 := by decide
                                         omega)
     rw [hdb] at this; omega
    rw [hn, if_neg (fun h => h.elim h16 fun h => h.elim (fun h => hz h.1 h.2) fun h => by omega)]
   · rw [hn, if_pos (.inr (.inr hb))]
 ·
  have hd : isDig (hereB l i1) = false := by simpa using hd
  have he : digsJ l i1 = i1 := by
   unfold digsJ
   rw [if_neg (fun e => by rw [e] at hd; exact absurd hd (by decide))]
   cases l.length - i1 with
   | zero => rfl
   | succ k => unfold runD; rw [if_neg (fun h => by rw [hd] at h; exact absurd h.2 (by decide))]
  rw [if_pos he, if_pos hd]
  exact ⟨_, _, rfl⟩
end Go.Proofs.YtllkpgnpioojjaaDoor
