import Derived.Test.YtifeonoehfffmaaGreatDoorQ4
namespace Go.Proofs.YtifeonoehfffmaaGreatDoor
open Go.Ab Go.Tb
set_option maxRecDepth 10000
attribute [local irreducible] W WO Pu QS QB QL QF QV QV1 CH QE
theorem ixb_any (l : List UInt8) (c : UInt8) : decide (0 ≤ Lib.indexByte l c) = l.contains c := by
 rw [Bool.eq_iff_iff, decide_eq_true_eq, indexByte_ge0]
 simp
theorem sgn2_ix (c : UInt8) : decide (0 ≤ Lib.indexByte (bys (B #[33, 60, 62])) c) = sgn2 c := by
 rw [ixb_any]
 simp [bys, sgn2]
 grind
theorem sgn1_ix (c : UInt8) : decide (0 ≤ Lib.indexByte (bys (B #[124, 44, 58, 40, 41, 61, 60, 62, 43, 45, 42, 47, 37])) c) = sgn1 c := by
 rw [ixb_any]
 rfl
theorem whi_ix (c : UInt8) : decide (0 ≤ Lib.indexByte (bys (B #[32, 9, 10, 13])) c) = whiB c := by
 rw [ixb_any]
 simp [bys, whiB]
 grind
theorem i_eq {b : UInt8} {n : Nat} (c : UInt8) (hc : c.toNat = n) : ((b.toNat : Int) = (n : Int)) ↔ b = c := by
 subst hc
 rw [u8_is]
 exact ⟨fun h => Int.ofNat_inj.1 h, fun h => by rw [h]⟩
theorem next_fn (s : ByteArray) (k : Nat) (c : UInt8) (hc : (bys s)[k]? = some c) (hs : s.size ≤ 1000000) :
  Does Tryz.prog 97 [.d (.v (.string s)), .d (.v (.int .i64 (k : Int)))] (.tup [.ag (tokAt s k c).c, .d (.v (.int .i64 (toAt s k c : Int)))]) 0 := by
 have hk : k < s.size := by rw [← bys_len']; exact (List.getElem?_eq_some_iff.1 hc).1
 obtain ⟨b1, hb1⟩ := byte_ex s (k + 1)
 have r1 := runP_le wrdB s (k := k) (by omega)
 have r2 := runP_le isDig s (k := k) (by omega)
 have r3 := runP_le txtB s (k := k + 1) (by omega)
 have g1 := runP_ge wrdB s k
 have g2 := runP_ge isDig s k
 have g3 := runP_ge txtB s (k + 1)
 obtain ⟨b2, hb2⟩ := byte_ex s (runP txtB s (k + 1))
 refine Does.of_V tab (n := 121) (rs := [.cell 4 84, .tmp 5]) Tryz.func97 (by kernel_rfl) rfl Tryz.ntmps97 Tryz.results97 rfl fun C hC hG => ?_
 refine W.seq (W.region ?_)
 refine allocR tab rfl rfl rfl ?_
 refine pE rfl ?_
 refine WO.nil (qs (W.seq (W.region ?_)))
 refine pE rfl ?_
 refine pu (build tab rfl rfl rfl rfl) rfl ?_
 refine allocR tab rfl rfl rfl ?_
 refine storeR tab rfl rfl rfl rfl rfl rfl rfl rfl ?_
 refine WO.nil (qs ?_)
 iterate 2 refine W.seq ?_
 refine W.region ?_
 iterate 2 refine pE rfl ?_
 refine pu (indexStr tab rfl rfl rfl rfl (Int.natCast_nonneg _) (byteList hc)) rfl ?_
 refine pE rfl ?_
 refine WO.nil (qs (W.block (W.seq (W.region ?_))))
 refine pE rfl ?_
 refine pu (puCall rfl rfl rfl (isLetter_fn ..) rfl) rfl ?_
 refine pE rfl ?_
 refine WO.nil (qs ?_)
 refine condK rfl (fun h18 => ?_) (fun h18 => ?_)
 ·
  refine W.seq (W.region ?_)
  iterate 2 refine pE rfl ?_
  refine pu (puCall rfl rfl rfl (run_fn wrdB 129 isWord_fn s k (by omega) hs) rfl) rfl ?_
  refine pE rfl ?_
  refine WO.nil (qs (W.seq ?_))
  apply W.regionC tab 6 5; (case hB => kernel_rfl); (case h1 => rfl); (case h2 => rfl)
  refine' ccPu ?p1_1 (ev tab rfl) rfl rfl rfl rfl rfl ?h_1
  case' h_1 => skip
  refine' ccPu ?p1_2 (ev tab rfl) rfl rfl rfl rfl rfl ?h_2
  case' h_2 => skip
  refine' ccPu ?p1_3 (ev tab rfl) rfl rfl rfl rfl rfl ?h_3
  case' h_3 => skip
  refine' ccPu ?p1_4 (sliceS tab rfl rfl rfl rfl rfl (by omega) (by omega) (by omega) rfl) rfl rfl rfl rfl rfl ?h_4
  case' h_4 => skip
  refine' ccPu0 (ev tab rfl) rfl rfl rfl rfl rfl ?h_5
  case' h_5 => skip
  refine' ccX0 (fun g => ?e_6) rfl rfl ?h_6
  case e_6 =>
   refine storeR tab rfl rfl rfl rfl rfl rfl rfl rfl ?_
   refine WO.nil ?_
   exact ⟨rfl, rfl⟩
  case' h_6 => skip
  case p1_1 => exact (ev tab rfl)
  case p1_2 => exact (ev tab rfl)
  case p1_3 => exact (ev tab rfl)
  case p1_4 => exact (sliceS tab rfl rfl rfl rfl rfl (by omega) (by omega) (by omega) rfl)
  refine CC.nil ?_
  refine pE rfl ?_
  refine storeR tab rfl rfl rfl rfl rfl rfl rfl rfl ?_
  refine WO.nil (qs (W.seq (W.region ?_)))
  first | refine pE rfl ?_ | refine pR rfl rfl rfl rfl rfl ?_ | refine pB rfl rfl rfl rfl rfl rfl ?_
  refine pE rfl ?_
  refine storeR tab rfl rfl rfl rfl rfl rfl rfl rfl ?_
  refine pE rfl ?_
  refine WO.nil (qs (W.ret (qbRet (qsRet ?_))))
  refine QV.ret0 tab trivial rfl ?_
  have e1 : tokAt s k c = ⟨2, s.extract k (runP wrdB s k), 0, k, runP wrdB s k⟩ := by unfold tokAt; rw [if_pos h18]
  have e2 : toAt s k c = runP wrdB s k := by unfold toAt; rw [if_pos h18]
  rw [e1, e2]
  rfl
 ·
  refine W.seq (W.region ?_)
  refine pE rfl ?_
  refine pu (puCall rfl rfl rfl (isDigit_fn ..) rfl) rfl ?_
  refine pE rfl ?_
  refine WO.nil (qs ?_)
  refine condK rfl (fun h32 => ?_) (fun h32 => ?_)
  ·
   refine W.seq (W.region ?_)
   iterate 2 refine pE rfl ?_
   refine pu (puCall rfl rfl rfl (run_fn isDig 130 isDigit_fn s k (by omega) hs) rfl) rfl ?_
   refine pE rfl ?_
   refine WO.nil (qs ?_)
   iterate 2 refine W.seq ?_
   refine W.region ?_
   iterate 3 refine pE rfl ?_
   refine pu (sliceS tab rfl rfl rfl rfl rfl (by omega) (by omega) (by omega) rfl) rfl ?_
   refine pu (puCall rfl rfl rfl (nparse_fn _ (by simp only [ByteArray.size_extract]; omega)) rfl) rfl ?_
   iterate 5 refine pE rfl ?_
   refine WO.nil (qs (W.seq (W.region ?_)))
   refine pE rfl ?_
   refine WO.nil (qs ?_)
   refine condK rfl (fun h46 => ?_) (fun h46 => ?_)
   ·
    refine W.region ?_
    iterate 2 refine pE rfl ?_
    refine storeR tab rfl rfl rfl rfl rfl rfl rfl rfl ?_
    refine pE rfl ?_
    refine storeR tab rfl rfl rfl rfl rfl rfl rfl rfl ?_
    refine WO.nil (qs (W.seq (W.region ?_)))
    first | refine pE rfl ?_ | refine pR rfl rfl rfl rfl rfl ?_ | refine pB rfl rfl rfl rfl rfl rfl ?_
    refine pE rfl ?_
    refine storeR tab rfl rfl rfl rfl rfl rfl rfl rfl ?_
    refine pE rfl ?_
    refine WO.nil (qs (W.ret (qbRet (qsRet ?_))))
    refine QV.ret0 tab trivial rfl ?_
    have e1 : tokAt s k c = ⟨3, s.extract k (runP isDig s k), (numP (s.extract k (runP isDig s k))).1, k, runP isDig s k⟩ := by unfold tokAt; rw [if_neg (by simp [h18]), if_pos h32, if_pos (show (numP (s.extract k (runP isDig s k))).2 = true from h46)]
    have e2 : toAt s k c = runP isDig s k := by unfold toAt; rw [if_neg (by simp [h18]), if_pos h32]
    rw [e1, e2]
    rfl
   ·
    refine W.skip (qs (W.seq (W.region ?_)))
    first | refine pE rfl ?_ | refine pR rfl rfl rfl rfl rfl ?_ | refine pB rfl rfl rfl rfl rfl rfl ?_
    refine pE rfl ?_
    refine storeR tab rfl rfl rfl rfl rfl rfl rfl rfl ?_
    refine pE rfl ?_
    refine WO.nil (qs (W.ret (qbRet (qsRet ?_))))
    refine QV.ret0 tab trivial rfl ?_
    have e1 : tokAt s k c = tkBad k := by unfold tokAt; rw [if_neg (by simp [h18]), if_pos h32, if_neg (by have h46' : (numP (s.extract k (runP isDig s k))).2 = false := h46; simp [h46'])]
    have e2 : toAt s k c = runP isDig s k := by unfold toAt; rw [if_neg (by simp [h18]), if_pos h32]
    rw [e1, e2]
    rfl
  ·
   refine W.seq (W.region ?_)
   iterate 3 refine pE rfl ?_
   refine WO.nil (qs ?_)
   refine condK rfl (fun h52 => ?_) (fun h52 => ?_)
   ·
    have h52' : c = 34 := (i_eq 34 rfl).1 (by simpa using h52)
    refine W.seq (W.region ?_)
    iterate 2 refine pE rfl ?_
    refine pu (puI (ev tab rfl) (y := ((k + 1 : Nat) : Int)) (by rw [wrap64 (by omega)]; rfl)) rfl ?_
    refine pu (puCall rfl rfl rfl (run_fn txtB 132 isText_fn s (k + 1) (by omega) hs) rfl) rfl ?_
    refine pE rfl ?_
    refine WO.nil (qs ?_)
    iterate 2 refine W.seq ?_
    apply regionB; (case hb => rfl)
    ·
     iterate 5 refine pE rfl ?_
     apply splitH; (case hj => rfl); (case hl => rfl)
     ·
      intro g63
      refine goG rfl rfl ?_
      refine pE rfl ?_
      refine goG rfl rfl ?_
      refine pE rfl ?_
      refine goG rfl rfl ?_
      refine pu (indexStr tab rfl rfl rfl rfl (Int.natCast_nonneg _) (byteList (hb2 (by simpa using g63)))) rfl ?_
      refine goG rfl rfl ?_
      iterate 2 refine pE rfl ?_
      refine WO.nil ?_
      refine qv1 rfl rfl rfl
     ·
      intro g63
      iterate 4 refine skipT rfl rfl rfl rfl ?_
      refine pE rfl ?_
      refine WO.nil ?_
      refine qv1 rfl rfl rfl
    refine qs ?_
    refine condK rfl (fun h68 => ?_) (fun h68 => ?_)
    ·
     have h68' : (bys s)[runP txtB s (k + 1)]? = some 34 := by
      simp at h68
      rw [hb2 (by omega), (i_eq 34 rfl).1 h68.2]
     apply W.regionC tab 7 6; (case hB => kernel_rfl); (case h1 => rfl); (case h2 => rfl)
     refine' ccPu ?p1_7 (ev tab rfl) rfl rfl rfl rfl rfl ?h_7
     case' h_7 => skip
     refine' ccPu ?p1_8 (ev tab rfl) rfl rfl rfl rfl rfl ?h_8
     case' h_8 => skip
     refine' ccPu ?p1_9 (puI (ev tab rfl) (y := ((k + 1 : Nat) : Int)) (by rw [wrap64 (by omega)]; rfl)) rfl rfl rfl rfl rfl ?h_9
     case' h_9 => skip
     refine' ccPu ?p1_10 (ev tab rfl) rfl rfl rfl rfl rfl ?h_10
     case' h_10 => skip
     refine' ccPu ?p1_11 (sliceS tab rfl rfl rfl rfl rfl (by omega) (by omega) (by omega) rfl) rfl rfl rfl rfl rfl ?h_11
     case' h_11 => skip
     refine' ccPu0 (ev tab rfl) rfl rfl rfl rfl rfl ?h_12
     case' h_12 => skip
     refine' ccX0 (fun g => ?e_13) rfl rfl ?h_13
     case e_13 =>
      refine storeR tab rfl rfl rfl rfl rfl rfl rfl rfl ?_
      refine WO.nil ?_
      exact ⟨rfl, rfl⟩
     case' h_13 => skip
     case p1_7 => exact (ev tab rfl)
     case p1_8 => exact (ev tab rfl)
     case p1_9 => exact (puI (ev tab rfl) (y := ((k + 1 : Nat) : Int)) (by rw [wrap64 (by omega)]; rfl))
     case p1_10 => exact (ev tab rfl)
     case p1_11 => exact (sliceS tab rfl rfl rfl rfl rfl (by omega) (by omega) (by omega) rfl)
     refine CC.nil ?_
     refine pE rfl ?_
     refine storeR tab rfl rfl rfl rfl rfl rfl rfl rfl ?_
     refine WO.nil (qs (W.seq (W.region ?_)))
     first | refine pE rfl ?_ | refine pR rfl rfl rfl rfl rfl ?_ | refine pB rfl rfl rfl rfl rfl rfl ?_
     refine pE rfl ?_
     refine pu (puI (ev tab rfl) (y := ((runP txtB s (k + 1) + 1 : Nat) : Int)) (by rw [wrap64 (by omega)]; rfl)) rfl ?_
     refine storeR tab rfl rfl rfl rfl rfl rfl rfl rfl ?_
     refine pE rfl ?_
     refine WO.nil (qs (W.ret (qbRet (qsRet ?_))))
     refine QV.ret0 tab trivial rfl ?_
     have e1 : tokAt s k c = ⟨4, s.extract (k + 1) (runP txtB s (k + 1)), 0, k, runP txtB s (k + 1) + 1⟩ := by unfold tokAt; rw [if_neg (by simp [h18]), if_neg (by simp [h32]), if_pos h52', if_pos h68']
     have e2 : toAt s k c = runP txtB s (k + 1) + 1 := by unfold toAt; rw [if_neg (by simp [h18]), if_neg (by simp [h32]), if_pos h52']
     rw [e1, e2]
     rfl
    ·
     have h68' : ¬ (bys s)[runP txtB s (k + 1)]? = some 34 := fun a => by
      have hlt : runP txtB s (k + 1) < s.size := by rw [← bys_len']; exact (List.getElem?_eq_some_iff.1 a).1
      rw [hb2 hlt] at a
      cases a
      simp at h68
      omega
     refine W.skip (qs (W.seq (W.region ?_)))
     first | refine pE rfl ?_ | refine pR rfl rfl rfl rfl rfl ?_ | refine pB rfl rfl rfl rfl rfl rfl ?_
     refine pE rfl ?_
     refine pu (puI (ev tab rfl) (y := ((runP txtB s (k + 1) + 1 : Nat) : Int)) (by rw [wrap64 (by omega)]; rfl)) rfl ?_
     refine storeR tab rfl rfl rfl rfl rfl rfl rfl rfl ?_
     refine pE rfl ?_
     refine WO.nil (qs (W.ret (qbRet (qsRet ?_))))
     refine QV.ret0 tab trivial rfl ?_
     have e1 : tokAt s k c = tkBad k := by unfold tokAt; rw [if_neg (by simp [h18]), if_neg (by simp [h32]), if_pos h52', if_neg h68']
     have e2 : toAt s k c = runP txtB s (k + 1) + 1 := by unfold toAt; rw [if_neg (by simp [h18]), if_neg (by simp [h32]), if_pos h52']
     rw [e1, e2]
     rfl
   ·
    have h52' : ¬ c = 34 := fun e => by rw [e] at h52; exact absurd h52 (by decide)
    refine W.seq ?_
    apply regionB; (case hb => rfl)
    ·
     refine pE rfl ?_
     refine pu (puI (ev tab rfl) (y := ((k + 1 : Nat) : Int)) (by rw [wrap64 (by omega)]; rfl)) rfl ?_
     iterate 4 refine pE rfl ?_
     apply splitH; (case hj => rfl); (case hl => rfl)
     ·
      intro g85
      refine goG rfl rfl ?_
      refine pE rfl ?_
      refine goG rfl rfl ?_
      refine pE rfl ?_
      refine goG rfl rfl ?_
      refine pu (puI (ev tab rfl) (y := ((k + 1 : Nat) : Int)) (by rw [wrap64 (by omega)]; rfl)) rfl ?_
      refine goG rfl rfl ?_
      refine pu (indexStr tab rfl rfl rfl rfl (Int.natCast_nonneg _) (byteList (hb1 (by simp at g85; omega)))) rfl ?_
      refine goG rfl rfl ?_
      iterate 3 refine pE rfl ?_
      apply splitH; (case hj => rfl); (case hl => rfl)
      ·
       intro g92
       refine goG rfl rfl ?_
       refine pE rfl ?_
       refine goG rfl rfl ?_
       refine pu (puCall rfl rfl rfl (sixb_fn ..) rfl) rfl ?_
       refine goG rfl rfl ?_
       iterate 3 refine pE rfl ?_
       refine WO.nil ?_
       refine qv1 rfl rfl rfl
      ·
       intro g92
       iterate 3 refine skipT rfl rfl rfl rfl ?_
       iterate 2 refine pE rfl ?_
       refine WO.nil ?_
       refine qv1 rfl rfl rfl
     ·
      intro g85
      iterate 5 refine skipT rfl rfl rfl rfl ?_
      iterate 2 refine pE rfl ?_
      iterate 3 refine skipT rfl rfl rfl rfl ?_
      iterate 2 refine pE rfl ?_
      refine WO.nil ?_
      refine qv1 rfl rfl rfl
    refine qs ?_
    refine condK rfl (fun h79 => ?_) (fun h79 => ?_)
    ·
     have hlt : k + 1 < s.size := by simp at h79; omega
     have h79' : (bys s)[k + 1]? = some 61 ∧ sgn2 c = true := by
      rw [sgn2_ix] at h79
      simp at h79
      exact ⟨by rw [hb1 hlt, (i_eq 61 rfl).1 h79.2.1], h79.2.2⟩
     refine W.seq ?_
     apply W.regionC tab 7 6; (case hB => kernel_rfl); (case h1 => rfl); (case h2 => rfl)
     refine' ccPu ?p1_14 (ev tab rfl) rfl rfl rfl rfl rfl ?h_14
     case' h_14 => skip
     refine' ccPu ?p1_15 (ev tab rfl) rfl rfl rfl rfl rfl ?h_15
     case' h_15 => skip
     refine' ccPu ?p1_16 (ev tab rfl) rfl rfl rfl rfl rfl ?h_16
     case' h_16 => skip
     refine' ccPu ?p1_17 (puI (ev tab rfl) (y := ((k + 2 : Nat) : Int)) (by rw [wrap64 (by omega)]; rfl)) rfl rfl rfl rfl rfl ?h_17
     case' h_17 => skip
     refine' ccPu ?p1_18 (sliceS tab rfl rfl rfl rfl rfl (by omega) (by omega) (by omega) rfl) rfl rfl rfl rfl rfl ?h_18
     case' h_18 => skip
     refine' ccPu0 (ev tab rfl) rfl rfl rfl rfl rfl ?h_19
     case' h_19 => skip
     refine' ccX0 (fun g => ?e_20) rfl rfl ?h_20
     case e_20 =>
      refine storeR tab rfl rfl rfl rfl rfl rfl rfl rfl ?_
      refine WO.nil ?_
      exact ⟨rfl, rfl⟩
     case' h_20 => skip
     case p1_14 => exact (ev tab rfl)
     case p1_15 => exact (ev tab rfl)
     case p1_16 => exact (ev tab rfl)
     case p1_17 => exact (puI (ev tab rfl) (y := ((k + 2 : Nat) : Int)) (by rw [wrap64 (by omega)]; rfl))
     case p1_18 => exact (sliceS tab rfl rfl rfl rfl rfl (by omega) (by omega) (by omega) rfl)
     refine CC.nil ?_
     refine pE rfl ?_
     refine storeR tab rfl rfl rfl rfl rfl rfl rfl rfl ?_
     refine WO.nil (qs (W.seq (W.region ?_)))
     first | refine pE rfl ?_ | refine pR rfl rfl rfl rfl rfl ?_ | refine pB rfl rfl rfl rfl rfl rfl ?_
     refine pE rfl ?_
     refine pu (puI (ev tab rfl) (y := ((k + 2 : Nat) : Int)) (by rw [wrap64 (by omega)]; rfl)) rfl ?_
     refine storeR tab rfl rfl rfl rfl rfl rfl rfl rfl ?_
     refine pE rfl ?_
     refine WO.nil (qs (W.ret (qbRet (qsRet ?_))))
     refine QV.ret0 tab trivial rfl ?_
     have e1 : tokAt s k c = ⟨5, s.extract k (k + 2), 0, k, k + 2⟩ := by unfold tokAt; rw [if_neg (by simp [h18]), if_neg (by simp [h32]), if_neg h52', if_pos h79']
     have e2 : toAt s k c = k + 2 := by unfold toAt; rw [if_neg (by simp [h18]), if_neg (by simp [h32]), if_neg h52', if_pos h79']
     rw [e1, e2]
     rfl
    ·
     have h79' : ¬ ((bys s)[k + 1]? = some 61 ∧ sgn2 c = true) := fun ⟨a, b⟩ => by
      rw [sgn2_ix] at h79
      have hlt : k + 1 < s.size := by rw [← bys_len']; exact (List.getElem?_eq_some_iff.1 a).1
      rw [hb1 hlt] at a
      cases a
      simp [b] at h79
      omega
     refine W.seq (W.region ?_)
     refine pE rfl ?_
     refine pu (puCall rfl rfl rfl (sixb_fn ..) rfl) rfl ?_
     iterate 2 refine pE rfl ?_
     refine WO.nil (qs ?_)
     refine condK rfl (fun h107 => ?_) (fun h107 => ?_)
     ·
      have h107' : sgn1 c = true := by rw [sgn1_ix] at h107; exact h107
      apply W.regionC tab 7 6; (case hB => kernel_rfl); (case h1 => rfl); (case h2 => rfl)
      refine' ccPu ?p1_21 (ev tab rfl) rfl rfl rfl rfl rfl ?h_21
      case' h_21 => skip
      refine' ccPu ?p1_22 (ev tab rfl) rfl rfl rfl rfl rfl ?h_22
      case' h_22 => skip
      refine' ccPu ?p1_23 (ev tab rfl) rfl rfl rfl rfl rfl ?h_23
      case' h_23 => skip
      refine' ccPu ?p1_24 (puI (ev tab rfl) (y := ((k + 1 : Nat) : Int)) (by rw [wrap64 (by omega)]; rfl)) rfl rfl rfl rfl rfl ?h_24
      case' h_24 => skip
      refine' ccPu ?p1_25 (sliceS tab rfl rfl rfl rfl rfl (by omega) (by omega) (by omega) rfl) rfl rfl rfl rfl rfl ?h_25
      case' h_25 => skip
      refine' ccPu0 (ev tab rfl) rfl rfl rfl rfl rfl ?h_26
      case' h_26 => skip
      refine' ccX0 (fun g => ?e_27) rfl rfl ?h_27
      case e_27 =>
       refine storeR tab rfl rfl rfl rfl rfl rfl rfl rfl ?_
       refine WO.nil ?_
       exact ⟨rfl, rfl⟩
      case' h_27 => skip
      case p1_21 => exact (ev tab rfl)
      case p1_22 => exact (ev tab rfl)
      case p1_23 => exact (ev tab rfl)
      case p1_24 => exact (puI (ev tab rfl) (y := ((k + 1 : Nat) : Int)) (by rw [wrap64 (by omega)]; rfl))
      case p1_25 => exact (sliceS tab rfl rfl rfl rfl rfl (by omega) (by omega) (by omega) rfl)
      refine CC.nil ?_
      refine pE rfl ?_
      refine storeR tab rfl rfl rfl rfl rfl rfl rfl rfl ?_
      refine WO.nil (qbN (qs (W.seq (W.region ?_))))
      first | refine pE rfl ?_ | refine pR rfl rfl rfl rfl rfl ?_ | refine pB rfl rfl rfl rfl rfl rfl ?_
      refine pE rfl ?_
      refine pu (puI (ev tab rfl) (y := ((k + 1 : Nat) : Int)) (by rw [wrap64 (by omega)]; rfl)) rfl ?_
      refine storeR tab rfl rfl rfl rfl rfl rfl rfl rfl ?_
      refine pE rfl ?_
      refine WO.nil (qs (W.ret ?_))
      refine QV.ret0 tab trivial rfl ?_
      have e1 : tokAt s k c = ⟨5, s.extract k (k + 1), 0, k, k + 1⟩ := by unfold tokAt; rw [if_neg (by simp [h18]), if_neg (by simp [h32]), if_neg h52', if_neg h79', if_pos h107']
      have e2 : toAt s k c = k + 1 := by unfold toAt; rw [if_neg (by simp [h18]), if_neg (by simp [h32]), if_neg h52', if_neg h79']
      rw [e1, e2]
      rfl
     ·
      have h107' : sgn1 c = false := by rw [sgn1_ix] at h107; exact h107
      refine W.skip (qbN (qs (W.seq (W.region ?_))))
      first | refine pE rfl ?_ | refine pR rfl rfl rfl rfl rfl ?_ | refine pB rfl rfl rfl rfl rfl rfl ?_
      refine pE rfl ?_
      refine pu (puI (ev tab rfl) (y := ((k + 1 : Nat) : Int)) (by rw [wrap64 (by omega)]; rfl)) rfl ?_
      refine storeR tab rfl rfl rfl rfl rfl rfl rfl rfl ?_
      refine pE rfl ?_
      refine WO.nil (qs (W.ret ?_))
      refine QV.ret0 tab trivial rfl ?_
      have e1 : tokAt s k c = tkBad k := by unfold tokAt; rw [if_neg (by simp [h18]), if_neg (by simp [h32]), if_neg h52', if_neg h79', if_neg (by simp [h107'])]
      have e2 : toAt s k c = k + 1 := by unfold toAt; rw [if_neg (by simp [h18]), if_neg (by simp [h32]), if_neg h52', if_neg h79']
      rw [e1, e2]
      rfl
theorem toks_len (s : ByteArray) : ∀ k, (toks s k).length ≤ s.size - k + 1 := by
 intro k
 induction hm : s.size - k using Nat.strongRecOn generalizing k with
 | _ m ih =>
  subst hm
  rw [toks_eq]
  by_cases q : (tokF s k).stops = true
  · rw [if_pos q]; simp
  ·
   rw [if_neg q]
   have hn := tokF_nx (by simpa using q)
   have := ih (s.size - (tokF s k).nx) (by omega) (tokF s k).nx rfl
   simp only [List.length_cons]
   omega
theorem tokens_fn (s : ByteArray) (hs : s.size ≤ 1000000) : Does Tryz.prog 50 [.d (.v (.string s))] (.d (.sl ((toks s 0).map Tk.c))) 0 := by
 refine Does.of_W (n := 39) (ts := [2]) Tryz.func50 (by kernel_rfl) rfl Tryz.ntmps50 Tryz.results50 rfl rfl fun C hC hG => ?_
 refine W.seq (W.region ?_)
 refine pE rfl ?_
 refine WO.nil (qs (W.seq (W.region ?_)))
 refine pE rfl ?_
 refine WO.nil (qs ?_)
 iterate 2 refine W.seq ?_
 refine W.region ?_
 refine pE rfl ?_
 refine WO.nil (qs (W.block ?_))
 refine ownNilR (d := 3) rfl rfl ?_
 refine W.loopR (ι := {x : Nat × List Tk // match x with | (k, l) => k ≤ s.size ∧ l ++ toks s k = toks s 0 ∧ l.length ≤ k})
  (fun x => match x.1 with | (k, l) => [(3, .own 0 (l.map Tk.c)), (4, .d (.v (.int .i64 ((k : Nat) : Int))))]) [(0, _)]
  (fun x => match x.1 with | (k, l) => []) [] [0] 1 (fun x => match x.1 with | (k, l) => s.size - k)
  [0] ⟨(0, []), ?_⟩ rfl ?_ ⟨rfl, rfl, trivial⟩ ?_ trivial rfl ?_
 · exact ⟨Nat.zero_le _, rfl, Nat.le_refl _⟩
 · repeat' first | exact trivial | refine ⟨rfl, ?_⟩ | refine ⟨step_nat (by assumption) (by assumption), ?_⟩
 · repeat' first | exact trivial | refine ⟨rfl, ?_⟩ | refine ⟨step_nat (by assumption) (by assumption), ?_⟩
 rintro ⟨⟨k, l⟩, hk, hI, hL⟩
 show W _ _ _ _ _ ⟨[(3, .own 0 (l.map Tk.c)), (4, .d (.v (.int .i64 ((k : Nat) : Int)))), (0, _)], [], [0], 1⟩
 iterate 2 refine W.seq ?_
 refine W.region ?_
 iterate 4 refine pE rfl ?_
 refine WO.nil (qs ?_)
 refine condK rfl (fun h10 => ?_) (fun h10 => ?_)
 ·
  have hlt : k < s.size := by simp at h10; omega
  obtain ⟨c, hc⟩ := byte_at hlt
  refine W.skip (qs (W.block ?_))
  iterate 2 refine W.seq ?_
  refine W.region ?_
  iterate 2 refine pE rfl ?_
  refine pu (indexStr tab rfl rfl rfl rfl (Int.natCast_nonneg _) (byteList hc)) rfl ?_
  refine pu (puCall rfl rfl rfl (sixb_fn ..) rfl) rfl ?_
  refine pE rfl ?_
  refine WO.nil (qs ?_)
  refine condK rfl (fun h15 => ?_) (fun h15 => ?_)
  ·
   have hw : whiB c = true := by rw [whi_ix] at h15; exact h15
   rw [toks_white hc hw] at hI
   refine W.seq (W.region ?_)
   refine pE rfl ?_
   refine pu (puI (ev tab rfl) (y := ((k + 1 : Nat) : Int)) (by rw [wrap64 (by omega)]; rfl)) rfl ?_
   refine pE rfl ?_
   refine WO.nil (qs (W.exit (qsExit (qbExit ?_))))
   first | (refine W.endR [0] ⟨(k + 1, l), ?_⟩ ?_ rfl ?_ ⟨rfl, rfl, trivial⟩ ?_ trivial rfl) | (refine W.endR [1] ⟨(toAt s k c, l ++ [tokAt s k c]), ?_⟩ ?_ rfl ?_ ⟨rfl, rfl, trivial⟩ ?_ trivial rfl) | (refine W.endR [2] ⟨(toAt s k c, l ++ [tokAt s k c]), ?_⟩ ?_ rfl ?_ ⟨rfl, rfl, trivial⟩ ?_ trivial rfl)
   · first | exact ⟨hlt, hI, by omega⟩ | exact ⟨n3, by rw [← hI]; simp, by simp; omega⟩
   · dsimp only; omega
   · repeat' first | exact trivial | refine ⟨rfl, ?_⟩ | refine ⟨step_nat (by assumption) (by assumption), ?_⟩
   · repeat' first | exact trivial | refine ⟨rfl, ?_⟩ | refine ⟨step_nat (by assumption) (by assumption), ?_⟩
  ·
   have hw : whiB c = false := by rw [whi_ix] at h15; exact h15
   rw [toks_at hc hw] at hI
   refine W.skip (qs (W.seq (W.region ?_)))
   iterate 2 refine pE rfl ?_
   refine pu (puCall rfl rfl rfl ((next_fn s k c hc hs)) rfl) rfl ?_
   iterate 3 refine pE rfl ?_
   refine allocR tab rfl rfl rfl ?_
   refine storeR tab rfl rfl rfl rfl rfl rfl rfl rfl ?_
   refine pE rfl ?_
   refine WO.nil (qs (W.seq (W.region ?_)))
   refine pE rfl ?_
   first | refine pE rfl ?_ | refine pR rfl rfl rfl rfl rfl ?_ | refine pB rfl rfl rfl rfl rfl rfl ?_
   refine pu (buildV tab rfl rfl rfl rfl rfl rfl rfl rfl rfl) rfl ?_
   refine appendM (a := tokAt s k c) tab rfl rfl rfl rfl rfl rfl rfl rfl rfl rfl (fun _ => rfl) (by show (l.length + 1) * 40 ≤ _; omega) ?_
   refine pE rfl ?_
   refine WO.nil (qs ?_)
   iterate 2 refine W.seq ?_
   refine W.region ?_
   refine pE rfl ?_
   first | refine pE rfl ?_ | refine pR rfl rfl rfl rfl rfl ?_ | refine pB rfl rfl rfl rfl rfl rfl ?_
   refine pE rfl ?_
   refine WO.nil (qs ?_)
   refine condK rfl (fun h30 => ?_) (fun h30 => ?_)
   ·
    have h30' : (tokAt s k c).kind = 1 := by simpa using h30
    rw [if_pos h30'] at hI
    refine W.seq (W.region ?_)
    iterate 2 refine pE rfl ?_
    refine WO.nil (qs (W.ret (qsRet (qbRet (qlRet (qbRet (qsRet ?_)))))))
    refine QF.ret0 trivial rfl ?_
    rw [← hI, List.map_append]; rfl
   ·
    have h30' : ¬ (tokAt s k c).kind = 1 := by simpa using h30
    rw [if_neg h30'] at hI
    obtain ⟨n1, n2, n3⟩ := tokAt_nx hc h30'
    refine W.skip (qs (W.region ?_))
    iterate 2 refine pE rfl ?_
    refine WO.nil (qbN ?_)
    first | (refine W.endR [0] ⟨(k + 1, l), ?_⟩ ?_ rfl ?_ ⟨rfl, rfl, trivial⟩ ?_ trivial rfl) | (refine W.endR [1] ⟨(toAt s k c, l ++ [tokAt s k c]), ?_⟩ ?_ rfl ?_ ⟨rfl, rfl, trivial⟩ ?_ trivial rfl) | (refine W.endR [2] ⟨(toAt s k c, l ++ [tokAt s k c]), ?_⟩ ?_ rfl ?_ ⟨rfl, rfl, trivial⟩ ?_ trivial rfl)
    · first | exact ⟨hlt, hI, by omega⟩ | exact ⟨n3, by rw [← hI]; simp, by simp; omega⟩
    · dsimp only; omega
    · repeat' first | exact trivial | refine ⟨rfl, ?_⟩ | refine ⟨step_nat (by assumption) (by assumption), ?_⟩
    · repeat' first | exact trivial | refine ⟨rfl, ?_⟩ | refine ⟨step_nat (by assumption) (by assumption), ?_⟩
 ·
  have hE : toks s k = [tkEnd s.size] := toks_end (by simp at h10; omega)
  rw [hE] at hI
  refine W.exit (qsExit (qlExit (qbExit (qs (W.seq (W.region ?_))))))
  iterate 3 refine pE rfl ?_
  refine pu (build tab rfl rfl rfl rfl) rfl ?_
  refine pu (buildV tab rfl rfl rfl rfl rfl rfl rfl rfl rfl) rfl ?_
  refine appendM (a := tkEnd s.size) tab rfl rfl rfl rfl rfl rfl rfl rfl rfl rfl (fun _ => rfl) (by show (l.length + 1) * 40 ≤ _; omega) ?_
  refine pE rfl ?_
  refine WO.nil (qs (W.ret ?_))
  refine QF.ret0 trivial rfl ?_
  rw [← hI, List.map_append]; rfl
end Go.Proofs.YtifeonoehfffmaaGreatDoor
namespace Go.Proofs.YtifeonoehfffmaaGreatDoor
open Go.Ab Go.Tb
set_option maxRecDepth 10000
attribute [local irreducible] W WO Pu QS QB QL QF QV QV1 CH QE
@[reducible] def bxP (L : List Tk) (st : PS) : List A := [.d (.sl ((L.drop st.1).map Tk.c)), .d (.v (.bool st.2))]
theorem peek_fn (L : List Tk) (k : Nat) (b : Bool) (n : Nat) (hk : k < L.length) (hL : L.length ≤ 3000000) (hn : n ≤ 10) : Does Tryz.prog 51 [.row (bxP L (k, b)), .d (.v (.int .i64 (n : Int)))] (.ag (pkT L k n).c) 0 := by
 have hp : (L.drop k)[min n (L.length - k - 1)]? = some (pkT L k n) := by
  unfold pkT
  rw [List.getElem?_drop, show k + min n (L.length - k - 1) = min (k + n) (L.length - 1) by omega]
  have : min (k + n) (L.length - 1) < L.length := by omega
  simp [this]
 have hlen : (((L.drop k).map Tk.c).length : Int) = ((L.length - k : Nat) : Int) := by simp
 refine Does.of_V tab (n := 19) (rs := [.cell 4 84]) Tryz.func51 (by kernel_rfl) rfl Tryz.ntmps51 Tryz.results51 rfl fun C hC hG => ?_
 refine W.seq (W.region ?_)
 refine allocR tab rfl rfl rfl ?_
 refine WO.nil (qs (W.seq ?_))
 refine W.regionE tab 14 0 (by kernel_rfl) rfl rfl ?_
 refine cePu rfl (ev tab rfl) rfl ?_
 refine cePu rfl (ev tab rfl) rfl ?_
 refine cePu rfl (ev tab rfl) rfl ?_
 first | refine cePu rfl (ev tab rfl) rfl ?_ | refine cePu rfl (loadRow tab rfl rfl rfl rfl) rfl ?_ | refine cePu rfl (loadBox tab rfl rfl rfl rfl rfl) rfl ?_
 refine cePu rfl (ev tab rfl) rfl ?_
 refine cePu rfl (ev tab rfl) rfl ?_
 refine cePu rfl (ev tab rfl) rfl ?_
 refine cePu rfl (ev tab rfl) rfl ?_
 first | refine cePu rfl (ev tab rfl) rfl ?_ | refine cePu rfl (loadRow tab rfl rfl rfl rfl) rfl ?_ | refine cePu rfl (loadBox tab rfl rfl rfl rfl rfl) rfl ?_
 refine cePu rfl (ev tab rfl) rfl ?_
 refine cePu rfl (puI (ev tab rfl) (y := ((L.length - k - 1 : Nat) : Int)) (by rw [hlen, wrap64 (by omega)]; omega)) rfl ?_
 refine cePu rfl (puI (ev tab rfl) (y := ((min n (L.length - k - 1) : Nat) : Int)) (by split <;> omega)) rfl ?_
 refine cePu rfl (indexAddr (l := (pkT L k n).c) tab rfl rfl rfl rfl rfl rfl (Int.natCast_nonneg _) (idx_map hp) rfl) rfl ?_
 first | refine cePu rfl (ev tab rfl) rfl ?_ | refine cePu rfl (loadRow tab rfl rfl rfl rfl) rfl ?_ | refine cePu rfl (loadBox tab rfl rfl rfl rfl rfl) rfl ?_
 refine CE.nil ?_
 refine storeR tab rfl rfl rfl rfl rfl rfl rfl rfl ?_
 refine WO.nil (qs (W.ret ?_))
 refine QV.ret0 tab trivial rfl ?_
 rfl
theorem pk0 {L : List Tk} {st : PS} (h : st.1 < L.length) : pkT L st.1 0 = tk0 L st := by
 unfold pkT tk0
 rw [Nat.add_zero, Nat.min_eq_left (by omega)]
theorem peek0_fn (L : List Tk) (st : PS) (h : st.1 < L.length) (hL : L.length ≤ 3000000) : Does Tryz.prog 51 [.row (bxP L st), .d (.v (.int .i64 0))] (.ag (tk0 L st).c) 0 := by
 have := peek_fn L st.1 st.2 0 h hL (by omega)
 rw [pk0 h] at this
 exact this
theorem is_fn (t : Tk) (x : ByteArray) : Does Tryz.prog 54 [.ag t.c, .d (.v (.string x))] (.d (.v (.bool (isT t x)))) 0 := by
 refine Does.of_W (n := 19) (ts := [4]) Tryz.func54 (by kernel_rfl) rfl Tryz.ntmps54 Tryz.results54 rfl rfl fun C hC hG => ?_
 refine W.seq (W.region ?_)
 refine boxR rfl rfl rfl ?_
 refine pE rfl ?_
 refine WO.nil (qs (W.seq ?_))
 apply regionB; (case hb => rfl)
 ·
  refine pE rfl ?_
  first | refine pE rfl ?_ | refine pR rfl rfl rfl rfl rfl ?_ | refine pB rfl rfl rfl rfl rfl rfl ?_
  iterate 2 refine pE rfl ?_
  apply splitJ; (case hj => rfl); (case hl => rfl)
  ·
   iterate 3 refine skipT rfl rfl rfl rfl ?_
   iterate 2 refine pE rfl ?_
   refine goG rfl rfl ?_
   refine pE rfl ?_
   refine goG rfl rfl ?_
   first | refine pE rfl ?_ | refine pR rfl rfl rfl rfl rfl ?_ | refine pB rfl rfl rfl rfl rfl rfl ?_
   refine goG rfl rfl ?_
   refine pE rfl ?_
   refine goG rfl rfl ?_
   iterate 3 refine pE rfl ?_
   refine WO.nil ?_
   refine qv1 rfl rfl rfl
  ·
   refine goG rfl rfl ?_
   refine pE rfl ?_
   refine goG rfl rfl ?_
   first | refine pE rfl ?_ | refine pR rfl rfl rfl rfl rfl ?_ | refine pB rfl rfl rfl rfl rfl rfl ?_
   refine goG rfl rfl ?_
   iterate 3 refine pE rfl ?_
   apply splitJ; (case hj => rfl); (case hl => rfl)
   ·
    refine goG rfl rfl ?_
    refine pE rfl ?_
    refine goG rfl rfl ?_
    first | refine pE rfl ?_ | refine pR rfl rfl rfl rfl rfl ?_ | refine pB rfl rfl rfl rfl rfl rfl ?_
    refine goG rfl rfl ?_
    refine pE rfl ?_
    refine goG rfl rfl ?_
    iterate 3 refine pE rfl ?_
    refine WO.nil ?_
    refine qv1 rfl rfl rfl
   ·
    iterate 4 refine skipT rfl rfl rfl rfl ?_
    iterate 2 refine pE rfl ?_
    refine WO.nil ?_
    refine qv1 rfl rfl rfl
 refine qs (W.ret ?_)
 refine QF.ret0 trivial rfl ?_
 refine bool_A ?_
 by_cases h3 : t.kind = 3
 · simp [isT, h3]
 · by_cases h5 : t.kind = 5 <;> simp [isT, h3, h5]
theorem pass_fn (L : List Tk) (st : PS) (h : st.1 < L.length) (hL : L.length ≤ 3000000) : DoesB Tryz.prog 53 [.ptr 0 0] [bxP L st] 0 (.tup []) [bxP L (adv st)] 0 := by
 refine DoesB.of_V tab (n := 10) (rs := []) Tryz.func53 (by kernel_rfl) rfl Tryz.ntmps53 Tryz.results53 rfl rfl fun C hC hG => ?_
 refine W.region ?_
 iterate 4 refine pE rfl ?_
 first | refine pE rfl ?_ | refine pR rfl rfl rfl rfl rfl ?_ | refine pB rfl rfl rfl rfl rfl rfl ?_
 refine pu (sliceV (fn := Tk.c) (l := L.drop st.1) (i := 1) (r := L.drop (st.1 + 1)) tab rfl rfl rfl rfl rfl (fun _ => rfl) rfl rfl (by decide) (by rw [List.length_drop]; omega) (by simp) (by show ((L.drop st.1).take ((L.drop st.1).length)).drop 1 = _; rw [List.take_length, List.drop_drop])) rfl ?_
 iterate 2 refine pE rfl ?_
 refine storeR tab rfl rfl rfl rfl rfl rfl rfl rfl ?_
 refine WO.nil ?_
 refine QB1.end tab [] trivial rfl rfl rfl rfl ?_ ?_
 · exact ⟨rfl, trivial⟩
 rfl
theorem skip_fn (L : List Tk) (x : ByteArray) (st : PS) (h : st.1 < L.length) (hL : L.length ≤ 3000000) : DoesB Tryz.prog 28 [.ptr 0 0, .d (.v (.string x))] [bxP L st] 0 (.d (.v (.bool (skB L x st)))) [bxP L (skS L x st)] 0 := by
 refine DoesB.of_V tab (n := 18) (rs := [.tmp 4]) Tryz.func28 (by kernel_rfl) rfl Tryz.ntmps28 Tryz.results28 rfl rfl fun C hC hG => ?_
 refine W.seq (W.region ?_)
 refine pE rfl ?_
 refine WO.nil (qs ?_)
 iterate 2 refine W.seq ?_
 apply regionB; (case hb => rfl)
 ·
  iterate 3 refine pE rfl ?_
  first | refine pE rfl ?_ | refine pR rfl rfl rfl rfl rfl ?_ | refine pB rfl rfl rfl rfl rfl rfl ?_
  refine pE rfl ?_
  apply splitJ; (case hj => rfl); (case hl => rfl)
  ·
   iterate 5 refine skipT rfl rfl rfl rfl ?_
   refine pE rfl ?_
   refine WO.nil ?_
   refine qv1 rfl rfl rfl
  ·
   refine goG rfl rfl ?_
   refine pE rfl ?_
   refine goG rfl rfl ?_
   refine pu (puCall rfl rfl rfl (peek0_fn L st h hL) rfl) rfl ?_
   refine goG rfl rfl ?_
   refine pE rfl ?_
   refine goG rfl rfl ?_
   refine pu (puCall rfl rfl rfl (is_fn (tk0 L st) x) rfl) rfl ?_
   refine goG rfl rfl ?_
   iterate 2 refine pE rfl ?_
   refine WO.nil ?_
   refine qv1 rfl rfl rfl
 refine qs ?_
 refine condK rfl (fun h15 => ?_) (fun h15 => ?_)
 ·
  have e : skB L x st = false := by
   unfold skB
   cases q : st.2 <;> simp [q] at h15 ⊢
   exact h15
  have e2 : skS L x st = st := by unfold skS; rw [e]; rfl
  rw [e, e2]
  refine W.seq (W.region ?_)
  refine pE rfl ?_
  refine WO.nil (qs (W.ret (qsRet ?_)))
  refine QB1.end tab [] trivial rfl rfl rfl rfl ?_ ?_
  · exact ⟨rfl, trivial⟩
  rfl
 ·
  have e : skB L x st = true := by
   unfold skB
   cases q : st.2 <;> simp [q] at h15 ⊢
   exact h15
  have e2 : skS L x st = adv st := by unfold skS; rw [e]; rfl
  rw [e, e2]
  refine W.skip (qs (W.seq (W.region ?_)))
  refine pE rfl ?_
  refine callB [0] [] rfl rfl rfl rfl rfl ((pass_fn L st h hL)) rfl rfl (by rfl) (by rfl) rfl rfl rfl rfl ?_
  refine WO.nil (qs (W.seq (W.region ?_)))
  refine pE rfl ?_
  refine WO.nil (qs (W.ret ?_))
  refine QB1.end tab [] trivial rfl rfl rfl rfl ?_ ?_
  · exact ⟨rfl, trivial⟩
  rfl
theorem need_fn (L : List Tk) (x : ByteArray) (st : PS) (h : st.1 < L.length) (hL : L.length ≤ 3000000) : DoesB Tryz.prog 26 [.ptr 0 0, .d (.v (.string x))] [bxP L st] 0 (.tup []) [bxP L (needP L x st)] 0 := by
 refine DoesB.of_V tab (n := 11) (rs := []) Tryz.func26 (by kernel_rfl) rfl Tryz.ntmps26 Tryz.results26 rfl rfl fun C hC hG => ?_
 refine W.seq (W.region ?_)
 iterate 2 refine pE rfl ?_
 refine callB [0] [] rfl rfl rfl rfl rfl ((skip_fn L x st h hL)) rfl rfl (by rfl) (by rfl) rfl rfl rfl rfl ?_
 refine pE rfl ?_
 refine WO.nil (qs ?_)
 refine condK rfl (fun h7 => ?_) (fun h7 => ?_)
 ·
  have e : skB L x st = false := by simpa using h7
  have e2 : skS L x st = st := by unfold skS; rw [e]; rfl
  have e3 : needP L x st = failS st := by unfold needP; rw [e]; rfl
  rw [e2, e3]
  refine W.region ?_
  iterate 3 refine pE rfl ?_
  refine storeR tab rfl rfl rfl rfl rfl rfl rfl rfl ?_
  refine WO.nil ?_
  refine QB1.end tab [] trivial rfl rfl rfl rfl ?_ ?_
  · exact ⟨rfl, trivial⟩
  rfl
 ·
  have e : skB L x st = true := by simpa using h7
  have e2 : skS L x st = adv st := by unfold skS; rw [e]; rfl
  have e3 : needP L x st = adv st := by unfold needP; rw [e]; rfl
  rw [e2, e3]
  refine W.skip ?_
  refine QB1.end tab [] trivial rfl rfl rfl rfl ?_ ?_
  · exact ⟨rfl, trivial⟩
  rfl
theorem isName_fn (L : List Tk) (st : PS) (h : st.1 < L.length) (hL : L.length ≤ 3000000) : Does Tryz.prog 52 [.row (bxP L st)] (.d (.v (.bool (nameB L st)))) 0 := by
 refine Does.of_W (n := 23) (ts := [2]) Tryz.func52 (by kernel_rfl) rfl Tryz.ntmps52 Tryz.results52 rfl rfl fun C hC hG => ?_
 refine W.seq (W.region ?_)
 refine pE rfl ?_
 refine WO.nil (qs (W.seq (W.region ?_)))
 refine pE rfl ?_
 refine pu (puCall rfl rfl rfl (peek0_fn L st h hL) rfl) rfl ?_
 refine allocR tab rfl rfl rfl ?_
 refine storeR tab rfl rfl rfl rfl rfl rfl rfl rfl ?_
 refine WO.nil (qs (W.seq ?_))
 apply regionB; (case hb => rfl)
 ·
  iterate 3 refine pE rfl ?_
  first | refine pE rfl ?_ | refine pR rfl rfl rfl rfl rfl ?_ | refine pB rfl rfl rfl rfl rfl rfl ?_
  iterate 2 refine pE rfl ?_
  apply splitJ; (case hj => rfl); (case hl => rfl)
  ·
   refine goG rfl rfl ?_
   refine pE rfl ?_
   refine goG rfl rfl ?_
   first | refine pE rfl ?_ | refine pR rfl rfl rfl rfl rfl ?_ | refine pB rfl rfl rfl rfl rfl rfl ?_
   refine goG rfl rfl ?_
   iterate 3 refine pE rfl ?_
   apply splitJ; (case hj => rfl); (case hl => rfl)
   ·
    refine goG rfl rfl ?_
    refine pu (buildV tab rfl rfl rfl rfl rfl rfl rfl rfl rfl) rfl ?_
    refine goG rfl rfl ?_
    refine pE rfl ?_
    refine goG rfl rfl ?_
    first | refine pE rfl ?_ | refine pR rfl rfl rfl rfl rfl ?_ | refine pB rfl rfl rfl rfl rfl rfl ?_
    refine goG rfl rfl ?_
    refine pu (puCall rfl rfl rfl (contains_fn words (if (tk0 L st).kind = 3 then E0 else (tk0 L st).s)) rfl) rfl ?_
    refine goG rfl rfl ?_
    iterate 3 refine pE rfl ?_
    refine WO.nil ?_
    refine qv1 rfl rfl rfl
   ·
    iterate 5 refine skipT rfl rfl rfl rfl ?_
    iterate 2 refine pE rfl ?_
    refine WO.nil ?_
    refine qv1 rfl rfl rfl
  ·
   iterate 3 refine skipT rfl rfl rfl rfl ?_
   iterate 2 refine pE rfl ?_
   iterate 5 refine skipT rfl rfl rfl rfl ?_
   iterate 2 refine pE rfl ?_
   refine WO.nil ?_
   refine qv1 rfl rfl rfl
 refine qs (W.ret ?_)
 refine QF.ret0 trivial rfl ?_
 refine bool_A ?_
 by_cases h3 : (tk0 L st).kind = 2
 ·
  have h4 : ¬ (tk0 L st).kind = 3 := by omega
  cases q : st.2 <;> simp [nameB, h3, q, resvd]
 · cases q : st.2 <;> simp [nameB, h3, q]
theorem name_fn' (L : List Tk) (st : PS) (h : st.1 < L.length) (hL : L.length ≤ 3000000) : DoesB Tryz.prog 27 [.ptr 0 0] [bxP L st] 0 (.d (.v (.string (nameP L st).1))) [bxP L (nameP L st).2] 0 := by
 cases q : nameB L st with
 | false =>
  have e : nameP L st = (E0, failS st) := by unfold nameP; rw [q]; rfl
  have hn := isName_fn L st h hL
  rw [q] at hn
  rw [e]
  refine DoesB.of_V tab (n := 16) (rs := [.tmp 2]) Tryz.func27 (by kernel_rfl) rfl Tryz.ntmps27 Tryz.results27 rfl rfl fun C hC hG => ?_
  refine W.seq (W.region ?_)
  refine pE rfl ?_
  refine WO.nil (qs ?_)
  iterate 2 refine W.seq ?_
  refine W.region ?_
  refine pE rfl ?_
  refine pu (puCall rfl rfl rfl hn rfl) rfl ?_
  refine pE rfl ?_
  refine WO.nil (qs ?_)
  refine condK rfl (fun h6 => ?_) (fun h6 => ?_)
  ·
   refine W.seq (W.region ?_)
   iterate 3 refine pE rfl ?_
   refine storeR tab rfl rfl rfl rfl rfl rfl rfl rfl ?_
   refine WO.nil (qs (W.seq (W.region ?_)))
   refine pE rfl ?_
   refine WO.nil (qs (W.ret (qsRet ?_)))
   refine QB1.end tab [] trivial rfl rfl rfl rfl ?_ ?_
   · exact ⟨rfl, trivial⟩
   rfl
  ·
   exfalso
   simp at h6
 | true =>
  have e : nameP L st = ((tk0 L st).s, adv st) := by unfold nameP; rw [q]; rfl
  have hn := isName_fn L st h hL
  rw [q] at hn
  rw [e]
  have hk : (tk0 L st).kind = 2 := by simp only [nameB, Bool.and_eq_true, decide_eq_true_eq] at q; exact q.2.1
  have hp := peek0_fn L st h hL
  rw [show (tk0 L st).c = [ci 2, cs (tk0 L st).s, ci (tk0 L st).n, ci ((tk0 L st).at_ : Int)] by unfold Tk.c; rw [hk]; rfl] at hp
  refine DoesB.of_V tab (n := 16) (rs := [.tmp 2]) Tryz.func27 (by kernel_rfl) rfl Tryz.ntmps27 Tryz.results27 rfl rfl fun C hC hG => ?_
  refine W.seq (W.region ?_)
  refine pE rfl ?_
  refine WO.nil (qs ?_)
  iterate 2 refine W.seq ?_
  refine W.region ?_
  refine pE rfl ?_
  refine pu (puCall rfl rfl rfl hn rfl) rfl ?_
  refine pE rfl ?_
  refine WO.nil (qs ?_)
  refine condK rfl (fun h6 => ?_) (fun h6 => ?_)
  ·
   exfalso
   simp at h6
  ·
   refine W.skip (qs (W.seq (W.region ?_)))
   refine pE rfl ?_
   refine pu (puCall rfl rfl rfl hp rfl) rfl ?_
   iterate 2 refine pE rfl ?_
   refine WO.nil (qs (W.seq (W.region ?_)))
   refine pE rfl ?_
   refine callB [0] [] rfl rfl rfl rfl rfl ((pass_fn L st h hL)) rfl rfl (by rfl) (by rfl) rfl rfl rfl rfl ?_
   refine WO.nil (qs (W.seq (W.region ?_)))
   iterate 2 refine pE rfl ?_
   refine WO.nil (qs (W.ret ?_))
   refine QB1.end tab [] trivial rfl rfl rfl rfl ?_ ?_
   · exact ⟨rfl, trivial⟩
   rfl
theorem listS_fn (L : List Tk) (hw : Wf L) (hL : L.length ≤ 3000000) (one : Pr ByteArray) (ho : Goes L one) (fid : FuncId) (d : Nat) (hone : ∀ st, st.1 < L.length → L.length - st.1 ≤ d → DoesB Tryz.prog fid [.ptr 0 0] [bxP L st] 0 (.d (.v (.string (one st).1))) [bxP L (one st).2] 0) (st : PS) (h : st.1 < L.length) (hd0 : L.length - st.1 ≤ d) :
  DoesB Tryz.prog 100 [.ptr 0 0, .bnd fid [.ptr 0 0]] [bxP L st] 0 (.d (.sl ((listP L one st).1.map sc))) [bxP L (listP L one st).2] 0 := by
 have l1 := ho.lt st h
 have m1 := ho.mono st
 refine DoesB.of_V tab (n := 17) (rs := [.tmp 4]) Tryz.func100 (by kernel_rfl) rfl Tryz.ntmps100 Tryz.results100 rfl rfl fun C hC hG => ?_
 refine W.seq (W.region ?_)
 refine pE rfl ?_
 refine WO.nil (qs (W.seq (W.region ?_)))
 refine pE rfl ?_
 refine callN [0] [] rfl rfl rfl rfl rfl (hone st h hd0) rfl rfl (by rfl) (by rfl) rfl rfl rfl rfl ?_
 refine buildO tab rfl rfl rfl rfl rfl rfl rfl rfl (by rfl) ?_
 refine pE rfl ?_
 refine WO.nil (qs (W.seq (W.block ?_)))
 refine W.loopR (ι := {x : Nat × PS × List ByteArray // match x with | (n, s1, acc) => s1.1 < L.length ∧ L.length - s1.1 ≤ d ∧ L.length - s1.1 ≤ n ∧ acc ++ (listGo L gCom one n s1).1 = (listP L one st).1 ∧ (listGo L gCom one n s1).2 = (listP L one st).2 ∧ acc.length ≤ s1.1 + 1})
  (fun x => match x.1 with | (n, s1, acc) => [(0, .ptr 0 0), (1, .bnd fid [.ptr 0 0]), (5, .own 1 (acc.map sc))]) []
  (fun x => match x.1 with | (n, s1, acc) => [(0, bxP L s1)]) [] [1] 2 (fun x => match x.1 with | (n, s1, acc) => n)
  [0, 2] ⟨(L.length, (one st).2, [(one st).1]), ?_⟩ rfl ?_ trivial ?_ trivial rfl ?_
 · exact ⟨l1, by omega, by omega, rfl, rfl, by simp⟩
 · repeat' first | exact trivial | refine ⟨rfl, ?_⟩ | refine ⟨step_nat (by assumption) (by assumption), ?_⟩
 · repeat' first | exact trivial | refine ⟨rfl, ?_⟩ | refine ⟨step_nat (by assumption) (by assumption), ?_⟩
 rintro ⟨⟨n, s1, acc⟩, hk, hd, hn, hI, hJ, hA⟩
 show W _ _ _ _ _ ⟨[(0, .ptr 0 0), (1, .bnd fid [.ptr 0 0]), (5, .own 1 (acc.map sc))], [(0, bxP L s1)], [1], 2⟩
 obtain ⟨n', rfl⟩ : ∃ n', n = n' + 1 := ⟨n - 1, by omega⟩
 simp only [listGo] at hI hJ
 iterate 2 refine W.seq ?_
 refine W.region ?_
 refine pE rfl ?_
 refine callB [0] [] rfl rfl rfl rfl rfl ((skip_fn L gCom s1 hk hL)) rfl rfl (by rfl) (by rfl) rfl rfl rfl rfl ?_
 refine WO.nil (qs ?_)
 refine condK rfl (fun h10 => ?_) (fun h10 => ?_)
 ·
  have l2 := skB_more hw h10 hk
  have l3 := ho.lt (adv s1) l2
  have m3 : s1.1 + 1 ≤ (one (adv s1)).2.1 := ho.mono (adv s1)
  rw [if_pos h10] at hI hJ
  rw [show skS L gCom s1 = adv s1 by unfold skS; rw [h10]; rfl]
  refine W.skip (qs (W.block (W.region ?_)))
  iterate 2 refine pE rfl ?_
  refine callN [0] [] rfl rfl rfl rfl rfl (hone (adv s1) l2 (by show L.length - (s1.1 + 1) ≤ d; omega)) rfl rfl (by rfl) (by rfl) rfl rfl rfl rfl ?_
  refine pu (buildV tab rfl rfl rfl rfl rfl rfl rfl rfl rfl) rfl ?_
  refine appendM (fn := sc) (a := (one (adv s1)).1) tab rfl rfl rfl rfl rfl rfl rfl rfl rfl rfl (fun _ => rfl) (by show (acc.length + 1) * 16 ≤ _; omega) ?_
  refine pE rfl ?_
  refine WO.nil (qbN ?_)
  first | (refine W.endR [0, 4] ⟨(n', (one (adv s1)).2, acc ++ [(one (adv s1)).1]), ?_⟩ ?_ rfl ?_ trivial ?_ trivial rfl) | (refine W.endR [0, 3] ⟨(n', (one (adv s1)).2, acc ++ [(one (adv s1)).1]), ?_⟩ ?_ rfl ?_ trivial ?_ trivial rfl) | (refine W.endR [0, 1] ⟨(n', (one (adv s1)).2, acc ++ [(one (adv s1)).1]), ?_⟩ ?_ rfl ?_ trivial ?_ trivial rfl)
  · exact ⟨l3, by omega, by omega, by rw [← hI]; simp, hJ, by simp; omega⟩
  · dsimp only; omega
  · repeat' first | exact trivial | refine ⟨rfl, ?_⟩ | refine ⟨step_nat (by assumption) (by assumption), ?_⟩
  · repeat' first | exact trivial | refine ⟨rfl, ?_⟩ | refine ⟨step_nat (by assumption) (by assumption), ?_⟩
 ·
  rw [if_neg (by simp [h10])] at hI hJ
  rw [show skS L gCom s1 = s1 by unfold skS; rw [h10]; rfl]
  simp only [List.append_nil] at hI hJ
  refine W.exit (qsExit (qlExit (qbExit (qs (W.seq (W.region ?_))))))
  iterate 2 refine pE rfl ?_
  refine WO.nil (qs (W.ret ?_))
  refine QB1.end tab [] trivial rfl rfl rfl rfl ?_ ?_
  ·
   rw [← hJ]
   exact ⟨rfl, trivial⟩
  rw [← hI]
  rfl
theorem listA_fn (L : List Tk) (hw : Wf L) (hL : L.length ≤ 3000000) (one : Pr Agr) (ho : Goes L one) (fid : FuncId) (d : Nat) (hone : ∀ st, st.1 < L.length → L.length - st.1 ≤ d → DoesB Tryz.prog fid [.ptr 0 0] [bxP L st] 0 (.ag (one st).1.c) [bxP L (one st).2] 0) (st : PS) (h : st.1 < L.length) (hd0 : L.length - st.1 ≤ d) :
  DoesB Tryz.prog 98 [.ptr 0 0, .bnd fid [.ptr 0 0]] [bxP L st] 0 (.d (.sl ((listP L one st).1.map Agr.c))) [bxP L (listP L one st).2] 0 := by
 have l1 := ho.lt st h
 have m1 := ho.mono st
 refine DoesB.of_V tab (n := 17) (rs := [.tmp 4]) Tryz.func98 (by kernel_rfl) rfl Tryz.ntmps98 Tryz.results98 rfl rfl fun C hC hG => ?_
 refine W.seq (W.region ?_)
 refine pE rfl ?_
 refine WO.nil (qs (W.seq (W.region ?_)))
 refine pE rfl ?_
 refine callN [0] [] rfl rfl rfl rfl rfl (hone st h hd0) rfl rfl (by rfl) (by rfl) rfl rfl rfl rfl ?_
 refine buildO tab rfl rfl rfl rfl rfl rfl rfl rfl (by rfl) ?_
 refine pE rfl ?_
 refine WO.nil (qs (W.seq (W.block ?_)))
 refine W.loopR (ι := {x : Nat × PS × List Agr // match x with | (n, s1, acc) => s1.1 < L.length ∧ L.length - s1.1 ≤ d ∧ L.length - s1.1 ≤ n ∧ acc ++ (listGo L gCom one n s1).1 = (listP L one st).1 ∧ (listGo L gCom one n s1).2 = (listP L one st).2 ∧ acc.length ≤ s1.1 + 1})
  (fun x => match x.1 with | (n, s1, acc) => [(0, .ptr 0 0), (1, .bnd fid [.ptr 0 0]), (5, .own 1 (acc.map Agr.c))]) []
  (fun x => match x.1 with | (n, s1, acc) => [(0, bxP L s1)]) [] [1] 2 (fun x => match x.1 with | (n, s1, acc) => n)
  [0, 2] ⟨(L.length, (one st).2, [(one st).1]), ?_⟩ rfl ?_ trivial ?_ trivial rfl ?_
 · exact ⟨l1, by omega, by omega, rfl, rfl, by simp⟩
 · repeat' first | exact trivial | refine ⟨rfl, ?_⟩ | refine ⟨step_nat (by assumption) (by assumption), ?_⟩
 · repeat' first | exact trivial | refine ⟨rfl, ?_⟩ | refine ⟨step_nat (by assumption) (by assumption), ?_⟩
 rintro ⟨⟨n, s1, acc⟩, hk, hd, hn, hI, hJ, hA⟩
 show W _ _ _ _ _ ⟨[(0, .ptr 0 0), (1, .bnd fid [.ptr 0 0]), (5, .own 1 (acc.map Agr.c))], [(0, bxP L s1)], [1], 2⟩
 obtain ⟨n', rfl⟩ : ∃ n', n = n' + 1 := ⟨n - 1, by omega⟩
 simp only [listGo] at hI hJ
 iterate 2 refine W.seq ?_
 refine W.region ?_
 refine pE rfl ?_
 refine callB [0] [] rfl rfl rfl rfl rfl ((skip_fn L gCom s1 hk hL)) rfl rfl (by rfl) (by rfl) rfl rfl rfl rfl ?_
 refine WO.nil (qs ?_)
 refine condK rfl (fun h10 => ?_) (fun h10 => ?_)
 ·
  have l2 := skB_more hw h10 hk
  have l3 := ho.lt (adv s1) l2
  have m3 : s1.1 + 1 ≤ (one (adv s1)).2.1 := ho.mono (adv s1)
  rw [if_pos h10] at hI hJ
  rw [show skS L gCom s1 = adv s1 by unfold skS; rw [h10]; rfl]
  refine W.skip (qs (W.block (W.region ?_)))
  iterate 2 refine pE rfl ?_
  refine callN [0] [] rfl rfl rfl rfl rfl (hone (adv s1) l2 (by show L.length - (s1.1 + 1) ≤ d; omega)) rfl rfl (by rfl) (by rfl) rfl rfl rfl rfl ?_
  refine pu (buildV tab rfl rfl rfl rfl rfl rfl rfl rfl rfl) rfl ?_
  refine appendM (fn := Agr.c) (a := (one (adv s1)).1) tab rfl rfl rfl rfl rfl rfl rfl rfl rfl rfl (fun _ => rfl) (by show (acc.length + 1) * 48 ≤ _; omega) ?_
  refine pE rfl ?_
  refine WO.nil (qbN ?_)
  first | (refine W.endR [0, 4] ⟨(n', (one (adv s1)).2, acc ++ [(one (adv s1)).1]), ?_⟩ ?_ rfl ?_ trivial ?_ trivial rfl) | (refine W.endR [0, 3] ⟨(n', (one (adv s1)).2, acc ++ [(one (adv s1)).1]), ?_⟩ ?_ rfl ?_ trivial ?_ trivial rfl) | (refine W.endR [0, 1] ⟨(n', (one (adv s1)).2, acc ++ [(one (adv s1)).1]), ?_⟩ ?_ rfl ?_ trivial ?_ trivial rfl)
  · exact ⟨l3, by omega, by omega, by rw [← hI]; simp, hJ, by simp; omega⟩
  · dsimp only; omega
  · repeat' first | exact trivial | refine ⟨rfl, ?_⟩ | refine ⟨step_nat (by assumption) (by assumption), ?_⟩
  · repeat' first | exact trivial | refine ⟨rfl, ?_⟩ | refine ⟨step_nat (by assumption) (by assumption), ?_⟩
 ·
  rw [if_neg (by simp [h10])] at hI hJ
  rw [show skS L gCom s1 = s1 by unfold skS; rw [h10]; rfl]
  simp only [List.append_nil] at hI hJ
  refine W.exit (qsExit (qlExit (qbExit (qs (W.seq (W.region ?_))))))
  iterate 2 refine pE rfl ?_
  refine WO.nil (qs (W.ret ?_))
  refine QB1.end tab [] trivial rfl rfl rfl rfl ?_ ?_
  ·
   rw [← hJ]
   exact ⟨rfl, trivial⟩
  rw [← hI]
  rfl
theorem listR_fn (L : List Tk) (hw : Wf L) (hL : L.length ≤ 3000000) (one : Pr Srt) (ho : Goes L one) (fid : FuncId) (d : Nat) (hone : ∀ st, st.1 < L.length → L.length - st.1 ≤ d → DoesB Tryz.prog fid [.ptr 0 0] [bxP L st] 0 (.ag (one st).1.c) [bxP L (one st).2] 0) (st : PS) (h : st.1 < L.length) (hd0 : L.length - st.1 ≤ d) :
  DoesB Tryz.prog 58 [.ptr 0 0, .bnd fid [.ptr 0 0]] [bxP L st] 0 (.d (.sl ((listP L one st).1.map Srt.c))) [bxP L (listP L one st).2] 0 := by
 have l1 := ho.lt st h
 have m1 := ho.mono st
 refine DoesB.of_V tab (n := 17) (rs := [.tmp 4]) Tryz.func58 (by kernel_rfl) rfl Tryz.ntmps58 Tryz.results58 rfl rfl fun C hC hG => ?_
 refine W.seq (W.region ?_)
 refine pE rfl ?_
 refine WO.nil (qs (W.seq (W.region ?_)))
 refine pE rfl ?_
 refine callN [0] [] rfl rfl rfl rfl rfl (hone st h hd0) rfl rfl (by rfl) (by rfl) rfl rfl rfl rfl ?_
 refine buildO tab rfl rfl rfl rfl rfl rfl rfl rfl (by rfl) ?_
 refine pE rfl ?_
 refine WO.nil (qs (W.seq (W.block ?_)))
 refine W.loopR (ι := {x : Nat × PS × List Srt // match x with | (n, s1, acc) => s1.1 < L.length ∧ L.length - s1.1 ≤ d ∧ L.length - s1.1 ≤ n ∧ acc ++ (listGo L gCom one n s1).1 = (listP L one st).1 ∧ (listGo L gCom one n s1).2 = (listP L one st).2 ∧ acc.length ≤ s1.1 + 1})
  (fun x => match x.1 with | (n, s1, acc) => [(0, .ptr 0 0), (1, .bnd fid [.ptr 0 0]), (5, .own 1 (acc.map Srt.c))]) []
  (fun x => match x.1 with | (n, s1, acc) => [(0, bxP L s1)]) [] [1] 2 (fun x => match x.1 with | (n, s1, acc) => n)
  [0, 2] ⟨(L.length, (one st).2, [(one st).1]), ?_⟩ rfl ?_ trivial ?_ trivial rfl ?_
 · exact ⟨l1, by omega, by omega, rfl, rfl, by simp⟩
 · repeat' first | exact trivial | refine ⟨rfl, ?_⟩ | refine ⟨step_nat (by assumption) (by assumption), ?_⟩
 · repeat' first | exact trivial | refine ⟨rfl, ?_⟩ | refine ⟨step_nat (by assumption) (by assumption), ?_⟩
 rintro ⟨⟨n, s1, acc⟩, hk, hd, hn, hI, hJ, hA⟩
 show W _ _ _ _ _ ⟨[(0, .ptr 0 0), (1, .bnd fid [.ptr 0 0]), (5, .own 1 (acc.map Srt.c))], [(0, bxP L s1)], [1], 2⟩
 obtain ⟨n', rfl⟩ : ∃ n', n = n' + 1 := ⟨n - 1, by omega⟩
 simp only [listGo] at hI hJ
 iterate 2 refine W.seq ?_
 refine W.region ?_
 refine pE rfl ?_
 refine callB [0] [] rfl rfl rfl rfl rfl ((skip_fn L gCom s1 hk hL)) rfl rfl (by rfl) (by rfl) rfl rfl rfl rfl ?_
 refine WO.nil (qs ?_)
 refine condK rfl (fun h10 => ?_) (fun h10 => ?_)
 ·
  have l2 := skB_more hw h10 hk
  have l3 := ho.lt (adv s1) l2
  have m3 : s1.1 + 1 ≤ (one (adv s1)).2.1 := ho.mono (adv s1)
  rw [if_pos h10] at hI hJ
  rw [show skS L gCom s1 = adv s1 by unfold skS; rw [h10]; rfl]
  refine W.skip (qs (W.block (W.region ?_)))
  iterate 2 refine pE rfl ?_
  refine callN [0] [] rfl rfl rfl rfl rfl (hone (adv s1) l2 (by show L.length - (s1.1 + 1) ≤ d; omega)) rfl rfl (by rfl) (by rfl) rfl rfl rfl rfl ?_
  refine pu (buildV tab rfl rfl rfl rfl rfl rfl rfl rfl rfl) rfl ?_
  refine appendM (fn := Srt.c) (a := (one (adv s1)).1) tab rfl rfl rfl rfl rfl rfl rfl rfl rfl rfl (fun _ => rfl) (by show (acc.length + 1) * 24 ≤ _; omega) ?_
  refine pE rfl ?_
  refine WO.nil (qbN ?_)
  first | (refine W.endR [0, 4] ⟨(n', (one (adv s1)).2, acc ++ [(one (adv s1)).1]), ?_⟩ ?_ rfl ?_ trivial ?_ trivial rfl) | (refine W.endR [0, 3] ⟨(n', (one (adv s1)).2, acc ++ [(one (adv s1)).1]), ?_⟩ ?_ rfl ?_ trivial ?_ trivial rfl) | (refine W.endR [0, 1] ⟨(n', (one (adv s1)).2, acc ++ [(one (adv s1)).1]), ?_⟩ ?_ rfl ?_ trivial ?_ trivial rfl)
  · exact ⟨l3, by omega, by omega, by rw [← hI]; simp, hJ, by simp; omega⟩
  · dsimp only; omega
  · repeat' first | exact trivial | refine ⟨rfl, ?_⟩ | refine ⟨step_nat (by assumption) (by assumption), ?_⟩
  · repeat' first | exact trivial | refine ⟨rfl, ?_⟩ | refine ⟨step_nat (by assumption) (by assumption), ?_⟩
 ·
  rw [if_neg (by simp [h10])] at hI hJ
  rw [show skS L gCom s1 = s1 by unfold skS; rw [h10]; rfl]
  simp only [List.append_nil] at hI hJ
  refine W.exit (qsExit (qlExit (qbExit (qs (W.seq (W.region ?_))))))
  iterate 2 refine pE rfl ?_
  refine WO.nil (qs (W.ret ?_))
  refine QB1.end tab [] trivial rfl rfl rfl rfl ?_ ?_
  ·
   rw [← hJ]
   exact ⟨rfl, trivial⟩
  rw [← hI]
  rfl
theorem listI_fn (L : List Tk) (hw : Wf L) (hL : L.length ≤ 3000000) (one : Pr Itm) (ho : Goes L one) (fid : FuncId) (d : Nat) (hone : ∀ st, st.1 < L.length → L.length - st.1 ≤ d → DoesB Tryz.prog fid [.ptr 0 0] [bxP L st] 0 (.ag (one st).1.c) [bxP L (one st).2] 0) (st : PS) (h : st.1 < L.length) (hd0 : L.length - st.1 ≤ d) :
  DoesB Tryz.prog 55 [.ptr 0 0, .bnd fid [.ptr 0 0]] [bxP L st] 0 (.d (.sl ((listP L one st).1.map Itm.c))) [bxP L (listP L one st).2] 0 := by
 have l1 := ho.lt st h
 have m1 := ho.mono st
 refine DoesB.of_V tab (n := 17) (rs := [.tmp 4]) Tryz.func55 (by kernel_rfl) rfl Tryz.ntmps55 Tryz.results55 rfl rfl fun C hC hG => ?_
 refine W.seq (W.region ?_)
 refine pE rfl ?_
 refine WO.nil (qs (W.seq (W.region ?_)))
 refine pE rfl ?_
 refine callN [0] [] rfl rfl rfl rfl rfl (hone st h hd0) rfl rfl (by rfl) (by rfl) rfl rfl rfl rfl ?_
 refine buildO tab rfl rfl rfl rfl rfl rfl rfl rfl (by rfl) ?_
 refine pE rfl ?_
 refine WO.nil (qs (W.seq (W.block ?_)))
 refine W.loopR (ι := {x : Nat × PS × List Itm // match x with | (n, s1, acc) => s1.1 < L.length ∧ L.length - s1.1 ≤ d ∧ L.length - s1.1 ≤ n ∧ acc ++ (listGo L gCom one n s1).1 = (listP L one st).1 ∧ (listGo L gCom one n s1).2 = (listP L one st).2 ∧ acc.length ≤ s1.1 + 1})
  (fun x => match x.1 with | (n, s1, acc) => [(0, .ptr 0 0), (1, .bnd fid [.ptr 0 0]), (5, .own 1 (acc.map Itm.c))]) []
  (fun x => match x.1 with | (n, s1, acc) => [(0, bxP L s1)]) [] [1] 2 (fun x => match x.1 with | (n, s1, acc) => n)
  [0, 2] ⟨(L.length, (one st).2, [(one st).1]), ?_⟩ rfl ?_ trivial ?_ trivial rfl ?_
 · exact ⟨l1, by omega, by omega, rfl, rfl, by simp⟩
 · repeat' first | exact trivial | refine ⟨rfl, ?_⟩ | refine ⟨step_nat (by assumption) (by assumption), ?_⟩
 · repeat' first | exact trivial | refine ⟨rfl, ?_⟩ | refine ⟨step_nat (by assumption) (by assumption), ?_⟩
 rintro ⟨⟨n, s1, acc⟩, hk, hd, hn, hI, hJ, hA⟩
 show W _ _ _ _ _ ⟨[(0, .ptr 0 0), (1, .bnd fid [.ptr 0 0]), (5, .own 1 (acc.map Itm.c))], [(0, bxP L s1)], [1], 2⟩
 obtain ⟨n', rfl⟩ : ∃ n', n = n' + 1 := ⟨n - 1, by omega⟩
 simp only [listGo] at hI hJ
 iterate 2 refine W.seq ?_
 refine W.region ?_
 refine pE rfl ?_
 refine callB [0] [] rfl rfl rfl rfl rfl ((skip_fn L gCom s1 hk hL)) rfl rfl (by rfl) (by rfl) rfl rfl rfl rfl ?_
 refine WO.nil (qs ?_)
 refine condK rfl (fun h10 => ?_) (fun h10 => ?_)
 ·
  have l2 := skB_more hw h10 hk
  have l3 := ho.lt (adv s1) l2
  have m3 : s1.1 + 1 ≤ (one (adv s1)).2.1 := ho.mono (adv s1)
  rw [if_pos h10] at hI hJ
  rw [show skS L gCom s1 = adv s1 by unfold skS; rw [h10]; rfl]
  refine W.skip (qs (W.block (W.region ?_)))
  iterate 2 refine pE rfl ?_
  refine callN [0] [] rfl rfl rfl rfl rfl (hone (adv s1) l2 (by show L.length - (s1.1 + 1) ≤ d; omega)) rfl rfl (by rfl) (by rfl) rfl rfl rfl rfl ?_
  refine pu (buildV tab rfl rfl rfl rfl rfl rfl rfl rfl rfl) rfl ?_
  refine appendM (fn := Itm.c) (a := (one (adv s1)).1) tab rfl rfl rfl rfl rfl rfl rfl rfl rfl rfl (fun _ => rfl) (by show (acc.length + 1) * 96 ≤ _; omega) ?_
  refine pE rfl ?_
  refine WO.nil (qbN ?_)
  first | (refine W.endR [0, 4] ⟨(n', (one (adv s1)).2, acc ++ [(one (adv s1)).1]), ?_⟩ ?_ rfl ?_ trivial ?_ trivial rfl) | (refine W.endR [0, 3] ⟨(n', (one (adv s1)).2, acc ++ [(one (adv s1)).1]), ?_⟩ ?_ rfl ?_ trivial ?_ trivial rfl) | (refine W.endR [0, 1] ⟨(n', (one (adv s1)).2, acc ++ [(one (adv s1)).1]), ?_⟩ ?_ rfl ?_ trivial ?_ trivial rfl)
  · exact ⟨l3, by omega, by omega, by rw [← hI]; simp, hJ, by simp; omega⟩
  · dsimp only; omega
  · repeat' first | exact trivial | refine ⟨rfl, ?_⟩ | refine ⟨step_nat (by assumption) (by assumption), ?_⟩
  · repeat' first | exact trivial | refine ⟨rfl, ?_⟩ | refine ⟨step_nat (by assumption) (by assumption), ?_⟩
 ·
  rw [if_neg (by simp [h10])] at hI hJ
  rw [show skS L gCom s1 = s1 by unfold skS; rw [h10]; rfl]
  simp only [List.append_nil] at hI hJ
  refine W.exit (qsExit (qlExit (qbExit (qs (W.seq (W.region ?_))))))
  iterate 2 refine pE rfl ?_
  refine WO.nil (qs (W.ret ?_))
  refine QB1.end tab [] trivial rfl rfl rfl rfl ?_ ?_
  ·
   rw [← hJ]
   exact ⟨rfl, trivial⟩
  rw [← hI]
  rfl
theorem listE_fn (L : List Tk) (hw : Wf L) (hL : L.length ≤ 3000000) (one : Pr Ex) (ho : Goes L one) (fid : FuncId) (d : Nat) (hone : ∀ st, st.1 < L.length → L.length - st.1 ≤ d → DoesB Tryz.prog fid [.ptr 0 0] [bxP L st] 0 (.ag (one st).1.c) [bxP L (one st).2] 0) (st : PS) (h : st.1 < L.length) (hd0 : L.length - st.1 ≤ d) :
  DoesB Tryz.prog 176 [.ptr 0 0, .bnd fid [.ptr 0 0]] [bxP L st] 0 (.d (.sl ((listP L one st).1.map Ex.c))) [bxP L (listP L one st).2] 0 := by
 have l1 := ho.lt st h
 have m1 := ho.mono st
 refine DoesB.of_V tab (n := 17) (rs := [.tmp 4]) Tryz.func176 (by kernel_rfl) rfl Tryz.ntmps176 Tryz.results176 rfl rfl fun C hC hG => ?_
 refine W.seq (W.region ?_)
 refine pE rfl ?_
 refine WO.nil (qs (W.seq (W.region ?_)))
 refine pE rfl ?_
 refine callN [0] [] rfl rfl rfl rfl rfl (hone st h hd0) rfl rfl (by rfl) (by rfl) rfl rfl rfl rfl ?_
 refine buildO tab rfl rfl rfl rfl rfl rfl rfl rfl (by rfl) ?_
 refine pE rfl ?_
 refine WO.nil (qs (W.seq (W.block ?_)))
 refine W.loopR (ι := {x : Nat × PS × List Ex // match x with | (n, s1, acc) => s1.1 < L.length ∧ L.length - s1.1 ≤ d ∧ L.length - s1.1 ≤ n ∧ acc ++ (listGo L gCom one n s1).1 = (listP L one st).1 ∧ (listGo L gCom one n s1).2 = (listP L one st).2 ∧ acc.length ≤ s1.1 + 1})
  (fun x => match x.1 with | (n, s1, acc) => [(0, .ptr 0 0), (1, .bnd fid [.ptr 0 0]), (5, .own 1 (acc.map Ex.c))]) []
  (fun x => match x.1 with | (n, s1, acc) => [(0, bxP L s1)]) [] [1] 2 (fun x => match x.1 with | (n, s1, acc) => n)
  [0, 2] ⟨(L.length, (one st).2, [(one st).1]), ?_⟩ rfl ?_ trivial ?_ trivial rfl ?_
 · exact ⟨l1, by omega, by omega, rfl, rfl, by simp⟩
 · repeat' first | exact trivial | refine ⟨rfl, ?_⟩ | refine ⟨step_nat (by assumption) (by assumption), ?_⟩
 · repeat' first | exact trivial | refine ⟨rfl, ?_⟩ | refine ⟨step_nat (by assumption) (by assumption), ?_⟩
 rintro ⟨⟨n, s1, acc⟩, hk, hd, hn, hI, hJ, hA⟩
 show W _ _ _ _ _ ⟨[(0, .ptr 0 0), (1, .bnd fid [.ptr 0 0]), (5, .own 1 (acc.map Ex.c))], [(0, bxP L s1)], [1], 2⟩
 obtain ⟨n', rfl⟩ : ∃ n', n = n' + 1 := ⟨n - 1, by omega⟩
 simp only [listGo] at hI hJ
 iterate 2 refine W.seq ?_
 refine W.region ?_
 refine pE rfl ?_
 refine callB [0] [] rfl rfl rfl rfl rfl ((skip_fn L gCom s1 hk hL)) rfl rfl (by rfl) (by rfl) rfl rfl rfl rfl ?_
 refine WO.nil (qs ?_)
 refine condK rfl (fun h10 => ?_) (fun h10 => ?_)
 ·
  have l2 := skB_more hw h10 hk
  have l3 := ho.lt (adv s1) l2
  have m3 : s1.1 + 1 ≤ (one (adv s1)).2.1 := ho.mono (adv s1)
  rw [if_pos h10] at hI hJ
  rw [show skS L gCom s1 = adv s1 by unfold skS; rw [h10]; rfl]
  refine W.skip (qs (W.block (W.region ?_)))
  iterate 2 refine pE rfl ?_
  refine callN [0] [] rfl rfl rfl rfl rfl (hone (adv s1) l2 (by show L.length - (s1.1 + 1) ≤ d; omega)) rfl rfl (by rfl) (by rfl) rfl rfl rfl rfl ?_
  refine pu (buildV tab rfl rfl rfl rfl rfl rfl rfl rfl rfl) rfl ?_
  refine appendM (fn := Ex.c) (a := (one (adv s1)).1) tab rfl rfl rfl rfl rfl rfl rfl rfl rfl rfl (fun _ => rfl) (by show (acc.length + 1) * 80 ≤ _; omega) ?_
  refine pE rfl ?_
  refine WO.nil (qbN ?_)
  first | (refine W.endR [0, 4] ⟨(n', (one (adv s1)).2, acc ++ [(one (adv s1)).1]), ?_⟩ ?_ rfl ?_ trivial ?_ trivial rfl) | (refine W.endR [0, 3] ⟨(n', (one (adv s1)).2, acc ++ [(one (adv s1)).1]), ?_⟩ ?_ rfl ?_ trivial ?_ trivial rfl) | (refine W.endR [0, 1] ⟨(n', (one (adv s1)).2, acc ++ [(one (adv s1)).1]), ?_⟩ ?_ rfl ?_ trivial ?_ trivial rfl)
  · exact ⟨l3, by omega, by omega, by rw [← hI]; simp, hJ, by simp; omega⟩
  · dsimp only; omega
  · repeat' first | exact trivial | refine ⟨rfl, ?_⟩ | refine ⟨step_nat (by assumption) (by assumption), ?_⟩
  · repeat' first | exact trivial | refine ⟨rfl, ?_⟩ | refine ⟨step_nat (by assumption) (by assumption), ?_⟩
 ·
  rw [if_neg (by simp [h10])] at hI hJ
  rw [show skS L gCom s1 = s1 by unfold skS; rw [h10]; rfl]
  simp only [List.append_nil] at hI hJ
  refine W.exit (qsExit (qlExit (qbExit (qs (W.seq (W.region ?_))))))
  iterate 2 refine pE rfl ?_
  refine WO.nil (qs (W.ret ?_))
  refine QB1.end tab [] trivial rfl rfl rfl rfl ?_ ?_
  ·
   rw [← hJ]
   exact ⟨rfl, trivial⟩
  rw [← hI]
  rfl
end Go.Proofs.YtifeonoehfffmaaGreatDoor
namespace Go.Proofs.YtifeonoehfffmaaGreatDoor
open Go.Ab Go.Tb
set_option maxRecDepth 10000
attribute [local irreducible] W WO Pu QS QB QL QF QV QV1 CH QE
@[reducible] def binC (o : ByteArray × Int) : List D := [cs o.1, ci o.2]
theorem skS_no {L : List Tk} {x : ByteArray} {st : PS} (h : skB L x st = false) : skS L x st = st := by unfold skS; rw [h]; rfl
theorem skS_yes {L : List Tk} {x : ByteArray} {st : PS} (h : skB L x st = true) : skS L x st = adv st := by unfold skS; rw [h]; rfl
theorem agg_fn (L : List Tk) (hw : Wf L) (hL : L.length ≤ 3000000) (st : PS) (h : st.1 < L.length) : DoesB Tryz.prog 99 [.ptr 0 0] [bxP L st] 0 (.ag (aggP L st).1.c) [bxP L (aggP L st).2] 0 := by
 have a1 := (nameP_goes hw).lt st h
 have a2 : (needP L gOpen (nameP L st).2).1 < L.length := (needP_goes hw gOpen).lt _ a1
 have hn := isName_fn L _ a2 hL
 cases q : nameB L (needP L gOpen (nameP L st).2) with
 | false =>
  rw [q] at hn
  have a4 : (needP L gShut (needP L gOpen (nameP L st).2)).1 < L.length := (needP_goes hw gShut).lt _ a2
  have a5 : (needP L kwAs (needP L gShut (needP L gOpen (nameP L st).2))).1 < L.length := (needP_goes hw kwAs).lt _ a4
  rw [show aggP L st = (⟨(nameP L st).1, E0, (nameP L (needP L kwAs (needP L gShut (needP L gOpen (nameP L st).2)))).1⟩, (nameP L (needP L kwAs (needP L gShut (needP L gOpen (nameP L st).2)))).2) by unfold aggP; simp only [q]; rfl]
  refine DoesB.of_V tab (n := 22) (rs := [.cell 2 106]) Tryz.func99 (by kernel_rfl) rfl Tryz.ntmps99 Tryz.results99 rfl rfl fun C hC hG => ?_
  refine W.seq (W.region ?_)
  refine allocR tab rfl rfl rfl ?_
  refine WO.nil (qs (W.seq (W.region ?_)))
  refine pE rfl ?_
  refine callB [0] [] rfl rfl rfl rfl rfl ((name_fn' L st h hL)) rfl rfl (by rfl) (by rfl) rfl rfl rfl rfl ?_
  refine pu (build tab rfl rfl rfl rfl) rfl ?_
  refine allocR tab rfl rfl rfl ?_
  refine storeR tab rfl rfl rfl rfl rfl rfl rfl rfl ?_
  refine WO.nil (qs (W.seq (W.region ?_)))
  refine pE rfl ?_
  refine callB [0] [] rfl rfl rfl rfl rfl ((need_fn L gOpen _ a1 hL)) rfl rfl (by rfl) (by rfl) rfl rfl rfl rfl ?_
  refine WO.nil (qs ?_)
  iterate 2 refine W.seq ?_
  refine W.region ?_
  refine pE rfl ?_
  refine pu (puCall rfl rfl rfl hn rfl) rfl ?_
  refine WO.nil (qs ?_)
  refine condK rfl (fun h10 => ?_) (fun h10 => ?_)
  ·
   exfalso
   simp at h10
  ·
   refine W.skip (qs (W.seq (W.region ?_)))
   refine pE rfl ?_
   refine callB [0] [] rfl rfl rfl rfl rfl ((need_fn L gShut _ a2 hL)) rfl rfl (by rfl) (by rfl) rfl rfl rfl rfl ?_
   refine WO.nil (qs (W.seq (W.region ?_)))
   refine pE rfl ?_
   refine callB [0] [] rfl rfl rfl rfl rfl ((need_fn L kwAs _ a4 hL)) rfl rfl (by rfl) (by rfl) rfl rfl rfl rfl ?_
   refine WO.nil (qs (W.seq (W.region ?_)))
   refine pE rfl ?_
   refine callB [0] [] rfl rfl rfl rfl rfl ((name_fn' L _ a5 hL)) rfl rfl (by rfl) (by rfl) rfl rfl rfl rfl ?_
   refine pE rfl ?_
   refine storeR tab rfl rfl rfl rfl rfl rfl rfl rfl ?_
   refine WO.nil (qs (W.seq (W.region ?_)))
   first | refine pE rfl ?_ | refine pR rfl rfl rfl rfl rfl ?_ | refine pB rfl rfl rfl rfl rfl rfl ?_
   refine storeR tab rfl rfl rfl rfl rfl rfl rfl rfl ?_
   refine WO.nil (qs (W.ret ?_))
   refine QB1.end tab [] trivial rfl rfl rfl rfl ?_ ?_
   · exact ⟨rfl, trivial⟩
   rfl
 | true =>
  rw [q] at hn
  have a3 := (nameP_goes hw).lt _ a2
  have a4 : (needP L gShut (nameP L (needP L gOpen (nameP L st).2)).2).1 < L.length := (needP_goes hw gShut).lt _ a3
  have a5 : (needP L kwAs (needP L gShut (nameP L (needP L gOpen (nameP L st).2)).2)).1 < L.length := (needP_goes hw kwAs).lt _ a4
  rw [show aggP L st = (⟨(nameP L st).1, (nameP L (needP L gOpen (nameP L st).2)).1, (nameP L (needP L kwAs (needP L gShut (nameP L (needP L gOpen (nameP L st).2)).2))).1⟩, (nameP L (needP L kwAs (needP L gShut (nameP L (needP L gOpen (nameP L st).2)).2))).2) by unfold aggP; simp only [q]; rfl]
  refine DoesB.of_V tab (n := 22) (rs := [.cell 2 106]) Tryz.func99 (by kernel_rfl) rfl Tryz.ntmps99 Tryz.results99 rfl rfl fun C hC hG => ?_
  refine W.seq (W.region ?_)
  refine allocR tab rfl rfl rfl ?_
  refine WO.nil (qs (W.seq (W.region ?_)))
  refine pE rfl ?_
  refine callB [0] [] rfl rfl rfl rfl rfl ((name_fn' L st h hL)) rfl rfl (by rfl) (by rfl) rfl rfl rfl rfl ?_
  refine pu (build tab rfl rfl rfl rfl) rfl ?_
  refine allocR tab rfl rfl rfl ?_
  refine storeR tab rfl rfl rfl rfl rfl rfl rfl rfl ?_
  refine WO.nil (qs (W.seq (W.region ?_)))
  refine pE rfl ?_
  refine callB [0] [] rfl rfl rfl rfl rfl ((need_fn L gOpen _ a1 hL)) rfl rfl (by rfl) (by rfl) rfl rfl rfl rfl ?_
  refine WO.nil (qs ?_)
  iterate 2 refine W.seq ?_
  refine W.region ?_
  refine pE rfl ?_
  refine pu (puCall rfl rfl rfl hn rfl) rfl ?_
  refine WO.nil (qs ?_)
  refine condK rfl (fun h10 => ?_) (fun h10 => ?_)
  ·
   refine W.region ?_
   refine pE rfl ?_
   refine callB [0] [] rfl rfl rfl rfl rfl ((name_fn' L _ a2 hL)) rfl rfl (by rfl) (by rfl) rfl rfl rfl rfl ?_
   refine pE rfl ?_
   refine storeR tab rfl rfl rfl rfl rfl rfl rfl rfl ?_
   refine WO.nil (qs (W.seq (W.region ?_)))
   refine pE rfl ?_
   refine callB [0] [] rfl rfl rfl rfl rfl ((need_fn L gShut _ a3 hL)) rfl rfl (by rfl) (by rfl) rfl rfl rfl rfl ?_
   refine WO.nil (qs (W.seq (W.region ?_)))
   refine pE rfl ?_
   refine callB [0] [] rfl rfl rfl rfl rfl ((need_fn L kwAs _ a4 hL)) rfl rfl (by rfl) (by rfl) rfl rfl rfl rfl ?_
   refine WO.nil (qs (W.seq (W.region ?_)))
   refine pE rfl ?_
   refine callB [0] [] rfl rfl rfl rfl rfl ((name_fn' L _ a5 hL)) rfl rfl (by rfl) (by rfl) rfl rfl rfl rfl ?_
   refine pE rfl ?_
   refine storeR tab rfl rfl rfl rfl rfl rfl rfl rfl ?_
   refine WO.nil (qs (W.seq (W.region ?_)))
   first | refine pE rfl ?_ | refine pR rfl rfl rfl rfl rfl ?_ | refine pB rfl rfl rfl rfl rfl rfl ?_
   refine storeR tab rfl rfl rfl rfl rfl rfl rfl rfl ?_
   refine WO.nil (qs (W.ret ?_))
   refine QB1.end tab [] trivial rfl rfl rfl rfl ?_ ?_
   · exact ⟨rfl, trivial⟩
   rfl
  ·
   exfalso
   simp at h10
theorem sort_fn (L : List Tk) (hw : Wf L) (hL : L.length ≤ 3000000) (st : PS) (h : st.1 < L.length) : DoesB Tryz.prog 59 [.ptr 0 0] [bxP L st] 0 (.ag (sortP L st).1.c) [bxP L (sortP L st).2] 0 := by
 have a1 := (nameP_goes hw).lt st h
 refine DoesB.of_V tab (n := 11) (rs := [.cell 2 92]) Tryz.func59 (by kernel_rfl) rfl Tryz.ntmps59 Tryz.results59 rfl rfl fun C hC hG => ?_
 refine W.seq (W.region ?_)
 refine allocR tab rfl rfl rfl ?_
 refine WO.nil (qs (W.seq (W.region ?_)))
 refine pE rfl ?_
 refine callB [0] [] rfl rfl rfl rfl rfl ((name_fn' L st h hL)) rfl rfl (by rfl) (by rfl) rfl rfl rfl rfl ?_
 refine pu (build tab rfl rfl rfl rfl) rfl ?_
 refine allocR tab rfl rfl rfl ?_
 refine storeR tab rfl rfl rfl rfl rfl rfl rfl rfl ?_
 refine WO.nil (qs (W.seq (W.region ?_)))
 refine pE rfl ?_
 refine callB [0] [] rfl rfl rfl rfl rfl ((skip_fn L kwDesc _ a1 hL)) rfl rfl (by rfl) (by rfl) rfl rfl rfl rfl ?_
 refine pE rfl ?_
 refine storeR tab rfl rfl rfl rfl rfl rfl rfl rfl ?_
 refine WO.nil (qs (W.seq (W.region ?_)))
 first | refine pE rfl ?_ | refine pR rfl rfl rfl rfl rfl ?_ | refine pB rfl rfl rfl rfl rfl rfl ?_
 refine storeR tab rfl rfl rfl rfl rfl rfl rfl rfl ?_
 refine WO.nil (qs (W.ret ?_))
 refine QB1.end tab [] trivial rfl rfl rfl rfl ?_ ?_
 · exact ⟨rfl, trivial⟩
 rfl
theorem limit_fn (L : List Tk) (st : PS) (h : st.1 < L.length) (hL : L.length ≤ 3000000) : DoesB Tryz.prog 60 [.ptr 0 0] [bxP L st] 0 (.d (.v (.int .i64 (limP L st).1))) [bxP L (limP L st).2] 0 := by
 refine DoesB.of_V tab (n := 22) (rs := [.tmp 2]) Tryz.func60 (by kernel_rfl) rfl Tryz.ntmps60 Tryz.results60 rfl rfl fun C hC hG => ?_
 refine W.seq (W.region ?_)
 refine pE rfl ?_
 refine WO.nil (qs (W.seq (W.region ?_)))
 refine pE rfl ?_
 refine pu (puCall rfl rfl rfl (peek0_fn L st h hL) rfl) rfl ?_
 refine allocR tab rfl rfl rfl ?_
 refine storeR tab rfl rfl rfl rfl rfl rfl rfl rfl ?_
 refine WO.nil (qs ?_)
 iterate 2 refine W.seq ?_
 apply regionB; (case hb => rfl)
 ·
  iterate 3 refine pE rfl ?_
  first | refine pE rfl ?_ | refine pR rfl rfl rfl rfl rfl ?_ | refine pB rfl rfl rfl rfl rfl rfl ?_
  refine pE rfl ?_
  apply splitJ; (case hj => rfl); (case hl => rfl)
  ·
   iterate 3 refine skipT rfl rfl rfl rfl ?_
   refine pE rfl ?_
   refine WO.nil ?_
   refine qv1 rfl rfl rfl
  ·
   refine goG rfl rfl ?_
   refine pE rfl ?_
   refine goG rfl rfl ?_
   first | refine pE rfl ?_ | refine pR rfl rfl rfl rfl rfl ?_ | refine pB rfl rfl rfl rfl rfl rfl ?_
   refine goG rfl rfl ?_
   iterate 2 refine pE rfl ?_
   refine WO.nil ?_
   refine qv1 rfl rfl rfl
 refine qs ?_
 refine condK rfl (fun h14 => ?_) (fun h14 => ?_)
 ·
  rw [show limP L st = (0, failS st) by unfold limP; rw [if_pos (by cases q : st.2 <;> simp [q] at h14 ⊢; exact h14)]]
  refine W.seq (W.region ?_)
  iterate 3 refine pE rfl ?_
  refine storeR tab rfl rfl rfl rfl rfl rfl rfl rfl ?_
  refine WO.nil (qs (W.seq (W.region ?_)))
  refine pE rfl ?_
  refine WO.nil (qs (W.ret (qsRet ?_)))
  refine QB1.end tab [] trivial rfl rfl rfl rfl ?_ ?_
  · exact ⟨rfl, trivial⟩
  rfl
 ·
  rw [show limP L st = ((tk0 L st).n, adv st) by unfold limP; rw [if_neg (by cases q : st.2 <;> simp [q] at h14 ⊢; exact h14)]]
  refine W.skip (qs (W.seq (W.region ?_)))
  refine pE rfl ?_
  refine callB [0] [] rfl rfl rfl rfl rfl ((pass_fn L st h hL)) rfl rfl (by rfl) (by rfl) rfl rfl rfl rfl ?_
  refine WO.nil (qs (W.seq (W.region ?_)))
  refine pE rfl ?_
  first | refine pE rfl ?_ | refine pR rfl rfl rfl rfl rfl ?_ | refine pB rfl rfl rfl rfl rfl rfl ?_
  refine pE rfl ?_
  refine WO.nil (qs (W.ret ?_))
  refine QB1.end tab [] trivial rfl rfl rfl rfl ?_ ?_
  · exact ⟨rfl, trivial⟩
  rfl
theorem left1_fn (L : List Tk) (o : ByteArray × Int) (st : PS) (h : st.1 < L.length) (hL : L.length ≤ 3000000) : DoesB Tryz.prog 112 [.ag (binC o), .ptr 1 0] [bxP L st, [.ptr 0 0]] 0 (.d (.v (.bool (skB L o.1 st)))) [bxP L (skS L o.1 st), [.ptr 0 0]] 0 := by
 refine DoesB.of_V tab (n := 8) (rs := [.tmp 3]) Tryz.func112 (by kernel_rfl) rfl Tryz.ntmps112 Tryz.results112 rfl rfl fun C hC hG => ?_
 refine W.seq (W.region ?_)
 refine boxR rfl rfl rfl ?_
 refine pE rfl ?_
 refine WO.nil (qs (W.seq (W.region ?_)))
 first | refine pE rfl ?_ | refine pR rfl rfl rfl rfl rfl ?_ | refine pB rfl rfl rfl rfl rfl rfl ?_
 refine pE rfl ?_
 first | refine pE rfl ?_ | refine pR rfl rfl rfl rfl rfl ?_ | refine pB rfl rfl rfl rfl rfl rfl ?_
 refine callB [0] [] rfl rfl rfl rfl rfl ((skip_fn L o.1 st h hL)) rfl rfl (by rfl) (by rfl) rfl rfl rfl rfl ?_
 refine pE rfl ?_
 refine WO.nil (qs (W.ret ?_))
 refine QB1.end tab [] trivial rfl rfl rfl rfl ?_ ?_
 · exact ⟨rfl, rfl, trivial⟩
 rfl
theorem idxfn_fn (L : List Tk) (ops : List (ByteArray × Int)) (st : PS) (h : st.1 < L.length) (hL : L.length ≤ 3000000) :
  DoesB Tryz.prog 111 [.d (.sl (ops.map binC)), .clo 112 [.ptr 1 0]] [bxP L st, [.ptr 0 0]] 0 (.d (.v (.int .i64 (idx (ops.findIdx? fun o => skB L o.1 st))))) [bxP L (if (ops.any fun o => skB L o.1 st) then adv st else st), [.ptr 0 0]] 0 := by
 refine DoesB.of_V tab (n := 19) (rs := [.tmp 4]) Tryz.func111 (by kernel_rfl) rfl Tryz.ntmps111 Tryz.results111 rfl rfl fun C hC hG => ?_
 refine W.seq (W.region ?_)
 refine pE rfl ?_
 refine WO.nil (qs ?_)
 iterate 2 refine W.seq ?_
 refine W.region ?_
 iterate 3 refine pE rfl ?_
 refine WO.nil (qs (W.block ?_))
 refine W.len (t := 0) rfl rfl (fun hlen => ?_)
 try simp only [List.length_map, Ex.kc_len] at hlen
 refine W.loopR (ι := {x : Nat // match x with | k => k ≤ ops.length ∧ noneBefore (fun o => skB L o.1 st) ops k})
  (fun x => match x.1 with | k => [(1, .clo 112 [.ptr 1 0]), (8, .d (.v (.int .i64 ((k : Nat) : Int))))]) [(0, _), (7, _)]
  (fun x => match x.1 with | k => [(0, bxP L st), (1, [.ptr 0 0])]) [] [] 2 (fun x => match x.1 with | k => ops.length - k)
  [0, 1] ⟨0, ?_⟩ rfl ?_ ⟨rfl, rfl, rfl, rfl, trivial⟩ ?_ trivial rfl ?_
 · exact ⟨Nat.zero_le _, noneBefore.zero⟩
 · repeat' first | exact trivial | refine ⟨rfl, ?_⟩ | refine ⟨step_nat (by assumption) (by assumption), ?_⟩
 · repeat' first | exact trivial | refine ⟨rfl, ?_⟩ | refine ⟨step_nat (by assumption) (by assumption), ?_⟩
 rintro ⟨k, hk, hI⟩
 show W _ _ _ _ _ ⟨[(1, .clo 112 [.ptr 1 0]), (8, .d (.v (.int .i64 ((k : Nat) : Int)))), (0, _), (7, _)], [(0, bxP L st), (1, [.ptr 0 0])], [], 2⟩
 refine W.seq (W.region ?_)
 refine pE rfl ?_
 refine WO.nil (qs (W.seq ?_))
 refine eachR (l := ops) (k := k) rfl (by simp [Ex.kc_len, bytes_len]) hk (fun o hx hd hlt => ?_) (fun he hd => ?_)
 ·
  refine W.skip (qs (W.seq (W.block (W.seq (W.region ?_)))))
  iterate 2 refine pE rfl ?_
  refine WO.nil (qs (W.seq (W.region ?_)))
  iterate 3 refine pE rfl ?_
  refine pu (indexAddr tab rfl rfl rfl rfl rfl rfl (Int.natCast_nonneg _) (idx_map hx) rfl) rfl ?_
  first | refine pE rfl ?_ | refine pR rfl rfl rfl rfl rfl ?_ | refine pB rfl rfl rfl rfl rfl rfl ?_
  refine callB [0, 1] [] rfl rfl rfl rfl rfl (left1_fn L o st h hL) rfl rfl (by rfl) (by rfl) rfl rfl rfl rfl ?_
  refine WO.nil (qs ?_)
  refine condK rfl (fun h16 => ?_) (fun h16 => ?_)
  ·
   rw [skS_yes h16]
   refine W.seq (W.region ?_)
   iterate 2 refine pE rfl ?_
   refine WO.nil (qs (W.ret (qbRet (qsRet (qlRet (qbRet (qsRet ?_)))))))
   refine QB1.end tab [] trivial rfl rfl rfl rfl ?_ ?_
   ·
    rw [if_pos (List.any_eq_true.2 ⟨o, List.mem_of_getElem? hx, h16⟩)]
    exact ⟨rfl, rfl, trivial⟩
   rw [hI.found hx h16]
   rfl
  ·
   rw [skS_no h16]
   refine W.skip (qbN (qs (W.region ?_)))
   iterate 2 refine pE rfl ?_
   refine WO.nil ?_
   refine W.endR [0, 1] ⟨k + 1, ?_⟩ ?_ rfl ?_ ⟨rfl, rfl, rfl, rfl, trivial⟩ ?_ trivial rfl
   · exact ⟨hlt, hI.step hx h16⟩
   · dsimp only; omega
   · repeat' first | exact trivial | refine ⟨rfl, ?_⟩ | refine ⟨step_nat (by assumption) (by assumption), ?_⟩
   · repeat' first | exact trivial | refine ⟨rfl, ?_⟩ | refine ⟨step_nat (by assumption) (by assumption), ?_⟩
 ·
  refine W.exit (qsExit (qlExit (qbExit (qs (W.seq (W.region ?_))))))
  refine pE rfl ?_
  refine WO.nil (qs (W.ret ?_))
  refine QB1.end tab [] trivial rfl rfl rfl rfl ?_ ?_
  ·
   rw [if_neg (by
    intro hh
    obtain ⟨y, hy, hp⟩ := List.any_eq_true.1 hh
    have := List.findIdx?_eq_none_iff.1 (hI.end_ he) y hy
    rw [hp] at this
    cases this)]
   exact ⟨rfl, rfl, trivial⟩
  rw [hI.end_ he]
  rfl
theorem find_idx {L : List Tk} {st : PS} : ∀ (ops : List (ByteArray × Int)), (match ops.findIdx? (fun o => skB L o.1 st) with | none => findOp L ops st = none ∧ (ops.any fun o => skB L o.1 st) = false | some i => ∃ o, ops[i]? = some o ∧ findOp L ops st = some o.2 ∧ (ops.any fun o => skB L o.1 st) = true) := by
 intro ops
 cases q : ops.findIdx? (fun o => skB L o.1 st) with
 | none =>
  have := List.findIdx?_eq_none_iff.1 q
  refine ⟨?_, ?_⟩
  ·
   unfold findOp
   rw [List.find?_eq_none.2 (fun o ho => by simp [this o ho])]
   rfl
  ·
   rw [List.any_eq_false]
   intro o ho
   simp [this o ho]
 | some i =>
  obtain ⟨hi, hp, hbef⟩ := List.findIdx?_eq_some_iff_getElem.1 q
  refine ⟨ops[i], by simp [hi], ?_, List.any_eq_true.2 ⟨_, List.getElem_mem hi, hp⟩⟩
  unfold findOp
  rw [(List.find?_eq_some_iff_getElem (p := fun o => skB L o.1 st)).2 ⟨hp, i, hi, rfl, fun j hj => by have := hbef j hj; simpa using this⟩]
  rfl
theorem left_fn (L : List Tk) (hw : Wf L) (hL : L.length ≤ 3000000) (one : Pr Ex) (ho : Goes L one) (fid : FuncId) (d : Nat) (hone : ∀ st, st.1 < L.length → L.length - st.1 ≤ d → DoesB Tryz.prog fid [.ptr 0 0] [bxP L st] 0 (.ag (one st).1.c) [bxP L (one st).2] 0) (ops : List (ByteArray × Int)) (st : PS) (h : st.1 < L.length) (hd0 : L.length - st.1 ≤ d) :
  DoesB Tryz.prog 74 [.ptr 0 0, .bnd fid [.ptr 0 0], .d (.sl (ops.map binC))] [bxP L st] 0 (.ag (leftP L one ops st).1.c) [bxP L (leftP L one ops st).2] 0 := by
 have l1 := ho.lt st h
 have m1 := ho.mono st
 refine DoesB.of_V tab (n := 32) (rs := [.cell 6 37]) Tryz.func74 (by kernel_rfl) rfl Tryz.ntmps74 Tryz.results74 rfl rfl fun C hC hG => ?_
 refine W.seq (W.region ?_)
 refine boxR rfl rfl rfl ?_
 refine allocR tab rfl rfl rfl ?_
 refine WO.nil (qs (W.seq (W.region ?_)))
 refine pE rfl ?_
 refine callN [0] [] rfl rfl rfl rfl rfl (hone st h hd0) rfl rfl (by rfl) (by rfl) rfl rfl rfl rfl ?_
 refine allocR tab rfl rfl rfl ?_
 refine storeR tab rfl rfl rfl rfl rfl rfl rfl rfl ?_
 refine WO.nil (qs (W.seq (W.block ?_)))
 refine W.loopR (ι := {x : Nat × Ex × PS // match x with | (n, e, s1) => s1.1 < L.length ∧ L.length - s1.1 ≤ d ∧ L.length - s1.1 ≤ n ∧ leftGo L one ops n e s1 = leftP L one ops st})
  (fun x => match x.1 with | (n, e, s1) => [(1, .bnd fid [.ptr 0 0]), (3, .ptr 1 0), (6, .ptr 2 0), (7, .ptr 3 0)]) [(2, _)]
  (fun x => match x.1 with | (n, e, s1) => [(0, bxP L s1), (1, [.ptr 0 0]), (3, e.c.map A.d)]) [(2, _)] [] 4 (fun x => match x.1 with | (n, e, s1) => n)
  [0, 1, 2, 4] ⟨(L.length, (one st).1, (one st).2), ?_⟩ rfl ?_ ⟨rfl, rfl, trivial⟩ ?_ ⟨rfl, rfl, trivial⟩ rfl ?_
 · exact ⟨l1, by omega, by omega, rfl⟩
 · repeat' first | exact trivial | refine ⟨rfl, ?_⟩ | refine ⟨step_nat (by assumption) (by assumption), ?_⟩
 · repeat' first | exact trivial | refine ⟨rfl, ?_⟩ | refine ⟨step_nat (by assumption) (by assumption), ?_⟩
 rintro ⟨⟨n, e, s1⟩, hk, hd, hn, hI⟩
 show W _ _ _ _ _ ⟨[(1, .bnd fid [.ptr 0 0]), (3, .ptr 1 0), (6, .ptr 2 0), (7, .ptr 3 0), (2, _)], [(0, bxP L s1), (1, [.ptr 0 0]), (3, e.c.map A.d), (2, _)], [], 4⟩
 obtain ⟨n', rfl⟩ : ∃ n', n = n' + 1 := ⟨n - 1, by omega⟩
 simp only [leftGo] at hI
 have hfi := find_idx (L := L) (st := s1) ops
 iterate 2 refine W.seq ?_
 refine W.region ?_
 first | refine pE rfl ?_ | refine pR rfl rfl rfl rfl rfl ?_ | refine pB rfl rfl rfl rfl rfl rfl ?_
 iterate 2 refine pE rfl ?_
 first | refine pE rfl ?_ | refine pR rfl rfl rfl rfl rfl ?_ | refine pB rfl rfl rfl rfl rfl rfl ?_
 refine pE rfl ?_
 refine WO.nil (qs ?_)
 refine condK rfl (fun h15 => ?_) (fun h15 => ?_)
 ·
  refine W.skip (qs (W.block (W.seq (W.region ?_))))
  iterate 2 refine pE rfl ?_
  refine callB [0, 1] [] rfl rfl rfl rfl rfl ((idxfn_fn L ops s1 hk hL)) rfl rfl (by rfl) (by rfl) rfl rfl rfl rfl ?_
  refine pE rfl ?_
  refine WO.nil (qs ?_)
  iterate 2 refine W.seq ?_
  refine W.region ?_
  iterate 2 refine pE rfl ?_
  refine WO.nil (qs ?_)
  refine condK rfl (fun h20 => ?_) (fun h20 => ?_)
  ·
   have hni : ops.findIdx? (fun o => skB L o.1 s1) = none := by
    cases q : ops.findIdx? (fun o => skB L o.1 s1) with
    | none => rfl
    | some i => rw [q] at h20; exact absurd (of_decide_eq_true h20) (by simp [idx])
   rw [hni] at hfi
   obtain ⟨f1, f2⟩ := hfi
   rw [f1] at hI
   rw [f2]
   refine W.exit (qsExit ?_)
   refine qbExit' rfl ?_
   refine qlExit (qbExit (qs (W.seq (W.region ?_))))
   first | refine pE rfl ?_ | refine pR rfl rfl rfl rfl rfl ?_ | refine pB rfl rfl rfl rfl rfl rfl ?_
   refine storeR tab rfl rfl rfl rfl rfl rfl rfl rfl ?_
   refine WO.nil (qs (W.ret ?_))
   refine QB1.end tab [] trivial rfl rfl rfl rfl ?_ ?_
   ·
    rw [← hI]
    exact ⟨rfl, trivial⟩
   rw [← hI]
   rfl
  ·
   obtain ⟨i, hi⟩ : ∃ i, ops.findIdx? (fun o => skB L o.1 s1) = some i := by
    cases q : ops.findIdx? (fun o => skB L o.1 s1) with
    | none => rw [q] at h20; simp [idx] at h20
    | some i => exact ⟨i, rfl⟩
   rw [hi] at hfi
   obtain ⟨o, f1, f2, f3⟩ := hfi
   rw [f2] at hI
   rw [f3, hi]
   obtain ⟨x, hx⟩ := findOp_sk f2
   have l2 := skB_more hw hx hk
   have l3 := ho.lt (adv s1) l2
   have m3 : s1.1 + 1 ≤ (one (adv s1)).2.1 := ho.mono (adv s1)
   refine W.skip (qs ?_)
   apply W.regionC tab 9 7; (case hB => kernel_rfl); (case h1 => rfl); (case h2 => rfl)
   refine' ccPu ?p1_1 (ev tab rfl) rfl rfl rfl rfl rfl ?h_1
   case' h_1 => skip
   refine' ccPu ?p1_2 (ev tab rfl) rfl rfl rfl rfl rfl ?h_2
   case' h_2 => skip
   refine' ccPu ?p1_3 (indexAddr (l := binC o) tab rfl rfl rfl rfl rfl rfl (Int.natCast_nonneg i) (idx_map f1) rfl) rfl rfl rfl rfl rfl ?h_3
   case' h_3 => skip
   refine' ccPu ?p1_4 (ev tab rfl) rfl rfl rfl rfl rfl ?h_4
   case' h_4 => skip
   first | (refine' ccPu ?p1_5 (ev tab rfl) rfl rfl rfl rfl rfl ?h_5) | (refine' ccPu ?p1_5 (loadRow tab rfl rfl rfl rfl) rfl rfl rfl rfl rfl ?h_5) | (refine' ccPu ?p1_5 (loadBox tab rfl rfl rfl rfl rfl) rfl rfl rfl rfl rfl ?h_5)
   case' h_5 => skip
   first | (refine' ccPu ?p1_6 (ev tab rfl) rfl rfl rfl rfl rfl ?h_6) | (refine' ccPu ?p1_6 (loadRow tab rfl rfl rfl rfl) rfl rfl rfl rfl rfl ?h_6) | (refine' ccPu ?p1_6 (loadBox tab rfl rfl rfl rfl rfl) rfl rfl rfl rfl rfl ?h_6)
   case' h_6 => skip
   refine' ccPu0 (ev tab rfl) rfl rfl rfl rfl rfl ?h_7
   case' h_7 => skip
   refine' ccX (fun g => ?e_8) rfl rfl rfl ?h_8
   case e_8 =>
    refine callN [0] [] rfl rfl rfl rfl rfl (hone (adv s1) l2 (by show L.length - (s1.1 + 1) ≤ d; omega)) rfl rfl (by rfl) (by rfl) rfl rfl rfl rfl ?_
    refine WO.nil ?_
    exact ⟨rfl, rfl⟩
   case' h_8 => skip
   case p1_1 => exact (ev tab rfl)
   case p1_2 => exact (ev tab rfl)
   case p1_3 => exact (indexAddr (l := binC o) tab rfl rfl rfl rfl rfl rfl (Int.natCast_nonneg i) (idx_map f1) rfl)
   case p1_4 => exact (ev tab rfl)
   case p1_5 => first | (exact (ev tab rfl)) | (exact (loadRow tab rfl rfl rfl rfl)) | (exact (loadBox tab rfl rfl rfl rfl rfl))
   case p1_6 => first | (exact (ev tab rfl)) | (exact (loadRow tab rfl rfl rfl rfl)) | (exact (loadBox tab rfl rfl rfl rfl rfl))
   refine ccPu1 (buildV tab rfl rfl rfl rfl rfl rfl rfl rfl rfl) rfl rfl rfl rfl rfl ?_
   refine CC.nil ?_
   refine pu (build tab rfl rfl rfl rfl) rfl ?_
   refine storeR tab rfl rfl rfl rfl rfl rfl rfl rfl ?_
   refine WO.nil (qbN ?_)
   refine W.endR [0, 1, 2, 3] ⟨(n', mk2 o.2 e (one (adv s1)).1, (one (adv s1)).2), ?_⟩ ?_ rfl ?_ ⟨rfl, rfl, trivial⟩ ?_ ⟨rfl, rfl, trivial⟩ rfl
   · exact ⟨l3, by omega, by omega, hI⟩
   · dsimp only; omega
   · repeat' first | exact trivial | refine ⟨rfl, ?_⟩ | refine ⟨step_nat (by assumption) (by assumption), ?_⟩
   · repeat' first | exact trivial | refine ⟨rfl, ?_⟩ | refine ⟨step_nat (by assumption) (by assumption), ?_⟩
 ·
  rw [findOp_bad (by simpa using h15)] at hI
  refine W.exit (qsExit (qlExit (qbExit (qs (W.seq (W.region ?_))))))
  first | refine pE rfl ?_ | refine pR rfl rfl rfl rfl rfl ?_ | refine pB rfl rfl rfl rfl rfl rfl ?_
  refine storeR tab rfl rfl rfl rfl rfl rfl rfl rfl ?_
  refine WO.nil (qs (W.ret ?_))
  refine QB1.end tab [] trivial rfl rfl rfl rfl ?_ ?_
  ·
   rw [← hI]
   exact ⟨rfl, trivial⟩
  rw [← hI]
  rfl
end Go.Proofs.YtifeonoehfffmaaGreatDoor
namespace Go.Proofs.YtifeonoehfffmaaGreatDoor
open Go.Ab Go.Tb
set_option maxRecDepth 10000
attribute [local irreducible] W WO Pu QS QB QL QF QV QV1 CH QE
def RdE (L : List Tk) (fid : FuncId) (f : Pr Ex) (d : Nat) : Prop := ∀ st, st.1 < L.length → L.length - st.1 ≤ d → DoesB Tryz.prog fid [.ptr 0 0] [bxP L st] 0 (.ag (f st).1.c) [bxP L (f st).2] 0
theorem por_fn (L : List Tk) (hw : Wf L) (hL : L.length ≤ 3000000) (one : Pr Ex) (ho : Goes L one) (d : Nat) (hone : RdE L 75 one d) : RdE L 38 (leftP L one opsOr) d := by
 intro st h hd0
 refine DoesB.of_V tab (n := 9) (rs := [.cell 2 37]) Tryz.func38 (by kernel_rfl) rfl Tryz.ntmps38 Tryz.results38 rfl rfl fun C hC hG => ?_
 refine W.seq (W.region ?_)
 refine allocR tab rfl rfl rfl ?_
 refine WO.nil (qs (W.seq (W.region ?_)))
 iterate 3 refine pE rfl ?_
 refine pu (build tab rfl rfl rfl rfl) rfl ?_
 refine pu (buildV tab rfl rfl rfl rfl rfl rfl rfl rfl rfl) rfl ?_
 refine callB [0] [] rfl rfl rfl rfl rfl ((left_fn L hw hL one ho 75 d hone opsOr st h hd0)) rfl rfl (by rfl) (by rfl) rfl rfl rfl rfl ?_
 refine storeR tab rfl rfl rfl rfl rfl rfl rfl rfl ?_
 refine WO.nil (qs (W.ret ?_))
 refine QB1.end tab [] trivial rfl rfl rfl rfl ?_ ?_
 · exact ⟨rfl, trivial⟩
 rfl
theorem pand_fn (L : List Tk) (hw : Wf L) (hL : L.length ≤ 3000000) (one : Pr Ex) (ho : Goes L one) (d : Nat) (hone : RdE L 113 one d) : RdE L 75 (leftP L one opsAnd) d := by
 intro st h hd0
 refine DoesB.of_V tab (n := 9) (rs := [.cell 2 37]) Tryz.func75 (by kernel_rfl) rfl Tryz.ntmps75 Tryz.results75 rfl rfl fun C hC hG => ?_
 refine W.seq (W.region ?_)
 refine allocR tab rfl rfl rfl ?_
 refine WO.nil (qs (W.seq (W.region ?_)))
 iterate 3 refine pE rfl ?_
 refine pu (build tab rfl rfl rfl rfl) rfl ?_
 refine pu (buildV tab rfl rfl rfl rfl rfl rfl rfl rfl rfl) rfl ?_
 refine callB [0] [] rfl rfl rfl rfl rfl ((left_fn L hw hL one ho 113 d hone opsAnd st h hd0)) rfl rfl (by rfl) (by rfl) rfl rfl rfl rfl ?_
 refine storeR tab rfl rfl rfl rfl rfl rfl rfl rfl ?_
 refine WO.nil (qs (W.ret ?_))
 refine QB1.end tab [] trivial rfl rfl rfl rfl ?_ ?_
 · exact ⟨rfl, trivial⟩
 rfl
theorem psum_fn (L : List Tk) (hw : Wf L) (hL : L.length ≤ 3000000) (one : Pr Ex) (ho : Goes L one) (d : Nat) (hone : RdE L 151 one d) : RdE L 143 (leftP L one opsSum) d := by
 intro st h hd0
 refine DoesB.of_V tab (n := 10) (rs := [.cell 2 37]) Tryz.func143 (by kernel_rfl) rfl Tryz.ntmps143 Tryz.results143 rfl rfl fun C hC hG => ?_
 refine W.seq (W.region ?_)
 refine allocR tab rfl rfl rfl ?_
 refine WO.nil (qs (W.seq (W.region ?_)))
 iterate 3 refine pE rfl ?_
 refine pu (build tab rfl rfl rfl rfl) rfl ?_
 refine pu (build tab rfl rfl rfl rfl) rfl ?_
 refine pu (buildV tab rfl rfl rfl rfl rfl rfl rfl rfl rfl) rfl ?_
 refine callB [0] [] rfl rfl rfl rfl rfl ((left_fn L hw hL one ho 151 d hone opsSum st h hd0)) rfl rfl (by rfl) (by rfl) rfl rfl rfl rfl ?_
 refine storeR tab rfl rfl rfl rfl rfl rfl rfl rfl ?_
 refine WO.nil (qs (W.ret ?_))
 refine QB1.end tab [] trivial rfl rfl rfl rfl ?_ ?_
 · exact ⟨rfl, trivial⟩
 rfl
theorem pprod_fn (L : List Tk) (hw : Wf L) (hL : L.length ≤ 3000000) (one : Pr Ex) (ho : Goes L one) (d : Nat) (hone : RdE L 159 one d) : RdE L 151 (leftP L one opsMul) d := by
 intro st h hd0
 refine DoesB.of_V tab (n := 11) (rs := [.cell 2 37]) Tryz.func151 (by kernel_rfl) rfl Tryz.ntmps151 Tryz.results151 rfl rfl fun C hC hG => ?_
 refine W.seq (W.region ?_)
 refine allocR tab rfl rfl rfl ?_
 refine WO.nil (qs (W.seq (W.region ?_)))
 iterate 3 refine pE rfl ?_
 refine pu (build tab rfl rfl rfl rfl) rfl ?_
 refine pu (build tab rfl rfl rfl rfl) rfl ?_
 refine pu (build tab rfl rfl rfl rfl) rfl ?_
 refine pu (buildV tab rfl rfl rfl rfl rfl rfl rfl rfl rfl) rfl ?_
 refine callB [0] [] rfl rfl rfl rfl rfl ((left_fn L hw hL one ho 159 d hone opsMul st h hd0)) rfl rfl (by rfl) (by rfl) rfl rfl rfl rfl ?_
 refine storeR tab rfl rfl rfl rfl rfl rfl rfl rfl ?_
 refine WO.nil (qs (W.ret ?_))
 refine QB1.end tab [] trivial rfl rfl rfl rfl ?_ ?_
 · exact ⟨rfl, trivial⟩
 rfl
theorem pnot_fn (L : List Tk) (hw : Wf L) (hL : L.length ≤ 3000000) (comp : Pr Ex) (d : Nat) (hcomp : RdE L 133 comp d) : ∀ n st, st.1 < L.length → L.length - st.1 ≤ d → L.length - st.1 ≤ n → DoesB Tryz.prog 113 [.ptr 0 0] [bxP L st] 0 (.ag (notP L comp n st).1.c) [bxP L (notP L comp n st).2] 0
 | 0, st, h, _, hn => by omega
 | n + 1, st, h, hd0, hn => by
  cases q : skB L kwNot st with
  | false =>
   rw [show notP L comp (n + 1) st = comp st by simp only [notP]; rw [q]; rfl]
   have hs := skip_fn L kwNot st h hL
   rw [skS_no q, q] at hs
   refine DoesB.of_V tab (n := 11) (rs := [.cell 2 37]) Tryz.func113 (by kernel_rfl) rfl Tryz.ntmps113 Tryz.results113 rfl rfl fun C hC hG => ?_
   refine W.seq (W.region ?_)
   refine allocR tab rfl rfl rfl ?_
   refine WO.nil (qs ?_)
   iterate 2 refine W.seq ?_
   refine W.region ?_
   refine pE rfl ?_
   refine callB [0] [] rfl rfl rfl rfl rfl (hs ..) rfl rfl (by rfl) (by rfl) rfl rfl rfl rfl ?_
   refine WO.nil (qs ?_)
   refine condK rfl (fun h4 => ?_) (fun h4 => ?_)
   ·
    exfalso
    simp at h4
   ·
    refine W.skip (qs (W.seq (W.region ?_)))
    refine pE rfl ?_
    refine callB [0] [] rfl rfl rfl rfl rfl ((hcomp st h hd0)) rfl rfl (by rfl) (by rfl) rfl rfl rfl rfl ?_
    refine storeR tab rfl rfl rfl rfl rfl rfl rfl rfl ?_
    refine WO.nil (qs (W.ret ?_))
    refine QB1.end tab [] trivial rfl rfl rfl rfl ?_ ?_
    · exact ⟨rfl, trivial⟩
    rfl
  | true =>
   have l1 := skB_more hw q h
   have ih := pnot_fn L hw hL comp d hcomp n (adv st) l1 (by show L.length - (st.1 + 1) ≤ d; omega) (by show L.length - (st.1 + 1) ≤ n; omega)
   rw [show notP L comp (n + 1) st = (mk1 3 (notP L comp n (adv st)).1, (notP L comp n (adv st)).2) by simp only [notP]; rw [q]; rfl]
   have hs := skip_fn L kwNot st h hL
   rw [skS_yes q, q] at hs
   refine DoesB.of_V tab (n := 11) (rs := [.cell 2 37]) Tryz.func113 (by kernel_rfl) rfl Tryz.ntmps113 Tryz.results113 rfl rfl fun C hC hG => ?_
   refine W.seq (W.region ?_)
   refine allocR tab rfl rfl rfl ?_
   refine WO.nil (qs ?_)
   iterate 2 refine W.seq ?_
   refine W.region ?_
   refine pE rfl ?_
   refine callB [0] [] rfl rfl rfl rfl rfl (hs ..) rfl rfl (by rfl) (by rfl) rfl rfl rfl rfl ?_
   refine WO.nil (qs ?_)
   refine condK rfl (fun h4 => ?_) (fun h4 => ?_)
   ·
    refine W.seq (W.region ?_)
    refine pE rfl ?_
    refine callB [0] [] rfl rfl rfl rfl rfl (ih ..) rfl rfl (by rfl) (by rfl) rfl rfl rfl rfl ?_
    refine pu (buildV tab rfl rfl rfl rfl rfl rfl rfl rfl rfl) rfl ?_
    refine pu (build tab rfl rfl rfl rfl) rfl ?_
    refine storeR tab rfl rfl rfl rfl rfl rfl rfl rfl ?_
    refine WO.nil (qs (W.ret (qsRet ?_)))
    refine QB1.end tab [] trivial rfl rfl rfl rfl ?_ ?_
    · exact ⟨rfl, trivial⟩
    rfl
   ·
    exfalso
    simp at h4
theorem punary_fn (L : List Tk) (hw : Wf L) (hL : L.length ≤ 3000000) (prim : Pr Ex) (d : Nat) (hprim : RdE L 165 prim d) : ∀ n st, st.1 < L.length → L.length - st.1 ≤ d → L.length - st.1 ≤ n → DoesB Tryz.prog 159 [.ptr 0 0] [bxP L st] 0 (.ag (unaryP L prim n st).1.c) [bxP L (unaryP L prim n st).2] 0
 | 0, st, h, _, hn => by omega
 | n + 1, st, h, hd0, hn => by
  cases q : skB L gSub st with
  | false =>
   rw [show unaryP L prim (n + 1) st = prim st by simp only [unaryP]; rw [q]; rfl]
   have hs := skip_fn L gSub st h hL
   rw [skS_no q, q] at hs
   refine DoesB.of_V tab (n := 11) (rs := [.cell 2 37]) Tryz.func159 (by kernel_rfl) rfl Tryz.ntmps159 Tryz.results159 rfl rfl fun C hC hG => ?_
   refine W.seq (W.region ?_)
   refine allocR tab rfl rfl rfl ?_
   refine WO.nil (qs ?_)
   iterate 2 refine W.seq ?_
   refine W.region ?_
   refine pE rfl ?_
   refine callB [0] [] rfl rfl rfl rfl rfl (hs ..) rfl rfl (by rfl) (by rfl) rfl rfl rfl rfl ?_
   refine WO.nil (qs ?_)
   refine condK rfl (fun h4 => ?_) (fun h4 => ?_)
   ·
    exfalso
    simp at h4
   ·
    refine W.skip (qs (W.seq (W.region ?_)))
    refine pE rfl ?_
    refine callB [0] [] rfl rfl rfl rfl rfl ((hprim st h hd0)) rfl rfl (by rfl) (by rfl) rfl rfl rfl rfl ?_
    refine storeR tab rfl rfl rfl rfl rfl rfl rfl rfl ?_
    refine WO.nil (qs (W.ret ?_))
    refine QB1.end tab [] trivial rfl rfl rfl rfl ?_ ?_
    · exact ⟨rfl, trivial⟩
    rfl
  | true =>
   have l1 := skB_more hw q h
   have ih := punary_fn L hw hL prim d hprim n (adv st) l1 (by show L.length - (st.1 + 1) ≤ d; omega) (by show L.length - (st.1 + 1) ≤ n; omega)
   rw [show unaryP L prim (n + 1) st = (mk1 4 (unaryP L prim n (adv st)).1, (unaryP L prim n (adv st)).2) by simp only [unaryP]; rw [q]; rfl]
   have hs := skip_fn L gSub st h hL
   rw [skS_yes q, q] at hs
   refine DoesB.of_V tab (n := 11) (rs := [.cell 2 37]) Tryz.func159 (by kernel_rfl) rfl Tryz.ntmps159 Tryz.results159 rfl rfl fun C hC hG => ?_
   refine W.seq (W.region ?_)
   refine allocR tab rfl rfl rfl ?_
   refine WO.nil (qs ?_)
   iterate 2 refine W.seq ?_
   refine W.region ?_
   refine pE rfl ?_
   refine callB [0] [] rfl rfl rfl rfl rfl (hs ..) rfl rfl (by rfl) (by rfl) rfl rfl rfl rfl ?_
   refine WO.nil (qs ?_)
   refine condK rfl (fun h4 => ?_) (fun h4 => ?_)
   ·
    refine W.seq (W.region ?_)
    refine pE rfl ?_
    refine callB [0] [] rfl rfl rfl rfl rfl (ih ..) rfl rfl (by rfl) (by rfl) rfl rfl rfl rfl ?_
    refine pu (buildV tab rfl rfl rfl rfl rfl rfl rfl rfl rfl) rfl ?_
    refine pu (build tab rfl rfl rfl rfl) rfl ?_
    refine storeR tab rfl rfl rfl rfl rfl rfl rfl rfl ?_
    refine WO.nil (qs (W.ret (qsRet ?_)))
    refine QB1.end tab [] trivial rfl rfl rfl rfl ?_ ?_
    · exact ⟨rfl, trivial⟩
    rfl
   ·
    exfalso
    simp at h4
theorem find_none {L : List Tk} {st : PS} {ops : List (ByteArray × Int)} {k : Nat} (h : noneBefore (fun o => skB L o.1 st) ops k) (hk : k = ops.length) : findOp L ops st = none := by
 have := find_idx (L := L) (st := st) ops
 rw [h.end_ hk] at this
 exact this.1
theorem find_some {L : List Tk} {st : PS} {ops : List (ByteArray × Int)} {k : Nat} {o : ByteArray × Int} (h : noneBefore (fun o => skB L o.1 st) ops k) (hx : ops[k]? = some o) (ho : skB L o.1 st = true) : findOp L ops st = some o.2 := by
 have := find_idx (L := L) (st := st) ops
 rw [h.found hx ho] at this
 obtain ⟨o', h1, h2, _⟩ := this
 rw [hx] at h1
 cases h1
 exact h2
theorem pcomp_fn (L : List Tk) (hw : Wf L) (hL : L.length ≤ 3000000) (sum : Pr Ex) (ho : Goes L sum) (d : Nat) (hsum : RdE L 143 sum d) : RdE L 133 (compP L sum) d := by
 intro st h hd0
 have l1 := ho.lt st h
 have m1 := ho.mono st
 refine DoesB.of_V tab (n := 53) (rs := [.cell 2 37]) Tryz.func133 (by kernel_rfl) rfl Tryz.ntmps133 Tryz.results133 rfl rfl fun C hC hG => ?_
 refine W.seq (W.region ?_)
 refine allocR tab rfl rfl rfl ?_
 refine WO.nil (qs (W.seq (W.region ?_)))
 refine pE rfl ?_
 refine callB [0] [] rfl rfl rfl rfl rfl ((hsum st h hd0)) rfl rfl (by rfl) (by rfl) rfl rfl rfl rfl ?_
 refine allocR tab rfl rfl rfl ?_
 refine storeR tab rfl rfl rfl rfl rfl rfl rfl rfl ?_
 refine WO.nil (qs ?_)
 iterate 2 refine W.seq ?_
 refine W.region ?_
 refine pu (build tab rfl rfl rfl rfl) rfl ?_
 refine pu (build tab rfl rfl rfl rfl) rfl ?_
 refine pu (build tab rfl rfl rfl rfl) rfl ?_
 refine pu (build tab rfl rfl rfl rfl) rfl ?_
 refine pu (buildV tab rfl rfl rfl rfl rfl rfl rfl rfl rfl) rfl ?_
 iterate 2 refine pE rfl ?_
 refine WO.nil (qs (W.block ?_))
 have hlen : opsCmp.length ≤ maxLen := by decide
 refine W.loopR (ι := {x : Nat // match x with | k => k ≤ opsCmp.length ∧ noneBefore (fun o => skB L o.1 (sum st).2) opsCmp k})
  (fun x => match x.1 with | k => [(0, .ptr 0 0), (2, .ptr 1 0), (3, .ptr 2 0), (16, .d (.v (.int .i64 ((k : Nat) : Int))))]) [(14, _), (15, _)]
  (fun x => match x.1 with | k => [(0, bxP L (sum st).2)]) [(1, _), (2, _)] [] 3 (fun x => match x.1 with | k => opsCmp.length - k)
  [0, 1, 3] ⟨0, ?_⟩ rfl ?_ ⟨rfl, rfl, rfl, rfl, trivial⟩ ?_ ⟨rfl, rfl, rfl, rfl, trivial⟩ rfl ?_
 · exact ⟨Nat.zero_le _, noneBefore.zero⟩
 · repeat' first | exact trivial | refine ⟨rfl, ?_⟩ | refine ⟨step_nat (by assumption) (by assumption), ?_⟩
 · repeat' first | exact trivial | refine ⟨rfl, ?_⟩ | refine ⟨step_nat (by assumption) (by assumption), ?_⟩
 rintro ⟨k, hk, hI⟩
 show W _ _ _ _ _ ⟨[(0, .ptr 0 0), (2, .ptr 1 0), (3, .ptr 2 0), (16, .d (.v (.int .i64 ((k : Nat) : Int)))), (14, _), (15, _)], [(0, bxP L (sum st).2), (1, _), (2, _)], [], 3⟩
 refine W.seq (W.region ?_)
 refine pE rfl ?_
 refine WO.nil (qs (W.seq ?_))
 refine eachR (l := opsCmp) (k := k) rfl (by simp [Ex.kc_len, bytes_len]) hk (fun o hx hd hlt => ?_) (fun he hd => ?_)
 ·
  refine W.skip (qs (W.seq (W.block (W.seq (W.region ?_)))))
  refine pu (indexAddr (l := binC o) tab rfl rfl rfl rfl rfl rfl (Int.natCast_nonneg k) (idx_map (f := binC) hx) rfl) rfl ?_
  first | refine pE rfl ?_ | refine pR rfl rfl rfl rfl rfl ?_ | refine pB rfl rfl rfl rfl rfl rfl ?_
  refine allocR tab rfl rfl rfl ?_
  refine storeR tab rfl rfl rfl rfl rfl rfl rfl rfl ?_
  refine WO.nil (qs (W.seq (W.region ?_)))
  iterate 2 refine pE rfl ?_
  first | refine pE rfl ?_ | refine pR rfl rfl rfl rfl rfl ?_ | refine pB rfl rfl rfl rfl rfl rfl ?_
  refine callB [0] [] rfl rfl rfl rfl rfl ((skip_fn L o.1 (sum st).2 l1 hL)) rfl rfl (by rfl) (by rfl) rfl rfl rfl rfl ?_
  refine WO.nil (qs ?_)
  refine condK rfl (fun h23 => ?_) (fun h23 => ?_)
  ·
   have hf := find_some hI hx h23
   rw [skS_yes h23]
   have l2 := skB_more hw h23 l1
   rw [show compP L sum st = (mk2 o.2 (sum st).1 (sum (adv (sum st).2)).1, (sum (adv (sum st).2)).2) by unfold compP; rw [hf]]
   refine W.seq ?_
   apply W.regionC tab 6 4; (case hB => kernel_rfl); (case h1 => rfl); (case h2 => rfl)
   refine' ccPu ?p1_1 (ev tab rfl) rfl rfl rfl rfl rfl ?h_1
   case' h_1 => skip
   first | (refine' ccPu ?p1_2 (ev tab rfl) rfl rfl rfl rfl rfl ?h_2) | (refine' ccPu ?p1_2 (loadRow tab rfl rfl rfl rfl) rfl rfl rfl rfl rfl ?h_2) | (refine' ccPu ?p1_2 (loadBox tab rfl rfl rfl rfl rfl) rfl rfl rfl rfl rfl ?h_2)
   case' h_2 => skip
   first | (refine' ccPu ?p1_3 (ev tab rfl) rfl rfl rfl rfl rfl ?h_3) | (refine' ccPu ?p1_3 (loadRow tab rfl rfl rfl rfl) rfl rfl rfl rfl rfl ?h_3) | (refine' ccPu ?p1_3 (loadBox tab rfl rfl rfl rfl rfl) rfl rfl rfl rfl rfl ?h_3)
   case' h_3 => skip
   refine' ccPu0 (ev tab rfl) rfl rfl rfl rfl rfl ?h_4
   case' h_4 => skip
   refine' ccX (fun g => ?e_5) rfl rfl rfl ?h_5
   case e_5 =>
    refine callB [0] [] rfl rfl rfl rfl rfl ((hsum (adv (sum st).2) l2 (by show L.length - ((sum st).2.1 + 1) ≤ d; omega))) rfl rfl (by rfl) (by rfl) rfl rfl rfl rfl ?_
    refine WO.nil ?_
    exact ⟨rfl, rfl⟩
   case' h_5 => skip
   case p1_1 => exact (ev tab rfl)
   case p1_2 => first | (exact (ev tab rfl)) | (exact (loadRow tab rfl rfl rfl rfl)) | (exact (loadBox tab rfl rfl rfl rfl rfl))
   case p1_3 => first | (exact (ev tab rfl)) | (exact (loadRow tab rfl rfl rfl rfl)) | (exact (loadBox tab rfl rfl rfl rfl rfl))
   refine ccPu1 (buildV tab rfl rfl rfl rfl rfl rfl rfl rfl rfl) rfl rfl rfl rfl rfl ?_
   refine CC.nil ?_
   refine pu (build tab rfl rfl rfl rfl) rfl ?_
   refine storeR tab rfl rfl rfl rfl rfl rfl rfl rfl ?_
   refine WO.nil (qs (W.ret (qbRet (qsRet (qlRet (qbRet (qsRet ?_)))))))
   refine QB1.end tab [] trivial rfl rfl rfl rfl ?_ ?_
   · exact ⟨rfl, trivial⟩
   rfl
  ·
   rw [skS_no h23]
   refine W.skip (qbN (qs (W.region ?_)))
   iterate 2 refine pE rfl ?_
   refine WO.nil ?_
   refine W.endR [0, 1, 2] ⟨k + 1, ?_⟩ ?_ rfl ?_ ⟨rfl, rfl, rfl, rfl, trivial⟩ ?_ ⟨rfl, rfl, rfl, rfl, trivial⟩ rfl
   · exact ⟨hlt, hI.step hx h23⟩
   · dsimp only; omega
   · repeat' first | exact trivial | refine ⟨rfl, ?_⟩ | refine ⟨step_nat (by assumption) (by assumption), ?_⟩
   · repeat' first | exact trivial | refine ⟨rfl, ?_⟩ | refine ⟨step_nat (by assumption) (by assumption), ?_⟩
 ·
  have hf0 := find_none hI he
  refine W.exit (qsExit (qlExit (qbExit (qs ?_))))
  iterate 2 refine W.seq ?_
  refine W.region ?_
  refine pu (build tab rfl rfl rfl rfl) rfl ?_
  refine pu (build tab rfl rfl rfl rfl) rfl ?_
  refine pu (buildV tab rfl rfl rfl rfl rfl rfl rfl rfl rfl) rfl ?_
  iterate 2 refine pE rfl ?_
  refine WO.nil (qs (W.block ?_))
  have hlen : opsRev.length ≤ maxLen := by decide
  refine W.loopR (ι := {x : Nat // match x with | k => k ≤ opsRev.length ∧ noneBefore (fun o => skB L o.1 (sum st).2) opsRev k})
   (fun x => match x.1 with | k => [(0, .ptr 0 0), (2, .ptr 1 0), (3, .ptr 2 0), (36, .d (.v (.int .i64 ((k : Nat) : Int))))]) [(34, _), (35, _)]
   (fun x => match x.1 with | k => [(0, bxP L (sum st).2)]) [(1, _), (2, _)] [] 3 (fun x => match x.1 with | k => opsRev.length - k)
   [0, 1, 2] ⟨0, ?_⟩ rfl ?_ ⟨rfl, rfl, rfl, rfl, trivial⟩ ?_ ⟨rfl, rfl, rfl, rfl, trivial⟩ rfl ?_
  · exact ⟨Nat.zero_le _, noneBefore.zero⟩
  · repeat' first | exact trivial | refine ⟨rfl, ?_⟩ | refine ⟨step_nat (by assumption) (by assumption), ?_⟩
  · repeat' first | exact trivial | refine ⟨rfl, ?_⟩ | refine ⟨step_nat (by assumption) (by assumption), ?_⟩
  rintro ⟨k, hk, hI⟩
  show W _ _ _ _ _ ⟨[(0, .ptr 0 0), (2, .ptr 1 0), (3, .ptr 2 0), (36, .d (.v (.int .i64 ((k : Nat) : Int)))), (34, _), (35, _)], [(0, bxP L (sum st).2), (1, _), (2, _)], [], 3⟩
  refine W.seq (W.region ?_)
  refine pE rfl ?_
  refine WO.nil (qs (W.seq ?_))
  refine eachR (l := opsRev) (k := k) rfl (by simp [Ex.kc_len, bytes_len]) hk (fun o hx hd hlt => ?_) (fun he hd => ?_)
  ·
   refine W.skip (qs (W.seq (W.block (W.seq (W.region ?_)))))
   refine pu (indexAddr (l := binC o) tab rfl rfl rfl rfl rfl rfl (Int.natCast_nonneg k) (idx_map (f := binC) hx) rfl) rfl ?_
   first | refine pE rfl ?_ | refine pR rfl rfl rfl rfl rfl ?_ | refine pB rfl rfl rfl rfl rfl rfl ?_
   refine allocR tab rfl rfl rfl ?_
   refine storeR tab rfl rfl rfl rfl rfl rfl rfl rfl ?_
   refine WO.nil (qs (W.seq (W.region ?_)))
   iterate 2 refine pE rfl ?_
   first | refine pE rfl ?_ | refine pR rfl rfl rfl rfl rfl ?_ | refine pB rfl rfl rfl rfl rfl rfl ?_
   refine callB [0] [] rfl rfl rfl rfl rfl ((skip_fn L o.1 (sum st).2 l1 hL)) rfl rfl (by rfl) (by rfl) rfl rfl rfl rfl ?_
   refine WO.nil (qs ?_)
   refine condK rfl (fun h43 => ?_) (fun h43 => ?_)
   ·
    have hf := find_some hI hx h43
    rw [skS_yes h43]
    have l2 := skB_more hw h43 l1
    rw [show compP L sum st = (mk2 o.2 (sum (adv (sum st).2)).1 (sum st).1, (sum (adv (sum st).2)).2) by unfold compP; rw [hf0, hf]]
    refine W.seq ?_
    apply W.regionC tab 6 3; (case hB => kernel_rfl); (case h1 => rfl); (case h2 => rfl)
    refine' ccPu ?p1_7 (ev tab rfl) rfl rfl rfl rfl rfl ?h_7
    case' h_7 => skip
    first | (refine' ccPu ?p1_8 (ev tab rfl) rfl rfl rfl rfl rfl ?h_8) | (refine' ccPu ?p1_8 (loadRow tab rfl rfl rfl rfl) rfl rfl rfl rfl rfl ?h_8) | (refine' ccPu ?p1_8 (loadBox tab rfl rfl rfl rfl rfl) rfl rfl rfl rfl rfl ?h_8)
    case' h_8 => skip
    refine' ccPu0 (ev tab rfl) rfl rfl rfl rfl rfl ?h_9
    case' h_9 => skip
    refine' ccX (fun g => ?e_10) rfl rfl rfl ?h_10
    case e_10 =>
     refine callB [0] [] rfl rfl rfl rfl rfl ((hsum (adv (sum st).2) l2 (by show L.length - ((sum st).2.1 + 1) ≤ d; omega))) rfl rfl (by rfl) (by rfl) rfl rfl rfl rfl ?_
     refine WO.nil ?_
     exact ⟨rfl, rfl⟩
    case' h_10 => skip
    case p1_7 => exact (ev tab rfl)
    case p1_8 => first | (exact (ev tab rfl)) | (exact (loadRow tab rfl rfl rfl rfl)) | (exact (loadBox tab rfl rfl rfl rfl rfl))
    first | (refine ccPu (ev tab rfl) (ev tab rfl) rfl rfl rfl rfl rfl ?_) | (refine ccPu (loadRow tab rfl rfl rfl rfl) (loadRow tab rfl rfl rfl rfl) rfl rfl rfl rfl rfl ?_) | (refine ccPu (loadBox tab rfl rfl rfl rfl rfl) (loadBox tab rfl rfl rfl rfl rfl) rfl rfl rfl rfl rfl ?_)
    refine ccPu1 (buildV tab rfl rfl rfl rfl rfl rfl rfl rfl rfl) rfl rfl rfl rfl rfl ?_
    refine CC.nil ?_
    refine pu (build tab rfl rfl rfl rfl) rfl ?_
    refine storeR tab rfl rfl rfl rfl rfl rfl rfl rfl ?_
    refine WO.nil (qs (W.ret (qbRet (qsRet (qlRet (qbRet (qsRet ?_)))))))
    refine QB1.end tab [] trivial rfl rfl rfl rfl ?_ ?_
    · exact ⟨rfl, trivial⟩
    rfl
   ·
    rw [skS_no h43]
    refine W.skip (qbN (qs (W.region ?_)))
    iterate 2 refine pE rfl ?_
    refine WO.nil ?_
    refine W.endR [0, 1, 2] ⟨k + 1, ?_⟩ ?_ rfl ?_ ⟨rfl, rfl, rfl, rfl, trivial⟩ ?_ ⟨rfl, rfl, rfl, rfl, trivial⟩ rfl
    · exact ⟨hlt, hI.step hx h43⟩
    · dsimp only; omega
    · repeat' first | exact trivial | refine ⟨rfl, ?_⟩ | refine ⟨step_nat (by assumption) (by assumption), ?_⟩
    · repeat' first | exact trivial | refine ⟨rfl, ?_⟩ | refine ⟨step_nat (by assumption) (by assumption), ?_⟩
  ·
   have hf1 := find_none hI he
   rw [show compP L sum st = sum st by unfold compP; rw [hf0, hf1]]
   refine W.exit (qsExit (qlExit (qbExit (qs (W.seq (W.region ?_))))))
   first | refine pE rfl ?_ | refine pR rfl rfl rfl rfl rfl ?_ | refine pB rfl rfl rfl rfl rfl rfl ?_
   refine storeR tab rfl rfl rfl rfl rfl rfl rfl rfl ?_
   refine WO.nil (qs (W.ret ?_))
   refine QB1.end tab [] trivial rfl rfl rfl rfl ?_ ?_
   · exact ⟨rfl, trivial⟩
   rfl
end Go.Proofs.YtifeonoehfffmaaGreatDoor
namespace Go.Proofs.YtifeonoehfffmaaGreatDoor
open Go.Ab Go.Tb
set_option maxRecDepth 10000
attribute [local irreducible] W WO Pu QS QB QL QF QV QV1 CH QE
theorem pconst_fn (v : Val) : Does Tryz.prog 175 [.ag v.c] (.ag (exK v).c) 0 := by
 refine Does.of_V tab (n := 5) (rs := [.cell 2 37]) Tryz.func175 (by kernel_rfl) rfl Tryz.ntmps175 Tryz.results175 rfl fun C hC hG => ?_
 refine W.seq (W.region ?_)
 refine boxR rfl rfl rfl ?_
 refine allocR tab rfl rfl rfl ?_
 refine WO.nil (qs (W.seq (W.region ?_)))
 first | refine pE rfl ?_ | refine pR rfl rfl rfl rfl rfl ?_ | refine pB rfl rfl rfl rfl rfl rfl ?_
 refine pu (build tab rfl rfl rfl rfl) rfl ?_
 try refine nilO 4 rfl rfl rfl ?_
 refine storeR tab rfl rfl rfl rfl rfl rfl rfl rfl ?_
 refine WO.nil (qs (W.ret ?_))
 refine QV.ret0 tab trivial rfl ?_
 rfl
theorem numP_in {s : ByteArray} (h : (numP s).2 = true) : -1000000000000000 ≤ (numP s).1 ∧ (numP s).1 ≤ 1000000000000000 := by
 have h1 := (numP_some (s := s) (v := (numP s).1) (by rw [← h])).1
 simpa [inR] using h1
theorem num_tok {L : List Tk} (hw : Wf L) {t : Tk} (ht : t ∈ L) (hk : t.kind = 3) : -1000000000000000 ≤ t.n ∧ t.n ≤ 1000000000000000 := by
 have := hw.ok t ht
 simp only [Tk.ok, hk, Bool.and_eq_true] at this
 obtain ⟨⟨⟨_, h⟩, _⟩, _⟩ := this
 simp at h
 rw [h.2]
 exact numP_in h.1
theorem exC_c (a : ByteArray) (l : List Ex) : (exC a l).c = [ci 16, cs a, ci 0, ci 0, cs E0, .sl (l.map Ex.c)] := by
 show [ci 16, cs a, ci 0, ci 0, cs E0, D.sl (exC a l).kc] = _
 rw [Ex.kc_eq]; rfl
set_option maxHeartbeats 4000000 in
theorem pprim_fn (L : List Tk) (hw : Wf L) (hL : L.length ≤ 3000000) (o : Pr Ex) (ho : Goes L o) (d : Nat) (hor : RdE L 38 o d) : RdE L 165 (primP L true o) (d + 1) := by
 intro st h hd0
 refine DoesB.of_V tab (n := 113) (rs := [.cell 2 37]) Tryz.func165 (by kernel_rfl) rfl Tryz.ntmps165 Tryz.results165 rfl rfl fun C hC hG => ?_
 refine W.seq (W.region ?_)
 refine allocR tab rfl rfl rfl ?_
 refine WO.nil (qs (W.seq (W.region ?_)))
 refine pE rfl ?_
 refine pu (puCall rfl rfl rfl (peek0_fn L st h hL) rfl) rfl ?_
 refine allocR tab rfl rfl rfl ?_
 refine storeR tab rfl rfl rfl rfl rfl rfl rfl rfl ?_
 refine WO.nil (qs (W.seq (W.block (W.seq (W.region ?_)))))
 iterate 3 refine pE rfl ?_
 first | refine pE rfl ?_ | refine pR rfl rfl rfl rfl rfl ?_ | refine pB rfl rfl rfl rfl rfl rfl ?_
 refine pE rfl ?_
 refine WO.nil (qs ?_)
 refine condK rfl (fun h10 => ?_) (fun h10 => ?_)
 ·
  rw [show primP L true o st = (exZ, st) by unfold primP; rw [if_pos h10]]
  refine W.seq (W.region ?_)
  refine pu (build tab rfl rfl rfl rfl) rfl ?_
  try refine nilO 15 rfl rfl rfl ?_
  refine storeR tab rfl rfl rfl rfl rfl rfl rfl rfl ?_
  refine WO.nil (qs (W.ret (qbRet (qsRet ?_))))
  refine QB1.end tab [] trivial rfl rfl rfl rfl ?_ ?_
  · exact ⟨rfl, trivial⟩
  first | rfl | (show _ = A.ag (exC (nameP L st).1 (listP L o (adv (nameP L st).2)).1).c; rw [exC_c]; rfl)
 ·
  have h10' : ¬ st.2 = true := by rw [h10]; decide
  refine W.seq (W.region ?_)
  refine pE rfl ?_
  first | refine pE rfl ?_ | refine pR rfl rfl rfl rfl rfl ?_ | refine pB rfl rfl rfl rfl rfl rfl ?_
  iterate 2 refine pE rfl ?_
  refine WO.nil (qs ?_)
  refine condK rfl (fun h16 => ?_) (fun h16 => ?_)
  ·
   have h16' : (tk0 L st).kind = 3 := by simpa using h16
   rw [show primP L true o st = (exK ⟨2, (tk0 L st).n, E0⟩, adv st) by unfold primP; rw [if_neg h10', if_pos h16']]
   refine W.seq (W.region ?_)
   refine pE rfl ?_
   refine callB [0] [] rfl rfl rfl rfl rfl ((pass_fn L st h hL)) rfl rfl (by rfl) (by rfl) rfl rfl rfl rfl ?_
   refine WO.nil (qs (W.seq (W.region ?_)))
   refine pE rfl ?_
   first | refine pE rfl ?_ | refine pR rfl rfl rfl rfl rfl ?_ | refine pB rfl rfl rfl rfl rfl rfl ?_
   refine pu (build tab rfl rfl rfl rfl) rfl ?_
   try refine nilO 24 rfl rfl rfl ?_
   refine pu (puCall rfl rfl rfl (pconst_fn ⟨2, (tk0 L st).n, E0⟩) rfl) rfl ?_
   refine storeR tab rfl rfl rfl rfl rfl rfl rfl rfl ?_
   refine WO.nil (qs (W.ret (qbRet (qsRet ?_))))
   refine QB1.end tab [] trivial rfl rfl rfl rfl ?_ ?_
   · exact ⟨rfl, trivial⟩
   first | rfl | (show _ = A.ag (exC (nameP L st).1 (listP L o (adv (nameP L st).2)).1).c; rw [exC_c]; rfl)
  ·
   have h16' : ¬ (tk0 L st).kind = 3 := by simpa using h16
   refine W.seq (W.region ?_)
   refine pE rfl ?_
   first | refine pE rfl ?_ | refine pR rfl rfl rfl rfl rfl ?_ | refine pB rfl rfl rfl rfl rfl rfl ?_
   iterate 2 refine pE rfl ?_
   refine WO.nil (qs ?_)
   refine condK rfl (fun h26 => ?_) (fun h26 => ?_)
   ·
    have h26' : (tk0 L st).kind = 4 := by simpa using h26
    rw [show primP L true o st = (exK ⟨3, 0, (tk0 L st).s⟩, adv st) by unfold primP; rw [if_neg h10', if_neg h16', if_pos h26']]
    refine W.seq (W.region ?_)
    refine pE rfl ?_
    refine callB [0] [] rfl rfl rfl rfl rfl ((pass_fn L st h hL)) rfl rfl (by rfl) (by rfl) rfl rfl rfl rfl ?_
    refine WO.nil (qs (W.seq (W.region ?_)))
    refine pE rfl ?_
    first | refine pE rfl ?_ | refine pR rfl rfl rfl rfl rfl ?_ | refine pB rfl rfl rfl rfl rfl rfl ?_
    refine pu (build tab rfl rfl rfl rfl) rfl ?_
    try refine nilO 34 rfl rfl rfl ?_
    refine pu (puCall rfl rfl rfl (pconst_fn ⟨3, 0, if (tk0 L st).kind = 3 then E0 else (tk0 L st).s⟩) rfl) rfl ?_
    refine storeR tab rfl rfl rfl rfl rfl rfl rfl rfl ?_
    refine WO.nil (qs (W.ret (qbRet (qsRet ?_))))
    refine QB1.end tab [] trivial rfl rfl rfl rfl ?_ ?_
    · exact ⟨rfl, trivial⟩
    rw [if_neg h16']
    rfl
   ·
    have h26' : ¬ (tk0 L st).kind = 4 := by simpa using h26
    refine W.seq (W.region ?_)
    refine pE rfl ?_
    refine callB [0] [] rfl rfl rfl rfl rfl ((skip_fn L kwNull st h hL)) rfl rfl (by rfl) (by rfl) rfl rfl rfl rfl ?_
    refine pE rfl ?_
    refine WO.nil (qs ?_)
    refine condK rfl (fun h36 => ?_) (fun h36 => ?_)
    ·
     rw [skS_yes h36]
     rw [show primP L true o st = (exK Tb.v0, adv st) by unfold primP; rw [if_neg h10', if_neg h16', if_neg h26', if_pos h36]]
     refine W.seq (W.region ?_)
     refine pu (build tab rfl rfl rfl rfl) rfl ?_
     try refine nilO 39 rfl rfl rfl ?_
     refine pu (puCall rfl rfl rfl (pconst_fn Tb.v0) rfl) rfl ?_
     refine storeR tab rfl rfl rfl rfl rfl rfl rfl rfl ?_
     refine WO.nil (qs (W.ret (qbRet (qsRet ?_))))
     refine QB1.end tab [] trivial rfl rfl rfl rfl ?_ ?_
     · exact ⟨rfl, trivial⟩
     first | rfl | (show _ = A.ag (exC (nameP L st).1 (listP L o (adv (nameP L st).2)).1).c; rw [exC_c]; rfl)
    ·
     rw [skS_no h36]
     refine W.seq (W.region ?_)
     refine pE rfl ?_
     refine callB [0] [] rfl rfl rfl rfl rfl ((skip_fn L kwTrue st h hL)) rfl rfl (by rfl) (by rfl) rfl rfl rfl rfl ?_
     refine pE rfl ?_
     refine WO.nil (qs ?_)
     refine condK rfl (fun h41 => ?_) (fun h41 => ?_)
     ·
      rw [skS_yes h41]
      rw [show primP L true o st = (exK ⟨1, 1, E0⟩, adv st) by unfold primP; rw [if_neg h10', if_neg h16', if_neg h26', if_neg (by simp [h36]), if_pos h41]]
      refine W.seq (W.region ?_)
      refine pu (build tab rfl rfl rfl rfl) rfl ?_
      try refine nilO 44 rfl rfl rfl ?_
      refine pu (puCall rfl rfl rfl (pconst_fn ⟨1, 1, E0⟩) rfl) rfl ?_
      refine storeR tab rfl rfl rfl rfl rfl rfl rfl rfl ?_
      refine WO.nil (qs (W.ret (qbRet (qsRet ?_))))
      refine QB1.end tab [] trivial rfl rfl rfl rfl ?_ ?_
      · exact ⟨rfl, trivial⟩
      first | rfl | (show _ = A.ag (exC (nameP L st).1 (listP L o (adv (nameP L st).2)).1).c; rw [exC_c]; rfl)
     ·
      rw [skS_no h41]
      refine W.seq (W.region ?_)
      refine pE rfl ?_
      refine callB [0] [] rfl rfl rfl rfl rfl ((skip_fn L kwFalse st h hL)) rfl rfl (by rfl) (by rfl) rfl rfl rfl rfl ?_
      refine pE rfl ?_
      refine WO.nil (qs ?_)
      refine condK rfl (fun h46 => ?_) (fun h46 => ?_)
      ·
       rw [skS_yes h46]
       rw [show primP L true o st = (exK ⟨1, 0, E0⟩, adv st) by unfold primP; rw [if_neg h10', if_neg h16', if_neg h26', if_neg (by simp [h36]), if_neg (by simp [h41]), if_pos h46]]
       refine W.seq (W.region ?_)
       refine pu (build tab rfl rfl rfl rfl) rfl ?_
       try refine nilO 49 rfl rfl rfl ?_
       refine pu (puCall rfl rfl rfl (pconst_fn ⟨1, 0, E0⟩) rfl) rfl ?_
       refine storeR tab rfl rfl rfl rfl rfl rfl rfl rfl ?_
       refine WO.nil (qs (W.ret (qbRet (qsRet ?_))))
       refine QB1.end tab [] trivial rfl rfl rfl rfl ?_ ?_
       · exact ⟨rfl, trivial⟩
       first | rfl | (show _ = A.ag (exC (nameP L st).1 (listP L o (adv (nameP L st).2)).1).c; rw [exC_c]; rfl)
      ·
       rw [skS_no h46]
       refine W.seq ?_
       apply regionB; (case hb => rfl)
       ·
        first | refine pE rfl ?_ | refine pR rfl rfl rfl rfl rfl ?_ | refine pB rfl rfl rfl rfl rfl rfl ?_
        refine pu (puCall rfl rfl rfl (is_fn (tk0 L st) gOpen) rfl) rfl ?_
        refine pE rfl ?_
        apply splitJ; (case hj => rfl); (case hl => rfl)
        ·
         refine goG rfl rfl ?_
         refine pE rfl ?_
         refine goG rfl rfl ?_
         refine pu (puCall rfl rfl rfl (peek_fn L st.1 st.2 1 h hL (by decide)) rfl) rfl ?_
         refine goG rfl rfl ?_
         refine pu (puCall rfl rfl rfl (is_fn (pkT L st.1 1) gSub) rfl) rfl ?_
         iterate 2 refine pE rfl ?_
         apply splitJ; (case hj => rfl); (case hl => rfl)
         ·
          refine goG rfl rfl ?_
          refine pE rfl ?_
          refine goG rfl rfl ?_
          refine pu (puCall rfl rfl rfl (peek_fn L st.1 st.2 2 h hL (by decide)) rfl) rfl ?_
          refine goG rfl rfl ?_
          refine pE rfl ?_
          refine goG rfl rfl ?_
          iterate 3 refine pE rfl ?_
          apply splitJ; (case hj => rfl); (case hl => rfl)
          ·
           refine goG rfl rfl ?_
           refine pE rfl ?_
           refine goG rfl rfl ?_
           refine pu (puCall rfl rfl rfl (peek_fn L st.1 st.2 3 h hL (by decide)) rfl) rfl ?_
           refine goG rfl rfl ?_
           refine pu (puCall rfl rfl rfl (is_fn (pkT L st.1 3) gShut) rfl) rfl ?_
           iterate 2 refine pE rfl ?_
           refine WO.nil ?_
           refine qv1 rfl rfl rfl
          ·
           iterate 3 refine skipT rfl rfl rfl rfl ?_
           iterate 2 refine pE rfl ?_
           refine WO.nil ?_
           refine qv1 rfl rfl rfl
         ·
          iterate 4 refine skipT rfl rfl rfl rfl ?_
          iterate 2 refine pE rfl ?_
          iterate 3 refine skipT rfl rfl rfl rfl ?_
          iterate 2 refine pE rfl ?_
          refine WO.nil ?_
          refine qv1 rfl rfl rfl
        ·
         iterate 3 refine skipT rfl rfl rfl rfl ?_
         iterate 2 refine pE rfl ?_
         iterate 4 refine skipT rfl rfl rfl rfl ?_
         iterate 2 refine pE rfl ?_
         iterate 3 refine skipT rfl rfl rfl rfl ?_
         iterate 2 refine pE rfl ?_
         refine WO.nil ?_
         refine qv1 rfl rfl rfl
       refine qs ?_
       refine condK rfl (fun h51 => ?_) (fun h51 => ?_)
       ·
        have h51' : negB L st = true := by unfold negB; simp at h51 ⊢; grind
        have l4 := negB_more hw h51'
        have hk2 : (pkT L st.1 2).kind = 3 := by simp only [negB, Bool.and_eq_true, decide_eq_true_eq] at h51'; exact h51'.2.2.1
        have hn2 := num_tok hw (List.mem_of_getElem? (pkT_at (L := L) (k := st.1) (i := 2) (by omega))) hk2
        rw [show primP L true o st = (exK ⟨2, -(pkT L st.1 2).n, E0⟩, (st.1 + 4, st.2)) by unfold primP; rw [if_neg h10', if_neg h16', if_neg h26', if_neg (by simp [h36]), if_neg (by simp [h41]), if_neg (by simp [h46]), if_pos h51']]
        refine W.seq (W.region ?_)
        refine pE rfl ?_
        refine pu (puCall rfl rfl rfl (peek_fn L st.1 st.2 2 h hL (by decide)) rfl) rfl ?_
        iterate 2 refine pE rfl ?_
        refine WO.nil (qs (W.seq (W.region ?_)))
        iterate 4 refine pE rfl ?_
        first | refine pE rfl ?_ | refine pR rfl rfl rfl rfl rfl ?_ | refine pB rfl rfl rfl rfl rfl rfl ?_
        refine pu (sliceV (fn := Tk.c) (l := L.drop st.1) (i := 4) (r := L.drop (st.1 + 4)) tab rfl rfl rfl rfl rfl (fun _ => rfl) rfl rfl (by decide) (by rw [List.length_drop]; omega) (by simp) (by show ((L.drop st.1).take ((L.drop st.1).length)).drop 4 = _; rw [List.take_length, List.drop_drop])) rfl ?_
        iterate 2 refine pE rfl ?_
        refine storeR tab rfl rfl rfl rfl rfl rfl rfl rfl ?_
        refine WO.nil (qs (W.seq (W.region ?_)))
        refine pE rfl ?_
        refine pu (puI (ev tab rfl) (show IntKind.i64.wrap (0 - (pkT L st.1 2).n) = -(pkT L st.1 2).n from by rw [Int.zero_sub]; exact wrap64 (by omega))) rfl ?_
        refine pu (build tab rfl rfl rfl rfl) rfl ?_
        try refine nilO 83 rfl rfl rfl ?_
        refine pu (puCall rfl rfl rfl (pconst_fn ⟨2, -(pkT L st.1 2).n, E0⟩) rfl) rfl ?_
        refine storeR tab rfl rfl rfl rfl rfl rfl rfl rfl ?_
        refine WO.nil (qs (W.ret (qbRet (qsRet ?_))))
        refine QB1.end tab [] trivial rfl rfl rfl rfl ?_ ?_
        · exact ⟨rfl, trivial⟩
        first | rfl | (show _ = A.ag (exC (nameP L st).1 (listP L o (adv (nameP L st).2)).1).c; rw [exC_c]; rfl)
       ·
        have h51' : ¬ negB L st = true := by unfold negB; simp at h51 ⊢; grind
        refine W.seq (W.region ?_)
        refine pE rfl ?_
        refine callB [0] [] rfl rfl rfl rfl rfl ((skip_fn L gOpen st h hL)) rfl rfl (by rfl) (by rfl) rfl rfl rfl rfl ?_
        refine pE rfl ?_
        refine WO.nil (qs ?_)
        refine condK rfl (fun h85 => ?_) (fun h85 => ?_)
        ·
         rw [skS_yes h85]
         have l1 := skB_more hw h85 h
         have l2 := ho.lt (adv st) l1
         rw [show primP L true o st = ((o (adv st)).1, needP L gShut (o (adv st)).2) by unfold primP; rw [if_neg h10', if_neg h16', if_neg h26', if_neg (by simp [h36]), if_neg (by simp [h41]), if_neg (by simp [h46]), if_neg h51', if_pos h85]]
         refine W.seq (W.region ?_)
         refine pE rfl ?_
         refine callB [0] [] rfl rfl rfl rfl rfl ((hor (adv st) l1 (by show L.length - (st.1 + 1) ≤ d; omega))) rfl rfl (by rfl) (by rfl) rfl rfl rfl rfl ?_
         refine allocR tab rfl rfl rfl ?_
         refine storeR tab rfl rfl rfl rfl rfl rfl rfl rfl ?_
         refine WO.nil (qs (W.seq (W.region ?_)))
         refine pE rfl ?_
         refine callB [0] [] rfl rfl rfl rfl rfl ((need_fn L gShut _ l2 hL)) rfl rfl (by rfl) (by rfl) rfl rfl rfl rfl ?_
         refine WO.nil (qs (W.seq (W.region ?_)))
         first | refine pE rfl ?_ | refine pR rfl rfl rfl rfl rfl ?_ | refine pB rfl rfl rfl rfl rfl rfl ?_
         refine storeR tab rfl rfl rfl rfl rfl rfl rfl rfl ?_
         refine WO.nil (qs (W.ret (qbRet (qsRet ?_))))
         refine QB1.end tab [] trivial rfl rfl rfl rfl ?_ ?_
         · exact ⟨rfl, trivial⟩
         first | rfl | (show _ = A.ag (exC (nameP L st).1 (listP L o (adv (nameP L st).2)).1).c; rw [exC_c]; rfl)
        ·
         rw [skS_no h85]
         have hp : primP L true o st = if nameB L st then (if skB L gOpen (adv st) then callP L o (tk0 L st).s (adv (adv st)) else (exF (tk0 L st).s, adv st)) else (exF E0, failS st) := by unfold primP; rw [if_neg h10', if_neg h16', if_neg h26', if_neg (by simp [h36]), if_neg (by simp [h41]), if_neg (by simp [h46]), if_neg h51', if_neg (by simp [h85])]; rfl
         have l3 := (nameP_goes hw).lt st h
         refine W.skip (qbN (qs (W.seq (W.region ?_))))
         refine pE rfl ?_
         refine callB [0] [] rfl rfl rfl rfl rfl ((name_fn' L st h hL)) rfl rfl (by rfl) (by rfl) rfl rfl rfl rfl ?_
         refine pE rfl ?_
         refine WO.nil (qs ?_)
         iterate 2 refine W.seq ?_
         refine W.region ?_
         refine pE rfl ?_
         refine callB [0] [] rfl rfl rfl rfl rfl ((skip_fn L gOpen _ l3 hL)) rfl rfl (by rfl) (by rfl) rfl rfl rfl rfl ?_
         refine pE rfl ?_
         refine WO.nil (qs ?_)
         refine condK rfl (fun h97 => ?_) (fun h97 => ?_)
         ·
          have h97' : skB L gOpen (nameP L st).2 = false := by simpa using h97
          rw [skS_no h97']
          have hp2 : primP L true o st = (exF (nameP L st).1, (nameP L st).2) := by
           rw [hp]
           cases q : nameB L st with
           | true =>
            have e : nameP L st = ((tk0 L st).s, adv st) := by unfold nameP; rw [q]; rfl
            rw [e] at h97' ⊢
            rw [if_pos rfl, if_neg (by simp [h97'])]
           | false =>
            have e : nameP L st = (E0, failS st) := by unfold nameP; rw [q]; rfl
            rw [e, if_neg (by decide)]
          rw [hp2]
          refine W.seq (W.region ?_)
          refine pE rfl ?_
          refine pu (build tab rfl rfl rfl rfl) rfl ?_
          try refine nilO 99 rfl rfl rfl ?_
          refine storeR tab rfl rfl rfl rfl rfl rfl rfl rfl ?_
          refine WO.nil (qs (W.ret (qsRet ?_)))
          refine QB1.end tab [] trivial rfl rfl rfl rfl ?_ ?_
          · exact ⟨rfl, trivial⟩
          first | rfl | (show _ = A.ag (exC (nameP L st).1 (listP L o (adv (nameP L st).2)).1).c; rw [exC_c]; rfl)
         ·
          have h97' : skB L gOpen (nameP L st).2 = true := by simpa using h97
          rw [skS_yes h97']
          have l4 := skB_more hw h97' l3
          have hp2 : primP L true o st = callP L o (nameP L st).1 (adv (nameP L st).2) := by
           rw [hp]
           cases q : nameB L st with
           | true =>
            have e : nameP L st = ((tk0 L st).s, adv st) := by unfold nameP; rw [q]; rfl
            rw [e] at h97' ⊢
            rw [if_pos rfl, if_pos h97']
           | false =>
            have e : nameP L st = (E0, failS st) := by unfold nameP; rw [q]; rfl
            rw [e] at h97'
            simp [skB] at h97'
          have m3 := (nameP_goes hw).mono st
          refine W.skip (qs (W.seq (W.region ?_)))
          refine pE rfl ?_
          refine pu (build tab rfl rfl rfl rfl) rfl ?_
          try refine nilO 101 rfl rfl rfl ?_
          refine allocR tab rfl rfl rfl ?_
          refine storeR tab rfl rfl rfl rfl rfl rfl rfl rfl ?_
          refine WO.nil (qs ?_)
          iterate 2 refine W.seq ?_
          refine W.region ?_
          refine pE rfl ?_
          refine callB [0] [] rfl rfl rfl rfl rfl ((skip_fn L gShut (adv (nameP L st).2) l4 hL)) rfl rfl (by rfl) (by rfl) rfl rfl rfl rfl ?_
          refine WO.nil (qs ?_)
          refine condK rfl (fun h103 => ?_) (fun h103 => ?_)
          ·
           rw [skS_yes h103]
           rw [hp2, show callP L o (nameP L st).1 (adv (nameP L st).2) = (exC (nameP L st).1 [], adv (adv (nameP L st).2)) by unfold callP; rw [if_pos h103]]
           refine W.seq (W.region ?_)
           first | refine pE rfl ?_ | refine pR rfl rfl rfl rfl rfl ?_ | refine pB rfl rfl rfl rfl rfl rfl ?_
           refine storeR tab rfl rfl rfl rfl rfl rfl rfl rfl ?_
           refine WO.nil (qs (W.ret (qsRet ?_)))
           refine QB1.end tab [] trivial rfl rfl rfl rfl ?_ ?_
           · exact ⟨rfl, trivial⟩
           first | rfl | (show _ = A.ag (exC (nameP L st).1 (listP L o (adv (nameP L st).2)).1).c; rw [exC_c]; rfl)
          ·
           rw [skS_no h103]
           have l5 := (listP_goes hw ho).lt (adv (nameP L st).2) l4
           rw [hp2, show callP L o (nameP L st).1 (adv (nameP L st).2) = (exC (nameP L st).1 (listP L o (adv (nameP L st).2)).1, needP L gShut (listP L o (adv (nameP L st).2)).2) by unfold callP; rw [if_neg (by simp [h103])]]
           refine W.skip (qs (W.seq (W.region ?_)))
           iterate 3 refine pE rfl ?_
           refine callB [0] [] rfl rfl rfl rfl rfl ((listE_fn L hw hL o ho 38 d hor (adv (nameP L st).2) l4 (by show L.length - ((nameP L st).2.1 + 1) ≤ d; omega))) rfl rfl (by rfl) (by rfl) rfl rfl rfl rfl ?_
           refine pE rfl ?_
           refine storeR tab rfl rfl rfl rfl rfl rfl rfl rfl ?_
           refine WO.nil (qs (W.seq (W.region ?_)))
           refine pE rfl ?_
           refine callB [0] [] rfl rfl rfl rfl rfl ((need_fn L gShut _ l5 hL)) rfl rfl (by rfl) (by rfl) rfl rfl rfl rfl ?_
           refine WO.nil (qs (W.seq (W.region ?_)))
           first | refine pE rfl ?_ | refine pR rfl rfl rfl rfl rfl ?_ | refine pB rfl rfl rfl rfl rfl rfl ?_
           refine storeR tab rfl rfl rfl rfl rfl rfl rfl rfl ?_
           refine WO.nil (qs (W.ret ?_))
           refine QB1.end tab [] trivial rfl rfl rfl rfl ?_ ?_
           · exact ⟨rfl, trivial⟩
           first | rfl | (show _ = A.ag (exC (nameP L st).1 (listP L o (adv (nameP L st).2)).1).c; rw [exC_c]; rfl)
end Go.Proofs.YtifeonoehfffmaaGreatDoor
namespace Go.Proofs.YtifeonoehfffmaaGreatDoor
open Go.Ab Go.Tb
set_option maxRecDepth 10000
attribute [local irreducible] W WO Pu QS QB QL QF QV QV1 CH QE
theorem or_all (L : List Tk) (hw : Wf L) (hL : L.length ≤ 3000000) : ∀ d, RdE L 38 (orP L true d) d
 | 0 => fun st h hd => by omega
 | d + 1 => by
  have g0 := orP_goes hw true d
  have h0 := or_all L hw hL d
  have g1 := primP_goes hw g0 true
  have h1 : RdE L 165 (primP L true (orP L true d)) (d + 1) := pprim_fn L hw hL _ g0 d h0
  have g2 := unaryP_goes hw g1 L.length
  have h2 : RdE L 159 (unaryP L (primP L true (orP L true d)) L.length) (d + 1) := fun st h hd => punary_fn L hw hL _ (d + 1) h1 L.length st h hd (by omega)
  have g3 := leftP_goes hw g2 opsMul
  have h3 := pprod_fn L hw hL _ g2 (d + 1) h2
  have g4 := leftP_goes hw g3 opsSum
  have h4 := psum_fn L hw hL _ g3 (d + 1) h3
  have g5 := compP_goes hw g4
  have h5 := pcomp_fn L hw hL _ g4 (d + 1) h4
  have g6 := notP_goes hw g5 L.length
  have h6 : RdE L 113 (notP L (compP L (sumP L true (orP L true d))) L.length) (d + 1) := fun st h hd => pnot_fn L hw hL _ (d + 1) h5 L.length st h hd (by omega)
  have g7 := leftP_goes hw g6 opsAnd
  have h7 := pand_fn L hw hL _ g6 (d + 1) h6
  exact por_fn L hw hL _ g7 (d + 1) h7
theorem or_fn' (L : List Tk) (hw : Wf L) (hL : L.length ≤ 3000000) (st : PS) (h : st.1 < L.length) : DoesB Tryz.prog 38 [.ptr 0 0] [bxP L st] 0 (.ag (orT true L st).1.c) [bxP L (orT true L st).2] 0 := or_all L hw hL L.length st h (by omega)
theorem ritem_fn (L : List Tk) (hw : Wf L) (hL : L.length ≤ 3000000) (st : PS) (h : st.1 < L.length) : DoesB Tryz.prog 56 [.ptr 0 0] [bxP L st] 0 (.ag (itemP L (orT true L) st).1.c) [bxP L (itemP L (orT true L) st).2] 0 := by
 have a1 := (orP_goes hw true L.length).lt st h
 have a2 : (needP L kwAs (orT true L st).2).1 < L.length := (needP_goes hw kwAs).lt _ a1
 refine DoesB.of_V tab (n := 12) (rs := [.cell 2 88]) Tryz.func56 (by kernel_rfl) rfl Tryz.ntmps56 Tryz.results56 rfl rfl fun C hC hG => ?_
 refine W.seq (W.region ?_)
 refine allocR tab rfl rfl rfl ?_
 refine WO.nil (qs (W.seq (W.region ?_)))
 refine pE rfl ?_
 refine callB [0] [] rfl rfl rfl rfl rfl ((or_fn' L hw hL st h)) rfl rfl (by rfl) (by rfl) rfl rfl rfl rfl ?_
 refine allocR tab rfl rfl rfl ?_
 refine storeR tab rfl rfl rfl rfl rfl rfl rfl rfl ?_
 refine WO.nil (qs (W.seq (W.region ?_)))
 refine pE rfl ?_
 refine callB [0] [] rfl rfl rfl rfl rfl ((need_fn L kwAs _ a1 hL)) rfl rfl (by rfl) (by rfl) rfl rfl rfl rfl ?_
 refine WO.nil (qs (W.seq ?_))
 apply W.regionC tab 3 2; (case hB => kernel_rfl); (case h1 => rfl); (case h2 => rfl)
 first | (refine' ccPu ?p1_1 (ev tab rfl) rfl rfl rfl rfl rfl ?h_1) | (refine' ccPu ?p1_1 (loadRow tab rfl rfl rfl rfl) rfl rfl rfl rfl rfl ?h_1) | (refine' ccPu ?p1_1 (loadBox tab rfl rfl rfl rfl rfl) rfl rfl rfl rfl rfl ?h_1)
 case' h_1 => skip
 refine' ccPu0 (ev tab rfl) rfl rfl rfl rfl rfl ?h_2
 case' h_2 => skip
 refine' ccX (fun g => ?e_3) rfl rfl rfl ?h_3
 case e_3 =>
  refine callB [0] [] rfl rfl rfl rfl rfl ((name_fn' L _ a2 hL)) rfl rfl (by rfl) (by rfl) rfl rfl rfl rfl ?_
  refine WO.nil ?_
  exact ⟨rfl, rfl⟩
 case' h_3 => skip
 case p1_1 => first | (exact (ev tab rfl)) | (exact (loadRow tab rfl rfl rfl rfl)) | (exact (loadBox tab rfl rfl rfl rfl rfl))
 refine CC.nil ?_
 refine pu (build tab rfl rfl rfl rfl) rfl ?_
 refine storeR tab rfl rfl rfl rfl rfl rfl rfl rfl ?_
 refine WO.nil (qs (W.ret ?_))
 refine QB1.end tab [] trivial rfl rfl rfl rfl ?_ ?_
 · exact ⟨rfl, trivial⟩
 rfl
theorem qnames_fn (L : List Tk) (hw : Wf L) (hL : L.length ≤ 3000000) (st : PS) (h : st.1 < L.length) : DoesB Tryz.prog 62 [.ptr 0 0] [bxP L st] 0 (.d (.sl ((listP L (nameP L) st).1.map sc))) [bxP L (listP L (nameP L) st).2] 0 := by
 refine DoesB.of_V tab (n := 7) (rs := [.tmp 2]) Tryz.func62 (by kernel_rfl) rfl Tryz.ntmps62 Tryz.results62 rfl rfl fun C hC hG => ?_
 refine W.seq (W.region ?_)
 refine pE rfl ?_
 refine WO.nil (qs (W.seq (W.region ?_)))
 iterate 3 refine pE rfl ?_
 refine callB [0] [] rfl rfl rfl rfl rfl ((listS_fn L hw hL (nameP L) (nameP_goes hw) 27 L.length (fun st h _ => name_fn' L st h hL) st h (by omega))) rfl rfl (by rfl) (by rfl) rfl rfl rfl rfl ?_
 refine pE rfl ?_
 refine WO.nil (qs (W.ret ?_))
 refine QB1.end tab [] trivial rfl rfl rfl rfl ?_ ?_
 · exact ⟨rfl, trivial⟩
 rfl
theorem raggs_fn (L : List Tk) (hw : Wf L) (hL : L.length ≤ 3000000) (st : PS) (h : st.1 < L.length) : DoesB Tryz.prog 98 [.ptr 0 0, .bnd 99 [.ptr 0 0]] [bxP L st] 0 (.d (.sl ((listP L (aggP L) st).1.map Agr.c))) [bxP L (listP L (aggP L) st).2] 0 :=
 listA_fn L hw hL (aggP L) (aggP_goes hw) 99 L.length (fun st h _ => agg_fn L hw hL st h) st h (by omega)
theorem nameP_bad {L : List Tk} {st : PS} (h : st.2 = true) : nameP L st = (E0, st) := by
 unfold nameP
 rw [nameB_bad h, fail_bad h]
 rfl
theorem names_bad {L : List Tk} (hw : Wf L) {st : PS} (h : st.2 = true) : listP L (nameP L) st = ([E0], st) := by
 have q : skB L gCom st = false := skB_bad h
 unfold listP
 simp only [nameP_bad h]
 cases L.length with
 | zero => rfl
 | succ n => simp only [listGo, q, Bool.false_eq_true, if_false]
theorem withP_must {L : List Tk} (hw : Wf L) {op : Int} {must : Bool} (h : must = true) (st : PS) : withP L true op must st = ({ stp0 op with table := (nameP L st).1, cols := (listP L (nameP L) (needP L kwOn (nameP L st).2)).1 }, (listP L (nameP L) (needP L kwOn (nameP L st).2)).2) := by
 unfold withP
 rw [if_pos h]
 split
 ·
  rename_i q
  rw [names_bad hw q]; rfl
 · rfl
theorem rgroup_fn (L : List Tk) (hw : Wf L) (hL : L.length ≤ 3000000) (st : PS) (h : st.1 < L.length) : DoesB Tryz.prog 57 [.ptr 0 0] [bxP L st] 0 (.ag (groupP L st).1.c) [bxP L (groupP L st).2] 0 := by
 have a1 := (listP_goes hw (nameP_goes hw)).lt st h
 have a2 : (needP L gCol st).1 < L.length := (needP_goes hw gCol).lt _ h
 refine DoesB.of_V tab (n := 31) (rs := [.cell 2 55]) Tryz.func57 (by kernel_rfl) rfl Tryz.ntmps57 Tryz.results57 rfl rfl fun C hC hG => ?_
 refine W.seq (W.region ?_)
 refine allocR tab rfl rfl rfl ?_
 refine WO.nil (qs (W.seq (W.region ?_)))
 refine pu (build tab rfl rfl rfl rfl) rfl ?_
 try refine nilO 4 rfl rfl rfl ?_
 refine allocR tab rfl rfl rfl ?_
 refine storeR tab rfl rfl rfl rfl rfl rfl rfl rfl ?_
 refine WO.nil (qs ?_)
 iterate 2 refine W.seq ?_
 apply regionB; (case hb => rfl)
 ·
  iterate 3 refine pE rfl ?_
  first | refine pE rfl ?_ | refine pR rfl rfl rfl rfl rfl ?_ | refine pB rfl rfl rfl rfl rfl rfl ?_
  iterate 2 refine pE rfl ?_
  apply splitJ; (case hj => rfl); (case hl => rfl)
  ·
   refine goG rfl rfl ?_
   refine pE rfl ?_
   refine goG rfl rfl ?_
   refine pu (puCall rfl rfl rfl (peek0_fn L st h hL) rfl) rfl ?_
   refine goG rfl rfl ?_
   refine pu (puCall rfl rfl rfl (is_fn (tk0 L st) gCol) rfl) rfl ?_
   refine goG rfl rfl ?_
   iterate 2 refine pE rfl ?_
   refine WO.nil ?_
   refine qv1 rfl rfl rfl
  ·
   iterate 4 refine skipT rfl rfl rfl rfl ?_
   refine pE rfl ?_
   refine WO.nil ?_
   refine qv1 rfl rfl rfl
 refine qs ?_
 refine condK rfl (fun h15 => ?_) (fun h15 => ?_)
 ·
  have h15' : (!st.2 && !isT (tk0 L st) gCol) = true := by cases q : st.2 <;> simp [q] at h15 ⊢; exact h15
  refine W.seq (W.region ?_)
  refine pE rfl ?_
  refine callB [0] [] rfl rfl rfl rfl rfl ((qnames_fn L hw hL st h)) rfl rfl (by rfl) (by rfl) rfl rfl rfl rfl ?_
  refine pE rfl ?_
  refine storeR tab rfl rfl rfl rfl rfl rfl rfl rfl ?_
  refine WO.nil (qs (W.seq (W.region ?_)))
  refine pE rfl ?_
  refine callB [0] [] rfl rfl rfl rfl rfl ((skip_fn L gCol _ a1 hL)) rfl rfl (by rfl) (by rfl) rfl rfl rfl rfl ?_
  refine pE rfl ?_
  refine WO.nil (qs ?_)
  refine condK rfl (fun h21 => ?_) (fun h21 => ?_)
  ·
   have h21' : skB L gCol (listP L (nameP L) st).2 = false := by simpa using h21
   rw [skS_no h21', show groupP L st = ({ stp0 3 with cols := (listP L (nameP L) st).1 }, (listP L (nameP L) st).2) by unfold groupP; rw [if_pos h15', if_neg (by simp [h21'])]]
   refine W.seq (W.region ?_)
   first | refine pE rfl ?_ | refine pR rfl rfl rfl rfl rfl ?_ | refine pB rfl rfl rfl rfl rfl rfl ?_
   refine storeR tab rfl rfl rfl rfl rfl rfl rfl rfl ?_
   refine WO.nil (qs (W.ret (qsRet ?_)))
   refine QB1.end tab [] trivial rfl rfl rfl rfl ?_ ?_
   · exact ⟨rfl, trivial⟩
   rfl
  ·
   have h21' : skB L gCol (listP L (nameP L) st).2 = true := by simpa using h21
   have a3 := skB_more hw h21' a1
   rw [skS_yes h21', show groupP L st = ({ stp0 3 with cols := (listP L (nameP L) st).1, aggs := (listP L (aggP L) (adv (listP L (nameP L) st).2)).1 }, (listP L (aggP L) (adv (listP L (nameP L) st).2)).2) by unfold groupP; rw [if_pos h15', if_pos h21']]
   refine W.skip (qs (W.seq (W.region ?_)))
   iterate 3 refine pE rfl ?_
   refine callB [0] [] rfl rfl rfl rfl rfl ((raggs_fn L hw hL _ (by assumption))) rfl rfl (by rfl) (by rfl) rfl rfl rfl rfl ?_
   refine pE rfl ?_
   refine storeR tab rfl rfl rfl rfl rfl rfl rfl rfl ?_
   refine WO.nil (qs (W.seq (W.region ?_)))
   first | refine pE rfl ?_ | refine pR rfl rfl rfl rfl rfl ?_ | refine pB rfl rfl rfl rfl rfl rfl ?_
   refine storeR tab rfl rfl rfl rfl rfl rfl rfl rfl ?_
   refine WO.nil (qs (W.ret ?_))
   refine QB1.end tab [] trivial rfl rfl rfl rfl ?_ ?_
   · exact ⟨rfl, trivial⟩
   rfl
 ·
  have h15' : ¬ (!st.2 && !isT (tk0 L st) gCol) = true := by cases q : st.2 <;> simp [q] at h15 ⊢; exact h15
  rw [show groupP L st = ({ stp0 3 with aggs := (listP L (aggP L) (needP L gCol st)).1 }, (listP L (aggP L) (needP L gCol st)).2) by unfold groupP; rw [if_neg h15']]
  refine W.region ?_
  refine pE rfl ?_
  refine callB [0] [] rfl rfl rfl rfl rfl ((need_fn L gCol st h hL)) rfl rfl (by rfl) (by rfl) rfl rfl rfl rfl ?_
  refine WO.nil (qs (W.seq (W.region ?_)))
  iterate 3 refine pE rfl ?_
  refine callB [0] [] rfl rfl rfl rfl rfl ((raggs_fn L hw hL _ (by assumption))) rfl rfl (by rfl) (by rfl) rfl rfl rfl rfl ?_
  refine pE rfl ?_
  refine storeR tab rfl rfl rfl rfl rfl rfl rfl rfl ?_
  refine WO.nil (qs (W.seq (W.region ?_)))
  first | refine pE rfl ?_ | refine pR rfl rfl rfl rfl rfl ?_ | refine pB rfl rfl rfl rfl rfl rfl ?_
  refine storeR tab rfl rfl rfl rfl rfl rfl rfl rfl ?_
  refine WO.nil (qs (W.ret ?_))
  refine QB1.end tab [] trivial rfl rfl rfl rfl ?_ ?_
  · exact ⟨rfl, trivial⟩
  rfl
theorem rwith_fn (L : List Tk) (hw : Wf L) (hL : L.length ≤ 3000000) (op : Int) (must : Bool) (st : PS) (h : st.1 < L.length) : DoesB Tryz.prog 61 [.ptr 0 0, .d (.v (.int .i64 op)), .d (.v (.bool must))] [bxP L st] 0 (.ag (withP L true op must st).1.c) [bxP L (withP L true op must st).2] 0 := by
 have a1 := (nameP_goes hw).lt st h
 have a2 : (needP L kwOn (nameP L st).2).1 < L.length := (needP_goes hw kwOn).lt _ a1
 refine DoesB.of_V tab (n := 23) (rs := [.cell 6 55]) Tryz.func61 (by kernel_rfl) rfl Tryz.ntmps61 Tryz.results61 rfl rfl fun C hC hG => ?_
 refine W.seq (W.region ?_)
 refine allocR tab rfl rfl rfl ?_
 refine WO.nil (qs (W.seq (W.region ?_)))
 iterate 2 refine pE rfl ?_
 refine callB [0] [] rfl rfl rfl rfl rfl ((name_fn' L st h hL)) rfl rfl (by rfl) (by rfl) rfl rfl rfl rfl ?_
 refine pu (build tab rfl rfl rfl rfl) rfl ?_
 try refine nilO 11 rfl rfl rfl ?_
 refine allocR tab rfl rfl rfl ?_
 refine storeR tab rfl rfl rfl rfl rfl rfl rfl rfl ?_
 refine WO.nil (qs ?_)
 iterate 2 refine W.seq ?_
 refine W.region ?_
 refine pE rfl ?_
 refine WO.nil (qs ?_)
 refine condK rfl (fun h12 => ?_) (fun h12 => ?_)
 ·
  rw [withP_must hw h12]
  refine W.region ?_
  refine pE rfl ?_
  refine callB [0] [] rfl rfl rfl rfl rfl ((need_fn L kwOn _ a1 hL)) rfl rfl (by rfl) (by rfl) rfl rfl rfl rfl ?_
  refine WO.nil (qs (W.seq (W.region ?_)))
  refine pE rfl ?_
  refine callB [0] [] rfl rfl rfl rfl rfl ((qnames_fn L hw hL _ (by assumption))) rfl rfl (by rfl) (by rfl) rfl rfl rfl rfl ?_
  refine pE rfl ?_
  refine storeR tab rfl rfl rfl rfl rfl rfl rfl rfl ?_
  refine WO.nil (qs (W.seq (W.region ?_)))
  first | refine pE rfl ?_ | refine pR rfl rfl rfl rfl rfl ?_ | refine pB rfl rfl rfl rfl rfl rfl ?_
  refine storeR tab rfl rfl rfl rfl rfl rfl rfl rfl ?_
  refine WO.nil (qs (W.ret ?_))
  refine QB1.end tab [] trivial rfl rfl rfl rfl ?_ ?_
  · exact ⟨rfl, trivial⟩
  rfl
 ·
  have h12' : must = false := by simpa using h12
  refine W.seq (W.region ?_)
  refine pE rfl ?_
  refine callB [0] [] rfl rfl rfl rfl rfl ((skip_fn L kwOn _ a1 hL)) rfl rfl (by rfl) (by rfl) rfl rfl rfl rfl ?_
  refine pE rfl ?_
  refine WO.nil (qs ?_)
  refine condK rfl (fun h17 => ?_) (fun h17 => ?_)
  ·
   have h17' : skB L kwOn (nameP L st).2 = false := by simpa using h17
   rw [skS_no h17', show withP L true op must st = ({ stp0 op with table := (nameP L st).1 }, (nameP L st).2) by unfold withP; rw [if_neg (by simp [h12']), if_neg (by simp [h17'])]]
   refine W.seq (W.region ?_)
   first | refine pE rfl ?_ | refine pR rfl rfl rfl rfl rfl ?_ | refine pB rfl rfl rfl rfl rfl rfl ?_
   refine storeR tab rfl rfl rfl rfl rfl rfl rfl rfl ?_
   refine WO.nil (qs (W.ret (qsRet ?_)))
   refine QB1.end tab [] trivial rfl rfl rfl rfl ?_ ?_
   · exact ⟨rfl, trivial⟩
   rfl
  ·
   have h17' : skB L kwOn (nameP L st).2 = true := by simpa using h17
   have a3 := skB_more hw h17' a1
   rw [skS_yes h17', show withP L true op must st = ({ stp0 op with table := (nameP L st).1, cols := (listP L (nameP L) (adv (nameP L st).2)).1 }, (listP L (nameP L) (adv (nameP L st).2)).2) by unfold withP; rw [if_neg (by simp [h12']), if_pos h17']]
   refine W.skip (qs (W.seq (W.region ?_)))
   refine pE rfl ?_
   refine callB [0] [] rfl rfl rfl rfl rfl ((qnames_fn L hw hL _ (by assumption))) rfl rfl (by rfl) (by rfl) rfl rfl rfl rfl ?_
   refine pE rfl ?_
   refine storeR tab rfl rfl rfl rfl rfl rfl rfl rfl ?_
   refine WO.nil (qs (W.seq (W.region ?_)))
   first | refine pE rfl ?_ | refine pR rfl rfl rfl rfl rfl ?_ | refine pB rfl rfl rfl rfl rfl rfl ?_
   refine storeR tab rfl rfl rfl rfl rfl rfl rfl rfl ?_
   refine WO.nil (qs (W.ret ?_))
   refine QB1.end tab [] trivial rfl rfl rfl rfl ?_ ?_
   · exact ⟨rfl, trivial⟩
   rfl
end Go.Proofs.YtifeonoehfffmaaGreatDoor
namespace Go.Proofs.YtifeonoehfffmaaGreatDoor
open Go.Ab Go.Tb
set_option maxRecDepth 10000
attribute [local irreducible] W WO Pu QS QB QL QF QV QV1 CH QE
theorem sorts_fn' (L : List Tk) (hw : Wf L) (hL : L.length ≤ 3000000) (st : PS) (h : st.1 < L.length) : DoesB Tryz.prog 58 [.ptr 0 0, .bnd 59 [.ptr 0 0]] [bxP L st] 0 (.d (.sl ((listP L (sortP L) st).1.map Srt.c))) [bxP L (listP L (sortP L) st).2] 0 :=
 listR_fn L hw hL (sortP L) (sortP_goes hw) 59 L.length (fun st h _ => sort_fn L hw hL st h) st h (by omega)
theorem items_fn' (L : List Tk) (hw : Wf L) (hL : L.length ≤ 3000000) (st : PS) (h : st.1 < L.length) : DoesB Tryz.prog 55 [.ptr 0 0, .bnd 56 [.ptr 0 0]] [bxP L st] 0 (.d (.sl ((listP L (itemP L (orT true L)) st).1.map Itm.c))) [bxP L (listP L (itemP L (orT true L)) st).2] 0 :=
 listI_fn L hw hL (itemP L (orT true L)) (itemP_goes hw (orP_goes hw true _)) 56 L.length (fun st h _ => ritem_fn L hw hL st h) st h (by omega)
set_option maxHeartbeats 4000000 in
theorem qstep_fn (L : List Tk) (hw : Wf L) (hL : L.length ≤ 3000000) (st : PS) (h : st.1 < L.length) : DoesB Tryz.prog 29 [.ptr 0 0] [bxP L st] 0 (.ag (stepP L true (orT true L) st).1.c) [bxP L (stepP L true (orT true L) st).2] 0 := by
 have ad : ∀ {x}, skB L x st = true → (adv st).1 < L.length := fun h1 => skB_more hw h1 h
 refine DoesB.of_V tab (n := 66) (rs := [.cell 2 55]) Tryz.func29 (by kernel_rfl) rfl Tryz.ntmps29 Tryz.results29 rfl rfl fun C hC hG => ?_
 refine W.seq (W.region ?_)
 refine allocR tab rfl rfl rfl ?_
 refine WO.nil (qs (W.seq (W.block (W.seq (W.region ?_)))))
 refine pE rfl ?_
 refine callB [0] [] rfl rfl rfl rfl rfl ((skip_fn L kwWhere st h hL)) rfl rfl (by rfl) (by rfl) rfl rfl rfl rfl ?_
 refine pE rfl ?_
 refine WO.nil (qs ?_)
 refine condK rfl (fun h4 => ?_) (fun h4 => ?_)
 ·
  rw [skS_yes h4, show stepP L true (orT true L) st = ({ stp0 1 with cond := (orT true L (adv st)).1 }, (orT true L (adv st)).2) by unfold stepP; rw [if_pos h4]]
  refine W.seq (W.region ?_)
  refine pE rfl ?_
  refine callB [0] [] rfl rfl rfl rfl rfl ((or_fn' L hw hL _ (ad h4))) rfl rfl (by rfl) (by rfl) rfl rfl rfl rfl ?_
  refine pu (build tab rfl rfl rfl rfl) rfl ?_
  try refine nilS 9 rfl rfl rfl ?_
  refine storeR tab rfl rfl rfl rfl rfl rfl rfl rfl ?_
  refine WO.nil (qs (W.ret (qbRet (qsRet ?_))))
  refine QB1.end tab [] trivial rfl rfl rfl rfl ?_ ?_
  · exact ⟨rfl, trivial⟩
  first | rfl | (generalize orT true L (adv st) = p; rfl)
 ·
  rw [skS_no h4]
  refine W.seq (W.region ?_)
  refine pE rfl ?_
  refine callB [0] [] rfl rfl rfl rfl rfl ((skip_fn L kwSelect st h hL)) rfl rfl (by rfl) (by rfl) rfl rfl rfl rfl ?_
  refine pE rfl ?_
  refine WO.nil (qs ?_)
  refine condK rfl (fun h10 => ?_) (fun h10 => ?_)
  ·
   rw [skS_yes h10, show stepP L true (orT true L) st = ({ stp0 2 with items := (listP L (itemP L (orT true L)) (adv st)).1 }, (listP L (itemP L (orT true L)) (adv st)).2) by unfold stepP; rw [if_neg (by simp [h4]), if_pos h10]]
   refine W.seq (W.region ?_)
   iterate 3 refine pE rfl ?_
   refine callB [0] [] rfl rfl rfl rfl rfl ((items_fn' L hw hL _ (ad h10))) rfl rfl (by rfl) (by rfl) rfl rfl rfl rfl ?_
   refine pu (build tab rfl rfl rfl rfl) rfl ?_
   try refine nilS 17 rfl rfl rfl ?_
   refine storeR tab rfl rfl rfl rfl rfl rfl rfl rfl ?_
   refine WO.nil (qs (W.ret (qbRet (qsRet ?_))))
   refine QB1.end tab [] trivial rfl rfl rfl rfl ?_ ?_
   · exact ⟨rfl, trivial⟩
   first | rfl | (generalize orT true L (adv st) = p; rfl)
  ·
   rw [skS_no h10]
   refine W.seq (W.region ?_)
   refine pE rfl ?_
   refine callB [0] [] rfl rfl rfl rfl rfl ((skip_fn L kwGroup st h hL)) rfl rfl (by rfl) (by rfl) rfl rfl rfl rfl ?_
   refine pE rfl ?_
   refine WO.nil (qs ?_)
   refine condK rfl (fun h18 => ?_) (fun h18 => ?_)
   ·
    rw [skS_yes h18, show stepP L true (orT true L) st = groupP L (adv st) by unfold stepP; rw [if_neg (by simp [h4]), if_neg (by simp [h10]), if_pos h18]]
    refine W.seq (W.region ?_)
    refine pE rfl ?_
    refine callB [0] [] rfl rfl rfl rfl rfl ((rgroup_fn L hw hL _ (ad h18))) rfl rfl (by rfl) (by rfl) rfl rfl rfl rfl ?_
    refine storeR tab rfl rfl rfl rfl rfl rfl rfl rfl ?_
    refine WO.nil (qs (W.ret (qbRet (qsRet ?_))))
    refine QB1.end tab [] trivial rfl rfl rfl rfl ?_ ?_
    · exact ⟨rfl, trivial⟩
    first | rfl | (generalize orT true L (adv st) = p; rfl)
   ·
    rw [skS_no h18]
    refine W.seq (W.region ?_)
    refine pE rfl ?_
    refine callB [0] [] rfl rfl rfl rfl rfl ((skip_fn L kwSort st h hL)) rfl rfl (by rfl) (by rfl) rfl rfl rfl rfl ?_
    refine pE rfl ?_
    refine WO.nil (qs ?_)
    refine condK rfl (fun h23 => ?_) (fun h23 => ?_)
    ·
     rw [skS_yes h23, show stepP L true (orT true L) st = ({ stp0 4 with sorts := (listP L (sortP L) (adv st)).1 }, (listP L (sortP L) (adv st)).2) by unfold stepP; rw [if_neg (by simp [h4]), if_neg (by simp [h10]), if_neg (by simp [h18]), if_pos h23]]
     refine W.seq (W.region ?_)
     iterate 3 refine pE rfl ?_
     refine callB [0] [] rfl rfl rfl rfl rfl ((sorts_fn' L hw hL _ (ad h23))) rfl rfl (by rfl) (by rfl) rfl rfl rfl rfl ?_
     refine pu (build tab rfl rfl rfl rfl) rfl ?_
     try refine nilS 30 rfl rfl rfl ?_
     refine storeR tab rfl rfl rfl rfl rfl rfl rfl rfl ?_
     refine WO.nil (qs (W.ret (qbRet (qsRet ?_))))
     refine QB1.end tab [] trivial rfl rfl rfl rfl ?_ ?_
     · exact ⟨rfl, trivial⟩
     first | rfl | (generalize orT true L (adv st) = p; rfl)
    ·
     rw [skS_no h23]
     refine W.seq (W.region ?_)
     refine pE rfl ?_
     refine callB [0] [] rfl rfl rfl rfl rfl ((skip_fn L kwLimit st h hL)) rfl rfl (by rfl) (by rfl) rfl rfl rfl rfl ?_
     refine pE rfl ?_
     refine WO.nil (qs ?_)
     refine condK rfl (fun h31 => ?_) (fun h31 => ?_)
     ·
      rw [skS_yes h31, show stepP L true (orT true L) st = ({ stp0 5 with n := (limP L (adv st)).1 }, (limP L (adv st)).2) by unfold stepP; rw [if_neg (by simp [h4]), if_neg (by simp [h10]), if_neg (by simp [h18]), if_neg (by simp [h23]), if_pos h31]]
      refine W.seq (W.region ?_)
      refine pE rfl ?_
      refine callB [0] [] rfl rfl rfl rfl rfl ((limit_fn L _ (ad h31) hL)) rfl rfl (by rfl) (by rfl) rfl rfl rfl rfl ?_
      refine pu (build tab rfl rfl rfl rfl) rfl ?_
      try refine nilS 36 rfl rfl rfl ?_
      refine storeR tab rfl rfl rfl rfl rfl rfl rfl rfl ?_
      refine WO.nil (qs (W.ret (qbRet (qsRet ?_))))
      refine QB1.end tab [] trivial rfl rfl rfl rfl ?_ ?_
      · exact ⟨rfl, trivial⟩
      first | rfl | (generalize orT true L (adv st) = p; rfl)
     ·
      rw [skS_no h31]
      refine W.seq (W.region ?_)
      refine pE rfl ?_
      refine callB [0] [] rfl rfl rfl rfl rfl ((skip_fn L kwJoin st h hL)) rfl rfl (by rfl) (by rfl) rfl rfl rfl rfl ?_
      refine pE rfl ?_
      refine WO.nil (qs ?_)
      refine condK rfl (fun h37 => ?_) (fun h37 => ?_)
      ·
       rw [skS_yes h37, show stepP L true (orT true L) st = withP L true 6 true (adv st) by unfold stepP; rw [if_neg (by simp [h4]), if_neg (by simp [h10]), if_neg (by simp [h18]), if_neg (by simp [h23]), if_neg (by simp [h31]), if_pos h37]]
       refine W.seq (W.region ?_)
       refine pE rfl ?_
       refine callB [0] [] rfl rfl rfl rfl rfl ((rwith_fn L hw hL 6 true _ (ad h37))) rfl rfl (by rfl) (by rfl) rfl rfl rfl rfl ?_
       refine storeR tab rfl rfl rfl rfl rfl rfl rfl rfl ?_
       refine WO.nil (qs (W.ret (qbRet (qsRet ?_))))
       refine QB1.end tab [] trivial rfl rfl rfl rfl ?_ ?_
       · exact ⟨rfl, trivial⟩
       first | rfl | (generalize orT true L (adv st) = p; rfl)
      ·
       rw [skS_no h37]
       refine W.seq (W.region ?_)
       refine pE rfl ?_
       refine callB [0] [] rfl rfl rfl rfl rfl ((skip_fn L kwOverlap st h hL)) rfl rfl (by rfl) (by rfl) rfl rfl rfl rfl ?_
       refine pE rfl ?_
       refine WO.nil (qs ?_)
       refine condK rfl (fun h42 => ?_) (fun h42 => ?_)
       ·
        rw [skS_yes h42, show stepP L true (orT true L) st = withP L true 7 false (adv st) by unfold stepP; rw [if_neg (by simp [h4]), if_neg (by simp [h10]), if_neg (by simp [h18]), if_neg (by simp [h23]), if_neg (by simp [h31]), if_neg (by simp [h37]), if_pos h42]]
        refine W.seq (W.region ?_)
        refine pE rfl ?_
        refine callB [0] [] rfl rfl rfl rfl rfl ((rwith_fn L hw hL 7 false _ (ad h42))) rfl rfl (by rfl) (by rfl) rfl rfl rfl rfl ?_
        refine storeR tab rfl rfl rfl rfl rfl rfl rfl rfl ?_
        refine WO.nil (qs (W.ret (qbRet (qsRet ?_))))
        refine QB1.end tab [] trivial rfl rfl rfl rfl ?_ ?_
        · exact ⟨rfl, trivial⟩
        first | rfl | (generalize orT true L (adv st) = p; rfl)
       ·
        rw [skS_no h42]
        refine W.seq (W.region ?_)
        refine pE rfl ?_
        refine callB [0] [] rfl rfl rfl rfl rfl ((skip_fn L kwNearest st h hL)) rfl rfl (by rfl) (by rfl) rfl rfl rfl rfl ?_
        refine pE rfl ?_
        refine WO.nil (qs ?_)
        refine condK rfl (fun h47 => ?_) (fun h47 => ?_)
        ·
         rw [skS_yes h47, show stepP L true (orT true L) st = withP L true 8 false (adv st) by unfold stepP; rw [if_neg (by simp [h4]), if_neg (by simp [h10]), if_neg (by simp [h18]), if_neg (by simp [h23]), if_neg (by simp [h31]), if_neg (by simp [h37]), if_neg (by simp [h42]), if_pos h47]]
         refine W.seq (W.region ?_)
         refine pE rfl ?_
         refine callB [0] [] rfl rfl rfl rfl rfl ((rwith_fn L hw hL 8 false _ (ad h47))) rfl rfl (by rfl) (by rfl) rfl rfl rfl rfl ?_
         refine storeR tab rfl rfl rfl rfl rfl rfl rfl rfl ?_
         refine WO.nil (qs (W.ret (qbRet (qsRet ?_))))
         refine QB1.end tab [] trivial rfl rfl rfl rfl ?_ ?_
         · exact ⟨rfl, trivial⟩
         first | rfl | (generalize orT true L (adv st) = p; rfl)
        ·
         rw [skS_no h47]
         refine W.seq (W.region ?_)
         refine pE rfl ?_
         refine callB [0] [] rfl rfl rfl rfl rfl ((skip_fn L kwCoal st h hL)) rfl rfl (by rfl) (by rfl) rfl rfl rfl rfl ?_
         refine pE rfl ?_
         refine WO.nil (qs ?_)
         refine condK rfl (fun h52 => ?_) (fun h52 => ?_)
         ·
          rw [skS_yes h52, show stepP L true (orT true L) st = coalP L (adv st) by unfold stepP; rw [if_neg (by simp [h4]), if_neg (by simp [h10]), if_neg (by simp [h18]), if_neg (by simp [h23]), if_neg (by simp [h31]), if_neg (by simp [h37]), if_neg (by simp [h42]), if_neg (by simp [h47]), if_pos h52]]
          refine W.seq (W.region ?_)
          refine pu (build tab rfl rfl rfl rfl) rfl ?_
          try refine nilS 55 rfl rfl rfl ?_
          refine allocR tab rfl rfl rfl ?_
          refine storeR tab rfl rfl rfl rfl rfl rfl rfl rfl ?_
          refine WO.nil (qs ?_)
          iterate 2 refine W.seq ?_
          refine W.region ?_
          refine pE rfl ?_
          refine pu (puCall rfl rfl rfl (isName_fn L _ (ad h52) hL) rfl) rfl ?_
          refine WO.nil (qs ?_)
          refine condK rfl (fun h57 => ?_) (fun h57 => ?_)
          ·
           rw [show coalP L (adv st) = ({ stp0 9 with cols := (listP L (nameP L) (adv st)).1 }, (listP L (nameP L) (adv st)).2) by unfold coalP; rw [if_pos h57]]
           refine W.region ?_
           refine pE rfl ?_
           refine callB [0] [] rfl rfl rfl rfl rfl ((qnames_fn L hw hL _ (ad h52))) rfl rfl (by rfl) (by rfl) rfl rfl rfl rfl ?_
           refine pE rfl ?_
           refine storeR tab rfl rfl rfl rfl rfl rfl rfl rfl ?_
           refine WO.nil (qs (W.seq (W.region ?_)))
           first | refine pE rfl ?_ | refine pR rfl rfl rfl rfl rfl ?_ | refine pB rfl rfl rfl rfl rfl rfl ?_
           refine storeR tab rfl rfl rfl rfl rfl rfl rfl rfl ?_
           refine WO.nil (qs (W.ret (qbRet (qsRet ?_))))
           refine QB1.end tab [] trivial rfl rfl rfl rfl ?_ ?_
           · exact ⟨rfl, trivial⟩
           first | rfl | (generalize orT true L (adv st) = p; rfl)
          ·
           rw [show coalP L (adv st) = (stp0 9, adv st) by unfold coalP; rw [if_neg (by simp [h57])]]
           refine W.skip (qs (W.seq (W.region ?_)))
           first | refine pE rfl ?_ | refine pR rfl rfl rfl rfl rfl ?_ | refine pB rfl rfl rfl rfl rfl rfl ?_
           refine storeR tab rfl rfl rfl rfl rfl rfl rfl rfl ?_
           refine WO.nil (qs (W.ret (qbRet (qsRet ?_))))
           refine QB1.end tab [] trivial rfl rfl rfl rfl ?_ ?_
           · exact ⟨rfl, trivial⟩
           first | rfl | (generalize orT true L (adv st) = p; rfl)
         ·
          rw [skS_no h52, show stepP L true (orT true L) st = (stp0 0, failS st) by unfold stepP; rw [if_neg (by simp [h4]), if_neg (by simp [h10]), if_neg (by simp [h18]), if_neg (by simp [h23]), if_neg (by simp [h31]), if_neg (by simp [h37]), if_neg (by simp [h42]), if_neg (by simp [h47]), if_neg (by simp [h52])]]
          refine W.skip (qbN (qs (W.seq (W.region ?_))))
          iterate 3 refine pE rfl ?_
          refine storeR tab rfl rfl rfl rfl rfl rfl rfl rfl ?_
          refine WO.nil (qs (W.seq (W.region ?_)))
          refine pu (build tab rfl rfl rfl rfl) rfl ?_
          try refine nilS 65 rfl rfl rfl ?_
          refine storeR tab rfl rfl rfl rfl rfl rfl rfl rfl ?_
          refine WO.nil (qs (W.ret ?_))
          refine QB1.end tab [] trivial rfl rfl rfl rfl ?_ ?_
          · exact ⟨rfl, trivial⟩
          first | rfl | (generalize orT true L (adv st) = p; rfl)
set_option maxHeartbeats 4000000 in
theorem qquery_fn (L : List Tk) (hw : Wf L) (hL : L.length ≤ 3000000) (st : PS) (h : st.1 < L.length) : DoesB Tryz.prog 25 [.ptr 0 0] [bxP L st] 0 (.ag (queryT true L st).1.c) [bxP L (queryT true L st).2] 0 := by
 have a1 : (needP L kwFrom st).1 < L.length := (needP_goes hw kwFrom).lt _ h
 have a2 := (nameP_goes hw).lt _ a1
 refine DoesB.of_V tab (n := 19) (rs := [.cell 2 25]) Tryz.func25 (by kernel_rfl) rfl Tryz.ntmps25 Tryz.results25 rfl rfl fun C hC hG => ?_
 refine W.seq (W.region ?_)
 refine allocR tab rfl rfl rfl ?_
 refine WO.nil (qs (W.seq (W.region ?_)))
 refine pE rfl ?_
 refine callB [0] [] rfl rfl rfl rfl rfl ((need_fn L kwFrom st h hL)) rfl rfl (by rfl) (by rfl) rfl rfl rfl rfl ?_
 refine WO.nil (qs (W.seq (W.region ?_)))
 refine pE rfl ?_
 refine callB [0] [] rfl rfl rfl rfl rfl ((name_fn' L _ a1 hL)) rfl rfl (by rfl) (by rfl) rfl rfl rfl rfl ?_
 refine pu (build tab rfl rfl rfl rfl) rfl ?_
 refine allocR tab rfl rfl rfl ?_
 refine storeR tab rfl rfl rfl rfl rfl rfl rfl rfl ?_
 refine WO.nil (qs (W.seq (W.block ?_)))
 refine ownNilBox 4 1 rfl rfl rfl ?_
 refine W.loopR (ι := {x : Nat × PS × List Stp // match x with | (n, s1, acc) => s1.1 < L.length ∧ L.length - s1.1 ≤ n ∧ acc ++ (listGo L gBar (stepP L true (orT true L)) n s1).1 = (queryT true L st).1.steps ∧ (listGo L gBar (stepP L true (orT true L)) n s1).2 = (queryT true L st).2 ∧ acc.length ≤ s1.1 + 1})
  (fun x => match x.1 with | (n, s1, acc) => [(0, .ptr 0 0), (2, .ptr 1 0), (3, .ptr 2 0)]) []
  (fun x => match x.1 with | (n, s1, acc) => [(0, bxP L s1), (2, [.d (cs (nameP L (needP L kwFrom st)).1), .own 3 (acc.map Stp.c)])]) [(1, _)] [3] 4 (fun x => match x.1 with | (n, s1, acc) => n)
  [0, 1, 4, 5] ⟨(L.length, (nameP L (needP L kwFrom st)).2, []), ?_⟩ rfl ?_ trivial ?_ ⟨rfl, rfl, trivial⟩ rfl ?_
 · exact ⟨a2, by omega, rfl, rfl, by simp⟩
 · repeat' first | exact trivial | refine ⟨rfl, ?_⟩ | refine ⟨step_nat (by assumption) (by assumption), ?_⟩
 · repeat' first | exact trivial | refine ⟨rfl, ?_⟩ | refine ⟨step_nat (by assumption) (by assumption), ?_⟩
 rintro ⟨⟨n, s1, acc⟩, hk, hn, hI, hJ, hA⟩
 show W _ _ _ _ _ ⟨[(0, .ptr 0 0), (2, .ptr 1 0), (3, .ptr 2 0)], [(0, bxP L s1), (2, [.d (cs (nameP L (needP L kwFrom st)).1), .own 3 (acc.map Stp.c)]), (1, _)], [3], 4⟩
 obtain ⟨n', rfl⟩ : ∃ n', n = n' + 1 := ⟨n - 1, by omega⟩
 simp only [listGo] at hI hJ
 iterate 2 refine W.seq ?_
 refine W.region ?_
 refine pE rfl ?_
 refine callB [0] [] rfl rfl rfl rfl rfl ((skip_fn L gBar s1 hk hL)) rfl rfl (by rfl) (by rfl) rfl rfl rfl rfl ?_
 refine WO.nil (qs ?_)
 refine condK rfl (fun h10 => ?_) (fun h10 => ?_)
 ·
  have l2 := skB_more hw h10 hk
  have l3 := (stepP_goes hw (orP_goes hw true L.length) true).lt (adv s1) l2
  have m3 : s1.1 + 1 ≤ (stepP L true (orT true L) (adv s1)).2.1 := (stepP_goes hw (orP_goes hw true L.length) true).mono (adv s1)
  rw [if_pos h10] at hI hJ
  rw [skS_yes h10]
  refine W.skip (qs (W.block ?_))
  apply W.regionC tab 5 3; (case hB => kernel_rfl); (case h1 => rfl); (case h2 => rfl)
  refine' ccPu ?p1_1 (ev tab rfl) rfl rfl rfl rfl rfl ?h_1
  case' h_1 => skip
  first | (refine' ccPu ?p1_2 (ev tab rfl) rfl rfl rfl rfl rfl ?h_2) | (refine' ccPu ?p1_2 (loadRow tab rfl rfl rfl rfl) rfl rfl rfl rfl rfl ?h_2) | (refine' ccPu ?p1_2 (loadBox tab rfl rfl rfl rfl rfl) rfl rfl rfl rfl rfl ?h_2)
  case' h_2 => skip
  refine' ccPu0 (ev tab rfl) rfl rfl rfl rfl rfl ?h_3
  case' h_3 => skip
  refine' ccX (fun g => ?e_4) rfl rfl rfl ?h_4
  case e_4 =>
   refine callB [0] [] rfl rfl rfl rfl rfl ((qstep_fn L hw hL (adv s1) l2)) rfl rfl (by rfl) (by rfl) rfl rfl rfl rfl ?_
   refine WO.nil ?_
   exact ⟨rfl, rfl⟩
  case' h_4 => skip
  case p1_1 => exact (ev tab rfl)
  case p1_2 => first | (exact (ev tab rfl)) | (exact (loadRow tab rfl rfl rfl rfl)) | (exact (loadBox tab rfl rfl rfl rfl rfl))
  refine ccPu1 (buildV tab rfl rfl rfl rfl rfl rfl rfl rfl rfl) rfl rfl rfl rfl rfl ?_
  refine CC.nil ?_
  refine appendM (fn := Stp.c) (a := (stepP L true (orT true L) (adv s1)).1) tab rfl rfl rfl rfl rfl rfl rfl rfl rfl rfl (fun _ => rfl) (by show (acc.length + 1) * 208 ≤ _; omega) ?_
  refine pE rfl ?_
  refine storeR tab rfl rfl rfl rfl rfl rfl rfl rfl ?_
  refine WO.nil (qbN ?_)
  refine W.endR [0, 1, 2, 6] ⟨(n', (stepP L true (orT true L) (adv s1)).2, acc ++ [(stepP L true (orT true L) (adv s1)).1]), ?_⟩ ?_ rfl ?_ trivial ?_ ⟨rfl, rfl, trivial⟩ rfl
  · exact ⟨l3, by omega, by rw [← hI]; simp, hJ, by simp; omega⟩
  · dsimp only; omega
  · repeat' first | exact trivial | refine ⟨rfl, ?_⟩ | refine ⟨step_nat (by assumption) (by assumption), ?_⟩
  · repeat' first | exact trivial | refine ⟨rfl, ?_⟩ | refine ⟨step_nat (by assumption) (by assumption), ?_⟩
 ·
  rw [if_neg (by simp [h10])] at hI hJ
  rw [skS_no h10]
  simp only [List.append_nil] at hI hJ
  refine W.exit (qsExit (qlExit (qbExit (qs (W.seq (W.region ?_))))))
  first | refine pE rfl ?_ | refine pR rfl rfl rfl rfl rfl ?_ | refine pB rfl rfl rfl rfl rfl rfl ?_
  refine storeR tab rfl rfl rfl rfl rfl rfl rfl rfl ?_
  refine WO.nil (qs (W.ret ?_))
  refine QB1.end tab [] trivial rfl rfl rfl rfl ?_ ?_
  ·
   rw [← hJ]
   exact ⟨rfl, trivial⟩
  rw [hI]
  rfl
end Go.Proofs.YtifeonoehfffmaaGreatDoor
namespace Go.Proofs.YtifeonoehfffmaaGreatDoor
open Go.Ab Go.Tb
set_option maxRecDepth 10000
attribute [local irreducible] W WO Pu QS QB QL QF QV QV1 CH QE
theorem readQ_fn (s : ByteArray) (hs : s.size ≤ 1000000) : Does Tryz.prog 24 [.d (.v (.string s)), .clo 25 []] (.tup [.ag (readP qry0 (queryT true) s).1.c, .d (.v (.int .i64 (readP qry0 (queryT true) s).2.1)), .d (.v (.int .i64 (readP qry0 (queryT true) s).2.2))]) 0 := by
 have hw := toks_wf s 0
 have hl := toks_len s 0
 have hL : (toks s 0).length ≤ 3000000 := by omega
 have h0 : 0 < (toks s 0).length := List.length_pos_iff.2 hw.ne
 have h1 := (queryP_goes hw (orP_goes hw true (toks s 0).length) true).lt (0, false) h0
 refine Does.of_V tab (n := 36) (rs := [.cell 4 25, .tmp 5, .tmp 6]) Tryz.func24 (by kernel_rfl) rfl Tryz.ntmps24 Tryz.results24 rfl fun C hC hG => ?_
 refine W.seq (W.region ?_)
 refine allocR tab rfl rfl rfl ?_
 iterate 2 refine pE rfl ?_
 refine WO.nil (qs (W.seq (W.region ?_)))
 refine allocR tab rfl rfl rfl ?_
 refine WO.nil (qs ?_)
 iterate 2 refine W.seq ?_
 refine W.region ?_
 iterate 3 refine pE rfl ?_
 refine WO.nil (qs ?_)
 refine condK rfl (fun h12 => ?_) (fun h12 => ?_)
 ·
  have h12' : 2000 < s.size := by have := of_decide_eq_true h12; omega
  rw [show readP qry0 (queryT true) s = (qry0, 0, 7) by unfold readP; rw [if_pos h12']]
  refine W.seq (W.region ?_)
  first | refine pE rfl ?_ | refine pR rfl rfl rfl rfl rfl ?_ | refine pB rfl rfl rfl rfl rfl rfl ?_
  refine storeR tab rfl rfl rfl rfl rfl rfl rfl rfl ?_
  iterate 2 refine pE rfl ?_
  refine WO.nil (qs ?_)
  try refine nilBox 0 1 rfl rfl rfl ?_
  refine W.ret (qsRet ?_)
  refine QV.ret0 tab trivial rfl ?_
  rfl
 ·
  have h12' : ¬ 2000 < s.size := by have := of_decide_eq_false h12; omega
  refine W.skip (qs (W.seq (W.region ?_)))
  refine pE rfl ?_
  refine pu (puCall rfl rfl rfl (tokens_fn s hs) rfl) rfl ?_
  refine pu (build tab rfl rfl rfl rfl) rfl ?_
  try refine nilS 16 rfl rfl rfl ?_
  refine boxR rfl rfl rfl ?_
  refine pE rfl ?_
  refine WO.nil (qs (W.seq (W.region ?_)))
  iterate 2 refine pE rfl ?_
  refine callB [2] [] rfl rfl rfl rfl rfl (qquery_fn (toks s 0) hw hL (0, false) h0) rfl rfl (by rfl) (by rfl) rfl rfl rfl rfl ?_
  refine allocR tab rfl rfl rfl ?_
  refine storeR tab rfl rfl rfl rfl rfl rfl rfl rfl ?_
  refine WO.nil (qs ?_)
  iterate 2 refine W.seq ?_
  apply regionB; (case hb => rfl)
  ·
   iterate 3 refine pE rfl ?_
   first | refine pE rfl ?_ | refine pR rfl rfl rfl rfl rfl ?_ | refine pB rfl rfl rfl rfl rfl rfl ?_
   refine pE rfl ?_
   apply splitJ; (case hj => rfl); (case hl => rfl)
   ·
    iterate 4 refine skipT rfl rfl rfl rfl ?_
    refine pE rfl ?_
    refine WO.nil ?_
    refine qv1 rfl rfl rfl
   ·
    refine goG rfl rfl ?_
    refine pE rfl ?_
    refine goG rfl rfl ?_
    refine pu (puCall rfl rfl rfl (peek0_fn (toks s 0) (queryT true (toks s 0) (0, false)).2 h1 hL) rfl) rfl ?_
    refine goG rfl rfl ?_
    refine pE rfl ?_
    refine goG rfl rfl ?_
    iterate 2 refine pE rfl ?_
    refine WO.nil ?_
    refine qv1 rfl rfl rfl
  refine qs ?_
  refine condK rfl (fun h30 => ?_) (fun h30 => ?_)
  ·
   have h30' : badB (toks s 0) (queryT true (toks s 0) (0, false)).2 = true := by unfold badB; simp at h30 ⊢; grind
   rw [show readP qry0 (queryT true) s = (qry0, ((tk0 (toks s 0) (queryT true (toks s 0) (0, false)).2).at_ : Int), 15) by unfold readP; rw [if_neg h12', if_pos h30']]
   refine W.seq ?_
   apply W.regionC tab 5 4; (case hB => kernel_rfl); (case h1 => rfl); (case h2 => rfl)
   first | (refine' ccPu0 (ev tab rfl) rfl rfl rfl rfl rfl ?h_1) | (refine' ccPu0 (loadRow tab rfl rfl rfl rfl) rfl rfl rfl rfl rfl ?h_1) | (refine' ccPu0 (loadBox tab rfl rfl rfl rfl rfl) rfl rfl rfl rfl rfl ?h_1)
   case' h_1 => skip
   refine' ccPu ?p1_2 (ev tab rfl) rfl rfl rfl rfl rfl ?h_2
   case' h_2 => skip
   refine' ccPu0 (puCall rfl rfl rfl (peek0_fn (toks s 0) (queryT true (toks s 0) (0, false)).2 h1 hL) rfl) rfl rfl rfl rfl rfl ?h_3
   case' h_3 => skip
   refine' ccPu ?p1_4 (ev tab rfl) rfl rfl rfl rfl rfl ?h_4
   case' h_4 => skip
   refine' ccX0 (fun g => ?e_5) rfl rfl ?h_5
   case e_5 =>
    refine storeR tab rfl rfl rfl rfl rfl rfl rfl rfl ?_
    refine WO.nil ?_
    exact ⟨rfl, rfl⟩
   case' h_5 => skip
   case p1_2 => exact (ev tab rfl)
   case p1_4 => exact (ev tab rfl)
   refine CC.nil ?_
   iterate 2 refine pE rfl ?_
   refine WO.nil (qs ?_)
   try refine nilBox 0 1 rfl rfl rfl ?_
   refine W.ret (qsRet ?_)
   refine QV.ret0 tab trivial rfl ?_
   rfl
  ·
   have h30' : ¬ badB (toks s 0) (queryT true (toks s 0) (0, false)).2 = true := by unfold badB; simp at h30 ⊢; grind
   rw [show readP qry0 (queryT true) s = ((queryT true (toks s 0) (0, false)).1, 0, 0) by unfold readP; rw [if_neg h12', if_neg h30']]
   refine W.skip (qs (W.seq (W.region ?_)))
   first | refine pE rfl ?_ | refine pR rfl rfl rfl rfl rfl ?_ | refine pB rfl rfl rfl rfl rfl rfl ?_
   refine storeR tab rfl rfl rfl rfl rfl rfl rfl rfl ?_
   iterate 2 refine pE rfl ?_
   refine WO.nil (qs ?_)
   try refine nilBox 0 1 rfl rfl rfl ?_
   refine W.ret ?_
   refine QV.ret0 tab trivial rfl ?_
   rfl
theorem readE_fn (s : ByteArray) (hs : s.size ≤ 1000000) : Does Tryz.prog 37 [.d (.v (.string s)), .clo 38 []] (.tup [.ag (readP exZ (orT true) s).1.c, .d (.v (.int .i64 (readP exZ (orT true) s).2.1)), .d (.v (.int .i64 (readP exZ (orT true) s).2.2))]) 0 := by
 have hw := toks_wf s 0
 have hl := toks_len s 0
 have hL : (toks s 0).length ≤ 3000000 := by omega
 have h0 : 0 < (toks s 0).length := List.length_pos_iff.2 hw.ne
 have h1 := (orP_goes hw true (toks s 0).length).lt (0, false) h0
 refine Does.of_V tab (n := 36) (rs := [.cell 4 37, .tmp 5, .tmp 6]) Tryz.func37 (by kernel_rfl) rfl Tryz.ntmps37 Tryz.results37 rfl fun C hC hG => ?_
 refine W.seq (W.region ?_)
 refine allocR tab rfl rfl rfl ?_
 iterate 2 refine pE rfl ?_
 refine WO.nil (qs (W.seq (W.region ?_)))
 refine allocR tab rfl rfl rfl ?_
 refine WO.nil (qs ?_)
 iterate 2 refine W.seq ?_
 refine W.region ?_
 iterate 3 refine pE rfl ?_
 refine WO.nil (qs ?_)
 refine condK rfl (fun h12 => ?_) (fun h12 => ?_)
 ·
  have h12' : 2000 < s.size := by have := of_decide_eq_true h12; omega
  rw [show readP exZ (orT true) s = (exZ, 0, 7) by unfold readP; rw [if_pos h12']]
  refine W.seq (W.region ?_)
  first | refine pE rfl ?_ | refine pR rfl rfl rfl rfl rfl ?_ | refine pB rfl rfl rfl rfl rfl rfl ?_
  refine storeR tab rfl rfl rfl rfl rfl rfl rfl rfl ?_
  iterate 2 refine pE rfl ?_
  refine WO.nil (qs ?_)
  try refine nilBox 0 5 rfl rfl rfl ?_
  refine W.ret (qsRet ?_)
  refine QV.ret0 tab trivial rfl ?_
  rfl
 ·
  have h12' : ¬ 2000 < s.size := by have := of_decide_eq_false h12; omega
  refine W.skip (qs (W.seq (W.region ?_)))
  refine pE rfl ?_
  refine pu (puCall rfl rfl rfl (tokens_fn s hs) rfl) rfl ?_
  refine pu (build tab rfl rfl rfl rfl) rfl ?_
  try refine nilS 16 rfl rfl rfl ?_
  refine boxR rfl rfl rfl ?_
  refine pE rfl ?_
  refine WO.nil (qs (W.seq (W.region ?_)))
  iterate 2 refine pE rfl ?_
  refine callB [2] [] rfl rfl rfl rfl rfl (or_fn' (toks s 0) hw hL (0, false) h0) rfl rfl (by rfl) (by rfl) rfl rfl rfl rfl ?_
  refine allocR tab rfl rfl rfl ?_
  refine storeR tab rfl rfl rfl rfl rfl rfl rfl rfl ?_
  refine WO.nil (qs ?_)
  iterate 2 refine W.seq ?_
  apply regionB; (case hb => rfl)
  ·
   iterate 3 refine pE rfl ?_
   first | refine pE rfl ?_ | refine pR rfl rfl rfl rfl rfl ?_ | refine pB rfl rfl rfl rfl rfl rfl ?_
   refine pE rfl ?_
   apply splitJ; (case hj => rfl); (case hl => rfl)
   ·
    iterate 4 refine skipT rfl rfl rfl rfl ?_
    refine pE rfl ?_
    refine WO.nil ?_
    refine qv1 rfl rfl rfl
   ·
    refine goG rfl rfl ?_
    refine pE rfl ?_
    refine goG rfl rfl ?_
    refine pu (puCall rfl rfl rfl (peek0_fn (toks s 0) (orT true (toks s 0) (0, false)).2 h1 hL) rfl) rfl ?_
    refine goG rfl rfl ?_
    refine pE rfl ?_
    refine goG rfl rfl ?_
    iterate 2 refine pE rfl ?_
    refine WO.nil ?_
    refine qv1 rfl rfl rfl
  refine qs ?_
  refine condK rfl (fun h30 => ?_) (fun h30 => ?_)
  ·
   have h30' : badB (toks s 0) (orT true (toks s 0) (0, false)).2 = true := by unfold badB; simp at h30 ⊢; grind
   rw [show readP exZ (orT true) s = (exZ, ((tk0 (toks s 0) (orT true (toks s 0) (0, false)).2).at_ : Int), 15) by unfold readP; rw [if_neg h12', if_pos h30']]
   refine W.seq ?_
   apply W.regionC tab 5 4; (case hB => kernel_rfl); (case h1 => rfl); (case h2 => rfl)
   first | (refine' ccPu0 (ev tab rfl) rfl rfl rfl rfl rfl ?h_1) | (refine' ccPu0 (loadRow tab rfl rfl rfl rfl) rfl rfl rfl rfl rfl ?h_1) | (refine' ccPu0 (loadBox tab rfl rfl rfl rfl rfl) rfl rfl rfl rfl rfl ?h_1)
   case' h_1 => skip
   refine' ccPu ?p1_2 (ev tab rfl) rfl rfl rfl rfl rfl ?h_2
   case' h_2 => skip
   refine' ccPu0 (puCall rfl rfl rfl (peek0_fn (toks s 0) (orT true (toks s 0) (0, false)).2 h1 hL) rfl) rfl rfl rfl rfl rfl ?h_3
   case' h_3 => skip
   refine' ccPu ?p1_4 (ev tab rfl) rfl rfl rfl rfl rfl ?h_4
   case' h_4 => skip
   refine' ccX0 (fun g => ?e_5) rfl rfl ?h_5
   case e_5 =>
    refine storeR tab rfl rfl rfl rfl rfl rfl rfl rfl ?_
    refine WO.nil ?_
    exact ⟨rfl, rfl⟩
   case' h_5 => skip
   case p1_2 => exact (ev tab rfl)
   case p1_4 => exact (ev tab rfl)
   refine CC.nil ?_
   iterate 2 refine pE rfl ?_
   refine WO.nil (qs ?_)
   try refine nilBox 0 5 rfl rfl rfl ?_
   refine W.ret (qsRet ?_)
   refine QV.ret0 tab trivial rfl ?_
   rfl
  ·
   have h30' : ¬ badB (toks s 0) (orT true (toks s 0) (0, false)).2 = true := by unfold badB; simp at h30 ⊢; grind
   rw [show readP exZ (orT true) s = ((orT true (toks s 0) (0, false)).1, 0, 0) by unfold readP; rw [if_neg h12', if_neg h30']]
   refine W.skip (qs (W.seq (W.region ?_)))
   first | refine pE rfl ?_ | refine pR rfl rfl rfl rfl rfl ?_ | refine pB rfl rfl rfl rfl rfl rfl ?_
   refine storeR tab rfl rfl rfl rfl rfl rfl rfl rfl ?_
   iterate 2 refine pE rfl ?_
   refine WO.nil (qs ?_)
   try refine nilBox 0 5 rfl rfl rfl ?_
   refine W.ret ?_
   refine QV.ret0 tab trivial rfl ?_
   rfl
theorem listGo_len {L : List Tk} {α : Type} (x : ByteArray) (one : Pr α) : ∀ n st, (listGo L x one n st).1.length ≤ n
 | 0, st => by simp [listGo]
 | n + 1, st => by
  simp only [listGo]
  split
  ·
   have := listGo_len (L := L) x one n (one (adv st)).2
   simp only [List.length_cons]; omega
  · simp
theorem listGo_mem {L : List Tk} {α : Type} (x : ByteArray) (one : Pr α) : ∀ n st, ∀ y ∈ (listGo L x one n st).1, ∃ st', y = (one st').1
 | 0, st => by simp [listGo]
 | n + 1, st => by
  intro y hy
  simp only [listGo] at hy
  split at hy
  ·
   rcases List.mem_cons.1 hy with e | e
   · exact ⟨_, e⟩
   · exact listGo_mem (L := L) x one n _ y e
  · cases hy
theorem groupP_sorts {L : List Tk} (st : PS) : (groupP L st).1.sorts = [] := by
 unfold groupP
 by_cases h : (!st.2 && !isT (tk0 L st) gCol) = true
 ·
  rw [if_pos h]
  by_cases h2 : skB L gCol (listP L (nameP L) st).2 = true
  · rw [if_pos h2]
  · rw [if_neg h2]
 · rw [if_neg h]
theorem withP_sorts {L : List Tk} (g : Bool) (op : Int) (m : Bool) (st : PS) : (withP L g op m st).1.sorts = [] := by
 unfold withP
 by_cases h : m = true
 ·
  rw [if_pos h]
  by_cases h2 : (needP L kwOn (nameP L st).2).2 = true
  · rw [if_pos h2]
  · rw [if_neg h2]
 ·
  rw [if_neg h]
  by_cases h2 : skB L kwOn (nameP L st).2 = true
  · rw [if_pos h2]
  · rw [if_neg h2]
theorem coalP_sorts {L : List Tk} (st : PS) : (coalP L st).1.sorts = [] := by
 unfold coalP
 by_cases h : nameB L st = true
 · rw [if_pos h]
 · rw [if_neg h]
theorem stepP_sorts {L : List Tk} (g : Bool) (o : Pr Ex) (st : PS) : (stepP L g o st).1.sorts.length ≤ L.length + 1 := by
 unfold stepP
 by_cases h1 : skB L kwWhere st = true
 · rw [if_pos h1]; simp
 rw [if_neg h1]
 by_cases h2 : skB L kwSelect st = true
 · rw [if_pos h2]; simp
 rw [if_neg h2]
 by_cases h3 : skB L kwGroup st = true
 · rw [if_pos h3, groupP_sorts]; simp
 rw [if_neg h3]
 by_cases h4 : skB L kwSort st = true
 ·
  rw [if_pos h4]
  have := listGo_len (L := L) gCom (sortP L) L.length (sortP L (adv st)).2
  simp only [listP, List.length_cons]
  omega
 rw [if_neg h4]
 by_cases h5 : skB L kwLimit st = true
 · rw [if_pos h5]; simp
 rw [if_neg h5]
 by_cases h6 : skB L kwJoin st = true
 · rw [if_pos h6, withP_sorts]; simp
 rw [if_neg h6]
 by_cases h7 : skB L kwOverlap st = true
 · rw [if_pos h7, withP_sorts]; simp
 rw [if_neg h7]
 by_cases h8 : skB L kwNearest st = true
 · rw [if_pos h8, withP_sorts]; simp
 rw [if_neg h8]
 by_cases h9 : skB L kwCoal st = true
 · rw [if_pos h9, coalP_sorts]; simp
 rw [if_neg h9]; simp
theorem readQ_sorts {s : ByteArray} (hs : s.size ≤ 1000000) : ∀ x ∈ (readP qry0 (queryT true) s).1.steps, x.sorts.length ≤ 100000 := by
 unfold readP
 split
 · simp
 ·
  split
  · simp
  ·
   rename_i h1 _
   intro x hx
   obtain ⟨st, rfl⟩ := listGo_mem _ _ _ _ x hx
   have := stepP_sorts (L := toks s 0) true (orT true (toks s 0)) st
   have hl := toks_len s 0
   omega
theorem pquery_fn (s : ByteArray) (hs : s.size ≤ 1000000) : Does Tryz.prog 10 [.d (.v (.string s))] (.tup [.ag (queryF true s).1.c, .d (.v (.int .i64 (queryF true s).2.1)), .d (.v (.int .i64 (queryF true s).2.2))]) 0 := by
 have hq := readQ_sorts hs
 have hr := readQ_fn s hs
 unfold queryF
 revert hq hr
 generalize readP qry0 (queryT true) s = r
 intro hq hr
 refine Does.of_V tab (n := 24) (rs := [.cell 2 25, .tmp 3, .tmp 4]) Tryz.func10 (by kernel_rfl) rfl Tryz.ntmps10 Tryz.results10 rfl fun C hC hG => ?_
 refine W.seq (W.region ?_)
 refine allocR tab rfl rfl rfl ?_
 iterate 2 refine pE rfl ?_
 refine WO.nil (qs (W.seq (W.region ?_)))
 refine pE rfl ?_
 refine pu (puCall rfl rfl rfl hr rfl) rfl ?_
 iterate 4 refine pE rfl ?_
 refine allocR tab rfl rfl rfl ?_
 refine storeR tab rfl rfl rfl rfl rfl rfl rfl rfl ?_
 iterate 2 refine pE rfl ?_
 refine WO.nil (qs ?_)
 iterate 2 refine W.seq ?_
 refine W.region ?_
 iterate 2 refine pE rfl ?_
 refine WO.nil (qs ?_)
 refine condK rfl (fun h15 => ?_) (fun h15 => ?_)
 ·
  have h15' : r.2.2 = 0 := by simpa using h15
  refine W.region ?_
  first | refine pE rfl ?_ | refine pR rfl rfl rfl rfl rfl ?_ | refine pB rfl rfl rfl rfl rfl rfl ?_
  refine pu (puCall rfl rfl rfl (query_fn r.1 hq) rfl) rfl ?_
  refine pE rfl ?_
  refine WO.nil (qs ?_)
  iterate 2 refine W.seq ?_
  refine W.region ?_
  iterate 2 refine pE rfl ?_
  refine WO.nil (qs ?_)
  refine condK rfl (fun h19 => ?_) (fun h19 => ?_)
  ·
   rw [show checkP qry0 queryErr r = (qry0, r.2.1, if r.2.2 = 0 then queryErr r.1 else r.2.2) by unfold checkP; rw [if_pos (by simp at h19 ⊢; grind)]]
   refine W.seq (W.region ?_)
   refine pu (build tab rfl rfl rfl rfl) rfl ?_
   try refine nilS 20 rfl rfl rfl ?_
   iterate 2 refine pE rfl ?_
   refine storeR tab rfl rfl rfl rfl rfl rfl rfl rfl ?_
   iterate 2 refine pE rfl ?_
   refine WO.nil (qs ?_)
   try refine nilBox 0 1 rfl rfl rfl ?_
   refine W.ret (qsRet ?_)
   refine QV.ret0 tab trivial rfl ?_
   first | rfl | (rw [if_pos h15']; rfl) | (rw [if_neg h15']; rfl)
  ·
   rw [show checkP qry0 queryErr r = (r.1, 0, 0) by unfold checkP; rw [if_neg (by simp at h19 ⊢; grind)]]
   refine W.skip (qs (W.seq (W.region ?_)))
   first | refine pE rfl ?_ | refine pR rfl rfl rfl rfl rfl ?_ | refine pB rfl rfl rfl rfl rfl rfl ?_
   refine storeR tab rfl rfl rfl rfl rfl rfl rfl rfl ?_
   iterate 2 refine pE rfl ?_
   refine WO.nil (qs ?_)
   try refine nilBox 0 1 rfl rfl rfl ?_
   refine W.ret ?_
   refine QV.ret0 tab trivial rfl ?_
   first | rfl | (rw [if_pos h15']; rfl) | (rw [if_neg h15']; rfl)
 ·
  have h15' : ¬ r.2.2 = 0 := by simpa using h15
  refine W.skip (qs ?_)
  iterate 2 refine W.seq ?_
  refine W.region ?_
  iterate 2 refine pE rfl ?_
  refine WO.nil (qs ?_)
  refine condK rfl (fun h19 => ?_) (fun h19 => ?_)
  ·
   rw [show checkP qry0 queryErr r = (qry0, r.2.1, if r.2.2 = 0 then queryErr r.1 else r.2.2) by unfold checkP; rw [if_pos (by simp at h19 ⊢; grind)]]
   refine W.seq (W.region ?_)
   refine pu (build tab rfl rfl rfl rfl) rfl ?_
   try refine nilS 20 rfl rfl rfl ?_
   iterate 2 refine pE rfl ?_
   refine storeR tab rfl rfl rfl rfl rfl rfl rfl rfl ?_
   iterate 2 refine pE rfl ?_
   refine WO.nil (qs ?_)
   try refine nilBox 0 1 rfl rfl rfl ?_
   refine W.ret (qsRet ?_)
   refine QV.ret0 tab trivial rfl ?_
   first | rfl | (rw [if_pos h15']; rfl) | (rw [if_neg h15']; rfl)
  ·
   rw [show checkP qry0 queryErr r = (r.1, 0, 0) by unfold checkP; rw [if_neg (by simp at h19 ⊢; grind)]]
   refine W.skip (qs (W.seq (W.region ?_)))
   first | refine pE rfl ?_ | refine pR rfl rfl rfl rfl rfl ?_ | refine pB rfl rfl rfl rfl rfl rfl ?_
   refine storeR tab rfl rfl rfl rfl rfl rfl rfl rfl ?_
   iterate 2 refine pE rfl ?_
   refine WO.nil (qs ?_)
   try refine nilBox 0 1 rfl rfl rfl ?_
   refine W.ret ?_
   refine QV.ret0 tab trivial rfl ?_
   first | rfl | (rw [if_pos h15']; rfl) | (rw [if_neg h15']; rfl)
theorem pexpr_fn (s : ByteArray) (hs : s.size ≤ 1000000) : Does Tryz.prog 13 [.d (.v (.string s))] (.tup [.ag (exprF true s).1.c, .d (.v (.int .i64 (exprF true s).2.1)), .d (.v (.int .i64 (exprF true s).2.2))]) 0 := by
 have hr := readE_fn s hs
 unfold exprF
 revert hr
 generalize readP exZ (orT true) s = r
 intro hr
 refine Does.of_V tab (n := 24) (rs := [.cell 2 37, .tmp 3, .tmp 4]) Tryz.func13 (by kernel_rfl) rfl Tryz.ntmps13 Tryz.results13 rfl fun C hC hG => ?_
 refine W.seq (W.region ?_)
 refine allocR tab rfl rfl rfl ?_
 iterate 2 refine pE rfl ?_
 refine WO.nil (qs (W.seq (W.region ?_)))
 refine pE rfl ?_
 refine pu (puCall rfl rfl rfl hr rfl) rfl ?_
 iterate 4 refine pE rfl ?_
 refine allocR tab rfl rfl rfl ?_
 refine storeR tab rfl rfl rfl rfl rfl rfl rfl rfl ?_
 iterate 2 refine pE rfl ?_
 refine WO.nil (qs ?_)
 iterate 2 refine W.seq ?_
 refine W.region ?_
 iterate 2 refine pE rfl ?_
 refine WO.nil (qs ?_)
 refine condK rfl (fun h15 => ?_) (fun h15 => ?_)
 ·
  have h15' : r.2.2 = 0 := by simpa using h15
  refine W.region ?_
  first | refine pE rfl ?_ | refine pR rfl rfl rfl rfl rfl ?_ | refine pB rfl rfl rfl rfl rfl rfl ?_
  refine pu (puCall rfl rfl rfl (expr_fn r.1) rfl) rfl ?_
  refine pE rfl ?_
  refine WO.nil (qs ?_)
  iterate 2 refine W.seq ?_
  refine W.region ?_
  iterate 2 refine pE rfl ?_
  refine WO.nil (qs ?_)
  refine condK rfl (fun h19 => ?_) (fun h19 => ?_)
  ·
   rw [show checkP exZ exprErr r = (exZ, r.2.1, if r.2.2 = 0 then exprErr r.1 else r.2.2) by unfold checkP; rw [if_pos (by simp at h19 ⊢; grind)]]
   refine W.seq (W.region ?_)
   refine pu (build tab rfl rfl rfl rfl) rfl ?_
   try refine nilS 20 rfl rfl rfl ?_
   iterate 2 refine pE rfl ?_
   refine storeR tab rfl rfl rfl rfl rfl rfl rfl rfl ?_
   iterate 2 refine pE rfl ?_
   refine WO.nil (qs ?_)
   try refine nilBox 0 5 rfl rfl rfl ?_
   refine W.ret (qsRet ?_)
   refine QV.ret0 tab trivial rfl ?_
   first | rfl | (rw [if_pos h15']; rfl) | (rw [if_neg h15']; rfl)
  ·
   rw [show checkP exZ exprErr r = (r.1, 0, 0) by unfold checkP; rw [if_neg (by simp at h19 ⊢; grind)]]
   refine W.skip (qs (W.seq (W.region ?_)))
   first | refine pE rfl ?_ | refine pR rfl rfl rfl rfl rfl ?_ | refine pB rfl rfl rfl rfl rfl rfl ?_
   refine storeR tab rfl rfl rfl rfl rfl rfl rfl rfl ?_
   iterate 2 refine pE rfl ?_
   refine WO.nil (qs ?_)
   try refine nilBox 0 5 rfl rfl rfl ?_
   refine W.ret ?_
   refine QV.ret0 tab trivial rfl ?_
   first | rfl | (rw [if_pos h15']; rfl) | (rw [if_neg h15']; rfl)
 ·
  have h15' : ¬ r.2.2 = 0 := by simpa using h15
  refine W.skip (qs ?_)
  iterate 2 refine W.seq ?_
  refine W.region ?_
  iterate 2 refine pE rfl ?_
  refine WO.nil (qs ?_)
  refine condK rfl (fun h19 => ?_) (fun h19 => ?_)
  ·
   rw [show checkP exZ exprErr r = (exZ, r.2.1, if r.2.2 = 0 then exprErr r.1 else r.2.2) by unfold checkP; rw [if_pos (by simp at h19 ⊢; grind)]]
   refine W.seq (W.region ?_)
   refine pu (build tab rfl rfl rfl rfl) rfl ?_
   try refine nilS 20 rfl rfl rfl ?_
   iterate 2 refine pE rfl ?_
   refine storeR tab rfl rfl rfl rfl rfl rfl rfl rfl ?_
   iterate 2 refine pE rfl ?_
   refine WO.nil (qs ?_)
   try refine nilBox 0 5 rfl rfl rfl ?_
   refine W.ret (qsRet ?_)
   refine QV.ret0 tab trivial rfl ?_
   first | rfl | (rw [if_pos h15']; rfl) | (rw [if_neg h15']; rfl)
  ·
   rw [show checkP exZ exprErr r = (r.1, 0, 0) by unfold checkP; rw [if_neg (by simp at h19 ⊢; grind)]]
   refine W.skip (qs (W.seq (W.region ?_)))
   first | refine pE rfl ?_ | refine pR rfl rfl rfl rfl rfl ?_ | refine pB rfl rfl rfl rfl rfl rfl ?_
   refine storeR tab rfl rfl rfl rfl rfl rfl rfl rfl ?_
   iterate 2 refine pE rfl ?_
   refine WO.nil (qs ?_)
   try refine nilBox 0 5 rfl rfl rfl ?_
   refine W.ret ?_
   refine QV.ret0 tab trivial rfl ?_
   first | rfl | (rw [if_pos h15']; rfl) | (rw [if_neg h15']; rfl)
end Go.Proofs.YtifeonoehfffmaaGreatDoor
namespace Go.Proofs.YtifeonoehfffmaaGreatDoor
open Go.Ab Go.Tb
set_option maxRecDepth 10000
attribute [local irreducible] W WO Pu QS QB QL QF QV QV1 CH QE
theorem sameX_fn : ∀ (a : Ex), Does Tryz.prog 15 [.ag a.c, .ag a.c] (.d (.v (.bool true))) 0 := by
 refine Ex.ind fun a ih => ?_
 refine Does.of_W (n := 53) (ts := [4]) Tryz.func15 (by kernel_rfl) rfl Tryz.ntmps15 Tryz.results15 rfl rfl fun C hC hG => ?_
 refine W.seq (W.region ?_)
 refine boxR rfl rfl rfl ?_
 refine boxR rfl rfl rfl ?_
 refine pE rfl ?_
 refine WO.nil (qs ?_)
 iterate 2 refine W.seq ?_
 apply regionB; (case hb => rfl)
 ·
  refine pE rfl ?_
  first | refine pE rfl ?_ | refine pR rfl rfl rfl rfl rfl ?_ | refine pB rfl rfl rfl rfl rfl rfl ?_
  refine pE rfl ?_
  first | refine pE rfl ?_ | refine pR rfl rfl rfl rfl rfl ?_ | refine pB rfl rfl rfl rfl rfl rfl ?_
  iterate 2 refine pE rfl ?_
  apply splitJ; (case hj => rfl); (case hl => rfl)
  ·
   iterate 5 refine skipT rfl rfl rfl rfl ?_
   iterate 2 refine pE rfl ?_
   iterate 5 refine skipT rfl rfl rfl rfl ?_
   iterate 2 refine pE rfl ?_
   iterate 7 refine skipT rfl rfl rfl rfl ?_
   refine pE rfl ?_
   refine WO.nil ?_
   refine qv1 rfl rfl rfl
  ·
   refine goG rfl rfl ?_
   refine pE rfl ?_
   refine goG rfl rfl ?_
   first | refine pE rfl ?_ | refine pR rfl rfl rfl rfl rfl ?_ | refine pB rfl rfl rfl rfl rfl rfl ?_
   refine goG rfl rfl ?_
   refine pE rfl ?_
   refine goG rfl rfl ?_
   first | refine pE rfl ?_ | refine pR rfl rfl rfl rfl rfl ?_ | refine pB rfl rfl rfl rfl rfl rfl ?_
   refine goG rfl rfl ?_
   iterate 3 refine pE rfl ?_
   apply splitJ; (case hj => rfl); (case hl => rfl)
   ·
    iterate 5 refine skipT rfl rfl rfl rfl ?_
    iterate 2 refine pE rfl ?_
    iterate 7 refine skipT rfl rfl rfl rfl ?_
    refine pE rfl ?_
    refine WO.nil ?_
    refine qv1 rfl rfl rfl
   ·
    refine goG rfl rfl ?_
    refine pE rfl ?_
    refine goG rfl rfl ?_
    first | refine pE rfl ?_ | refine pR rfl rfl rfl rfl rfl ?_ | refine pB rfl rfl rfl rfl rfl rfl ?_
    refine goG rfl rfl ?_
    refine pE rfl ?_
    refine goG rfl rfl ?_
    first | refine pE rfl ?_ | refine pR rfl rfl rfl rfl rfl ?_ | refine pB rfl rfl rfl rfl rfl rfl ?_
    refine goG rfl rfl ?_
    iterate 3 refine pE rfl ?_
    apply splitJ; (case hj => rfl); (case hl => rfl)
    ·
     iterate 7 refine skipT rfl rfl rfl rfl ?_
     refine pE rfl ?_
     refine WO.nil ?_
     refine qv1 rfl rfl rfl
    ·
     refine goG rfl rfl ?_
     refine pE rfl ?_
     refine goG rfl rfl ?_
     first | refine pE rfl ?_ | refine pR rfl rfl rfl rfl rfl ?_ | refine pB rfl rfl rfl rfl rfl rfl ?_
     refine goG rfl rfl ?_
     refine pE rfl ?_
     refine goG rfl rfl ?_
     refine pE rfl ?_
     refine goG rfl rfl ?_
     first | refine pE rfl ?_ | refine pR rfl rfl rfl rfl rfl ?_ | refine pB rfl rfl rfl rfl rfl rfl ?_
     refine goG rfl rfl ?_
     refine pE rfl ?_
     refine goG rfl rfl ?_
     iterate 2 refine pE rfl ?_
     refine WO.nil ?_
     refine qv1 rfl rfl rfl
 refine qs ?_
 refine condK rfl (fun h33 => ?_) (fun h33 => ?_)
 ·
  exfalso
  simp at h33
 ·
  refine W.skip (qs ?_)
  iterate 2 refine W.seq ?_
  refine W.region ?_
  refine pE rfl ?_
  refine WO.nil (qs (W.block ?_))
  refine lenBox (g := 0) (j := 5) rfl rfl (fun hlen => ?_)
  rw [Ex.kc_len] at hlen
  refine W.loopR (ι := {x : Nat // match x with | k => k ≤ a.kids.length ∧ True})
   (fun x => match x.1 with | k => [(2, .ptr 0 0), (3, .ptr 1 0), (5, .d (.v (.int .i64 ((k : Nat) : Int))))]) []
   (fun x => match x.1 with | k => []) [(0, _), (1, _)] [] 2 (fun x => match x.1 with | k => a.kids.length - k)
   [0, 1] ⟨0, ?_⟩ rfl ?_ trivial ?_ ⟨rfl, rfl, rfl, rfl, trivial⟩ rfl ?_
  · exact ⟨Nat.zero_le _, trivial⟩
  · repeat' first | exact trivial | refine ⟨rfl, ?_⟩ | refine ⟨step_nat (by assumption) (by assumption), ?_⟩
  · repeat' first | exact trivial | refine ⟨rfl, ?_⟩ | refine ⟨step_nat (by assumption) (by assumption), ?_⟩
  rintro ⟨k, hk, hI⟩
  show W _ _ _ _ _ ⟨[(2, .ptr 0 0), (3, .ptr 1 0), (5, .d (.v (.int .i64 ((k : Nat) : Int))))], [(0, _), (1, _)], [], 2⟩
  iterate 2 refine W.seq ?_
  refine W.region ?_
  iterate 2 refine pE rfl ?_
  first | refine pE rfl ?_ | refine pR rfl rfl rfl rfl rfl ?_ | refine pB rfl rfl rfl rfl rfl rfl ?_
  iterate 2 refine pE rfl ?_
  refine WO.nil (qs ?_)
  refine eachR (l := a.kids) (k := k) rfl (by simp [Ex.kc_len, bytes_len]) hk (fun x hx hd hlt => ?_) (fun he hd => ?_)
  ·
   refine W.skip (qs (W.seq (W.block (W.seq ?_))))
   refine W.regionD tab (by kernel_rfl) ?_
   refine chPu (ev tab rfl) rfl ?_
   first | refine chPu (ev tab rfl) rfl ?_ | refine chPu (loadRow tab rfl rfl rfl rfl) rfl ?_ | refine chPu (loadBox tab rfl rfl rfl rfl rfl) rfl ?_
   refine chPu (ev tab rfl) rfl ?_
   refine chPu (indexAddr tab rfl rfl rfl rfl rfl rfl (Int.natCast_nonneg _) (Ex.kc_idx hx) rfl) rfl ?_
   first | refine chPu (ev tab rfl) rfl ?_ | refine chPu (loadRow tab rfl rfl rfl rfl) rfl ?_ | refine chPu (loadBox tab rfl rfl rfl rfl rfl) rfl ?_
   refine chPu (ev tab rfl) rfl ?_
   first | refine chPu (ev tab rfl) rfl ?_ | refine chPu (loadRow tab rfl rfl rfl rfl) rfl ?_ | refine chPu (loadBox tab rfl rfl rfl rfl rfl) rfl ?_
   refine chPu (ev tab rfl) rfl ?_
   refine chPu (indexAddr tab rfl rfl rfl rfl rfl rfl (Int.natCast_nonneg _) (Ex.kc_idx hx) rfl) rfl ?_
   first | refine chPu (ev tab rfl) rfl ?_ | refine chPu (loadRow tab rfl rfl rfl rfl) rfl ?_ | refine chPu (loadBox tab rfl rfl rfl rfl rfl) rfl ?_
   refine chPu (puCall rfl rfl rfl (ih x (List.mem_of_getElem? hx)) rfl) rfl ?_
   refine chPu (ev tab rfl) rfl ?_
   refine CH.nil ?_
   refine qs ?_
   refine condK rfl (fun h52 => ?_) (fun h52 => ?_)
   ·
    exfalso
    simp at h52
   ·
    refine W.skip (qbN (qs (W.region ?_)))
    iterate 3 refine pE rfl ?_
    refine WO.nil ?_
    refine W.endR [0, 1] ⟨k + 1, ?_⟩ ?_ rfl ?_ trivial ?_ ⟨rfl, rfl, rfl, rfl, trivial⟩ rfl
    · exact ⟨hlt, trivial⟩
    · dsimp only; omega
    · repeat' first | exact trivial | refine ⟨rfl, ?_⟩ | refine ⟨step_nat (by assumption) (by assumption), ?_⟩
    · repeat' first | exact trivial | refine ⟨rfl, ?_⟩ | refine ⟨step_nat (by assumption) (by assumption), ?_⟩
  ·
   refine W.exit (qsExit (qlExit (qbExit (qs (W.seq (W.region ?_))))))
   refine pE rfl ?_
   refine WO.nil (qs (W.ret ?_))
   refine QF.ret0 trivial rfl ?_
   rfl
theorem sameS_fn (s : Stp) : Does Tryz.prog 36 [.ag s.c, .ag s.c] (.d (.v (.bool true))) 0 := by
 refine Does.of_W (n := 140) (ts := [4]) Tryz.func36 (by kernel_rfl) rfl Tryz.ntmps36 Tryz.results36 rfl rfl fun C hC hG => ?_
 refine W.seq (W.region ?_)
 refine boxR rfl rfl rfl ?_
 refine boxR rfl rfl rfl ?_
 refine pE rfl ?_
 refine WO.nil (qs ?_)
 iterate 2 refine W.seq ?_
 apply regionB; (case hb => rfl)
 ·
  refine pE rfl ?_
  first | refine pE rfl ?_ | refine pR rfl rfl rfl rfl rfl ?_ | refine pB rfl rfl rfl rfl rfl rfl ?_
  refine pE rfl ?_
  first | refine pE rfl ?_ | refine pR rfl rfl rfl rfl rfl ?_ | refine pB rfl rfl rfl rfl rfl rfl ?_
  iterate 2 refine pE rfl ?_
  apply splitJ; (case hj => rfl); (case hl => rfl)
  ·
   iterate 6 refine skipT rfl rfl rfl rfl ?_
   iterate 2 refine pE rfl ?_
   iterate 6 refine skipT rfl rfl rfl rfl ?_
   iterate 2 refine pE rfl ?_
   iterate 5 refine skipT rfl rfl rfl rfl ?_
   iterate 2 refine pE rfl ?_
   iterate 5 refine skipT rfl rfl rfl rfl ?_
   refine pE rfl ?_
   refine WO.nil ?_
   refine qv1 rfl rfl rfl
  ·
   refine goG rfl rfl ?_
   refine pE rfl ?_
   refine goG rfl rfl ?_
   first | refine pE rfl ?_ | refine pR rfl rfl rfl rfl rfl ?_ | refine pB rfl rfl rfl rfl rfl rfl ?_
   refine goG rfl rfl ?_
   refine pE rfl ?_
   refine goG rfl rfl ?_
   first | refine pE rfl ?_ | refine pR rfl rfl rfl rfl rfl ?_ | refine pB rfl rfl rfl rfl rfl rfl ?_
   refine goG rfl rfl ?_
   refine pu (puCall rfl rfl rfl (sameX_fn s.cond) rfl) rfl ?_
   refine goG rfl rfl ?_
   iterate 3 refine pE rfl ?_
   apply splitJ; (case hj => rfl); (case hl => rfl)
   ·
    iterate 6 refine skipT rfl rfl rfl rfl ?_
    iterate 2 refine pE rfl ?_
    iterate 5 refine skipT rfl rfl rfl rfl ?_
    iterate 2 refine pE rfl ?_
    iterate 5 refine skipT rfl rfl rfl rfl ?_
    refine pE rfl ?_
    refine WO.nil ?_
    refine qv1 rfl rfl rfl
   ·
    refine goG rfl rfl ?_
    refine pE rfl ?_
    refine goG rfl rfl ?_
    first | refine pE rfl ?_ | refine pR rfl rfl rfl rfl rfl ?_ | refine pB rfl rfl rfl rfl rfl rfl ?_
    refine goG rfl rfl ?_
    refine pE rfl ?_
    refine goG rfl rfl ?_
    first | refine pE rfl ?_ | refine pR rfl rfl rfl rfl rfl ?_ | refine pB rfl rfl rfl rfl rfl rfl ?_
    refine goG rfl rfl ?_
    refine pu (puCall rfl rfl rfl (texts_fn s.cols s.cols) rfl) rfl ?_
    refine goG rfl rfl ?_
    iterate 3 refine pE rfl ?_
    apply splitJ; (case hj => rfl); (case hl => rfl)
    ·
     iterate 5 refine skipT rfl rfl rfl rfl ?_
     iterate 2 refine pE rfl ?_
     iterate 5 refine skipT rfl rfl rfl rfl ?_
     refine pE rfl ?_
     refine WO.nil ?_
     refine qv1 rfl rfl rfl
    ·
     refine goG rfl rfl ?_
     refine pE rfl ?_
     refine goG rfl rfl ?_
     first | refine pE rfl ?_ | refine pR rfl rfl rfl rfl rfl ?_ | refine pB rfl rfl rfl rfl rfl rfl ?_
     refine goG rfl rfl ?_
     refine pE rfl ?_
     refine goG rfl rfl ?_
     first | refine pE rfl ?_ | refine pR rfl rfl rfl rfl rfl ?_ | refine pB rfl rfl rfl rfl rfl rfl ?_
     refine goG rfl rfl ?_
     iterate 3 refine pE rfl ?_
     apply splitJ; (case hj => rfl); (case hl => rfl)
     ·
      iterate 5 refine skipT rfl rfl rfl rfl ?_
      refine pE rfl ?_
      refine WO.nil ?_
      refine qv1 rfl rfl rfl
     ·
      refine goG rfl rfl ?_
      refine pE rfl ?_
      refine goG rfl rfl ?_
      first | refine pE rfl ?_ | refine pR rfl rfl rfl rfl rfl ?_ | refine pB rfl rfl rfl rfl rfl rfl ?_
      refine goG rfl rfl ?_
      refine pE rfl ?_
      refine goG rfl rfl ?_
      first | refine pE rfl ?_ | refine pR rfl rfl rfl rfl rfl ?_ | refine pB rfl rfl rfl rfl rfl rfl ?_
      refine goG rfl rfl ?_
      iterate 2 refine pE rfl ?_
      refine WO.nil ?_
      refine qv1 rfl rfl rfl
 refine qs ?_
 refine condK rfl (fun h42 => ?_) (fun h42 => ?_)
 ·
  exfalso
  simp at h42
 ·
  refine W.skip (qs ?_)
  iterate 2 refine W.seq ?_
  apply regionB; (case hb => rfl)
  ·
   refine pE rfl ?_
   first | refine pE rfl ?_ | refine pR rfl rfl rfl rfl rfl ?_ | refine pB rfl rfl rfl rfl rfl rfl ?_
   iterate 2 refine pE rfl ?_
   first | refine pE rfl ?_ | refine pR rfl rfl rfl rfl rfl ?_ | refine pB rfl rfl rfl rfl rfl rfl ?_
   iterate 3 refine pE rfl ?_
   apply splitJ; (case hj => rfl); (case hl => rfl)
   ·
    iterate 7 refine skipT rfl rfl rfl rfl ?_
    iterate 2 refine pE rfl ?_
    iterate 7 refine skipT rfl rfl rfl rfl ?_
    refine pE rfl ?_
    refine WO.nil ?_
    refine qv1 rfl rfl rfl
   ·
    refine goG rfl rfl ?_
    refine pE rfl ?_
    refine goG rfl rfl ?_
    first | refine pE rfl ?_ | refine pR rfl rfl rfl rfl rfl ?_ | refine pB rfl rfl rfl rfl rfl rfl ?_
    refine goG rfl rfl ?_
    refine pE rfl ?_
    refine goG rfl rfl ?_
    refine pE rfl ?_
    refine goG rfl rfl ?_
    first | refine pE rfl ?_ | refine pR rfl rfl rfl rfl rfl ?_ | refine pB rfl rfl rfl rfl rfl rfl ?_
    refine goG rfl rfl ?_
    refine pE rfl ?_
    refine goG rfl rfl ?_
    iterate 3 refine pE rfl ?_
    apply splitJ; (case hj => rfl); (case hl => rfl)
    ·
     iterate 7 refine skipT rfl rfl rfl rfl ?_
     refine pE rfl ?_
     refine WO.nil ?_
     refine qv1 rfl rfl rfl
    ·
     refine goG rfl rfl ?_
     refine pE rfl ?_
     refine goG rfl rfl ?_
     first | refine pE rfl ?_ | refine pR rfl rfl rfl rfl rfl ?_ | refine pB rfl rfl rfl rfl rfl rfl ?_
     refine goG rfl rfl ?_
     refine pE rfl ?_
     refine goG rfl rfl ?_
     refine pE rfl ?_
     refine goG rfl rfl ?_
     first | refine pE rfl ?_ | refine pR rfl rfl rfl rfl rfl ?_ | refine pB rfl rfl rfl rfl rfl rfl ?_
     refine goG rfl rfl ?_
     refine pE rfl ?_
     refine goG rfl rfl ?_
     iterate 2 refine pE rfl ?_
     refine WO.nil ?_
     refine qv1 rfl rfl rfl
  refine qs ?_
  refine condK rfl (fun h67 => ?_) (fun h67 => ?_)
  ·
   exfalso
   simp at h67
  ·
   refine W.skip (qs ?_)
   iterate 2 refine W.seq ?_
   refine W.region ?_
   refine pE rfl ?_
   refine WO.nil (qs (W.block ?_))
   refine lenBox (g := 0) (j := 7) rfl rfl (fun hlen => ?_)
   rw [List.length_map] at hlen
   refine W.loopR (ι := {x : Nat // match x with | k => k ≤ s.items.length ∧ True})
    (fun x => match x.1 with | k => [(2, .ptr 0 0), (3, .ptr 1 0), (5, .d (.v (.int .i64 ((k : Nat) : Int))))]) []
    (fun x => match x.1 with | k => []) [(0, _), (1, _)] [] 2 (fun x => match x.1 with | k => s.items.length - k)
    [0, 1] ⟨0, ?_⟩ rfl ?_ trivial ?_ ⟨rfl, rfl, rfl, rfl, trivial⟩ rfl ?_
   · exact ⟨Nat.zero_le _, trivial⟩
   · repeat' first | exact trivial | refine ⟨rfl, ?_⟩ | refine ⟨step_nat (by assumption) (by assumption), ?_⟩
   · repeat' first | exact trivial | refine ⟨rfl, ?_⟩ | refine ⟨step_nat (by assumption) (by assumption), ?_⟩
   rintro ⟨k, hk, hI⟩
   show W _ _ _ _ _ ⟨[(2, .ptr 0 0), (3, .ptr 1 0), (5, .d (.v (.int .i64 ((k : Nat) : Int))))], [(0, _), (1, _)], [], 2⟩
   iterate 2 refine W.seq ?_
   refine W.region ?_
   iterate 2 refine pE rfl ?_
   first | refine pE rfl ?_ | refine pR rfl rfl rfl rfl rfl ?_ | refine pB rfl rfl rfl rfl rfl rfl ?_
   iterate 2 refine pE rfl ?_
   refine WO.nil (qs ?_)
   refine eachR (l := s.items) (k := k) rfl (by simp [Ex.kc_len, bytes_len]) hk (fun x hx hd hlt => ?_) (fun he hd => ?_)
   ·
    refine W.skip (qs (W.seq (W.block (W.seq ?_))))
    apply regionDB tab; (case hb => rfl); (case hB => kernel_rfl)
    ·
     refine chPu (ev tab rfl) rfl ?_
     first | refine chPu (ev tab rfl) rfl ?_ | refine chPu (loadRow tab rfl rfl rfl rfl) rfl ?_ | refine chPu (loadBox tab rfl rfl rfl rfl rfl) rfl ?_
     refine chPu (ev tab rfl) rfl ?_
     refine chPu (indexAddr tab rfl rfl rfl rfl rfl rfl (Int.natCast_nonneg _) (idx_map (by assumption)) rfl) rfl ?_
     refine chPu (ev tab rfl) rfl ?_
     first | refine chPu (ev tab rfl) rfl ?_ | refine chPu (loadRow tab rfl rfl rfl rfl) rfl ?_ | refine chPu (loadBox tab rfl rfl rfl rfl rfl) rfl ?_
     refine chPu (ev tab rfl) rfl ?_
     first | refine chPu (ev tab rfl) rfl ?_ | refine chPu (loadRow tab rfl rfl rfl rfl) rfl ?_ | refine chPu (loadBox tab rfl rfl rfl rfl rfl) rfl ?_
     refine chPu (ev tab rfl) rfl ?_
     refine chPu (indexAddr tab rfl rfl rfl rfl rfl rfl (Int.natCast_nonneg _) (idx_map (by assumption)) rfl) rfl ?_
     refine chPu (ev tab rfl) rfl ?_
     first | refine chPu (ev tab rfl) rfl ?_ | refine chPu (loadRow tab rfl rfl rfl rfl) rfl ?_ | refine chPu (loadBox tab rfl rfl rfl rfl rfl) rfl ?_
     iterate 2 refine chPu (ev tab rfl) rfl ?_
     apply chSplitJ; (case hj => rfl); (case hl => rfl)
     ·
      iterate 14 refine chSkip rfl rfl rfl rfl ?_
      refine chPu (ev tab rfl) rfl ?_
      refine CH.nil ?_
      refine qv1 rfl rfl rfl
     ·
      refine chGo rfl rfl (ev tab rfl) rfl ?_
      first | refine chGo rfl rfl (ev tab rfl) rfl ?_ | refine chGo rfl rfl (loadRow tab rfl rfl rfl rfl) rfl ?_ | refine chGo rfl rfl (loadBox tab rfl rfl rfl rfl rfl) rfl ?_
      refine chGo rfl rfl (ev tab rfl) rfl ?_
      refine chGo rfl rfl (indexAddr tab rfl rfl rfl rfl rfl rfl (Int.natCast_nonneg _) (idx_map (by assumption)) rfl) rfl ?_
      refine chGo rfl rfl (ev tab rfl) rfl ?_
      first | refine chGo rfl rfl (ev tab rfl) rfl ?_ | refine chGo rfl rfl (loadRow tab rfl rfl rfl rfl) rfl ?_ | refine chGo rfl rfl (loadBox tab rfl rfl rfl rfl rfl) rfl ?_
      refine chGo rfl rfl (ev tab rfl) rfl ?_
      first | refine chGo rfl rfl (ev tab rfl) rfl ?_ | refine chGo rfl rfl (loadRow tab rfl rfl rfl rfl) rfl ?_ | refine chGo rfl rfl (loadBox tab rfl rfl rfl rfl rfl) rfl ?_
      refine chGo rfl rfl (ev tab rfl) rfl ?_
      refine chGo rfl rfl (indexAddr tab rfl rfl rfl rfl rfl rfl (Int.natCast_nonneg _) (idx_map (by assumption)) rfl) rfl ?_
      refine chGo rfl rfl (ev tab rfl) rfl ?_
      first | refine chGo rfl rfl (ev tab rfl) rfl ?_ | refine chGo rfl rfl (loadRow tab rfl rfl rfl rfl) rfl ?_ | refine chGo rfl rfl (loadBox tab rfl rfl rfl rfl rfl) rfl ?_
      refine chGo rfl rfl (puCall rfl rfl rfl (sameX_fn x.e) rfl) rfl ?_
      refine chGo rfl rfl (ev tab rfl) rfl ?_
      refine chPu (ev tab rfl) rfl ?_
      refine CH.nil ?_
      refine qv1 rfl rfl rfl
    refine qs ?_
    refine condK rfl (fun h103 => ?_) (fun h103 => ?_)
    ·
     exfalso
     simp at h103
    ·
     refine W.skip (qbN (qs (W.region ?_)))
     iterate 3 refine pE rfl ?_
     refine WO.nil ?_
     refine W.endR [0, 1] ⟨k + 1, ?_⟩ ?_ rfl ?_ trivial ?_ ⟨rfl, rfl, rfl, rfl, trivial⟩ rfl
     · exact ⟨hlt, trivial⟩
     · dsimp only; omega
     · repeat' first | exact trivial | refine ⟨rfl, ?_⟩ | refine ⟨step_nat (by assumption) (by assumption), ?_⟩
     · repeat' first | exact trivial | refine ⟨rfl, ?_⟩ | refine ⟨step_nat (by assumption) (by assumption), ?_⟩
   ·
    refine W.exit (qsExit (qlExit (qbExit (qs ?_))))
    iterate 2 refine W.seq ?_
    refine W.region ?_
    refine pE rfl ?_
    refine WO.nil (qs (W.block ?_))
    refine lenBox (g := 0) (j := 9) rfl rfl (fun hlen => ?_)
    rw [List.length_map] at hlen
    refine W.loopR (ι := {x : Nat // match x with | k => k ≤ s.aggs.length ∧ True})
     (fun x => match x.1 with | k => [(2, .ptr 0 0), (3, .ptr 1 0), (6, .d (.v (.int .i64 ((k : Nat) : Int))))]) []
     (fun x => match x.1 with | k => []) [(0, _), (1, _)] [] 2 (fun x => match x.1 with | k => s.aggs.length - k)
     [0, 1] ⟨0, ?_⟩ rfl ?_ trivial ?_ ⟨rfl, rfl, rfl, rfl, trivial⟩ rfl ?_
    · exact ⟨Nat.zero_le _, trivial⟩
    · repeat' first | exact trivial | refine ⟨rfl, ?_⟩ | refine ⟨step_nat (by assumption) (by assumption), ?_⟩
    · repeat' first | exact trivial | refine ⟨rfl, ?_⟩ | refine ⟨step_nat (by assumption) (by assumption), ?_⟩
    rintro ⟨k, hk, hI⟩
    show W _ _ _ _ _ ⟨[(2, .ptr 0 0), (3, .ptr 1 0), (6, .d (.v (.int .i64 ((k : Nat) : Int))))], [(0, _), (1, _)], [], 2⟩
    iterate 2 refine W.seq ?_
    refine W.region ?_
    iterate 2 refine pE rfl ?_
    first | refine pE rfl ?_ | refine pR rfl rfl rfl rfl rfl ?_ | refine pB rfl rfl rfl rfl rfl rfl ?_
    iterate 2 refine pE rfl ?_
    refine WO.nil (qs ?_)
    refine eachR (l := s.aggs) (k := k) rfl (by simp [Ex.kc_len, bytes_len]) hk (fun x hx hd hlt => ?_) (fun he hd => ?_)
    ·
     refine W.skip (qs (W.seq (W.block (W.seq ?_))))
     refine W.regionD tab (by kernel_rfl) ?_
     refine chPu (ev tab rfl) rfl ?_
     first | refine chPu (ev tab rfl) rfl ?_ | refine chPu (loadRow tab rfl rfl rfl rfl) rfl ?_ | refine chPu (loadBox tab rfl rfl rfl rfl rfl) rfl ?_
     refine chPu (ev tab rfl) rfl ?_
     refine chPu (indexAddr tab rfl rfl rfl rfl rfl rfl (Int.natCast_nonneg _) (idx_map (by assumption)) rfl) rfl ?_
     first | refine chPu (ev tab rfl) rfl ?_ | refine chPu (loadRow tab rfl rfl rfl rfl) rfl ?_ | refine chPu (loadBox tab rfl rfl rfl rfl rfl) rfl ?_
     refine chPu (ev tab rfl) rfl ?_
     first | refine chPu (ev tab rfl) rfl ?_ | refine chPu (loadRow tab rfl rfl rfl rfl) rfl ?_ | refine chPu (loadBox tab rfl rfl rfl rfl rfl) rfl ?_
     refine chPu (ev tab rfl) rfl ?_
     refine chPu (indexAddr tab rfl rfl rfl rfl rfl rfl (Int.natCast_nonneg _) (idx_map (by assumption)) rfl) rfl ?_
     first | refine chPu (ev tab rfl) rfl ?_ | refine chPu (loadRow tab rfl rfl rfl rfl) rfl ?_ | refine chPu (loadBox tab rfl rfl rfl rfl rfl) rfl ?_
     refine chPu (ev tab rfl) rfl ?_
     refine CH.nil ?_
     refine qs ?_
     refine condK rfl (fun h121 => ?_) (fun h121 => ?_)
     ·
      exfalso
      simp at h121
     ·
      refine W.skip (qbN (qs (W.region ?_)))
      iterate 3 refine pE rfl ?_
      refine WO.nil ?_
      refine W.endR [0, 1] ⟨k + 1, ?_⟩ ?_ rfl ?_ trivial ?_ ⟨rfl, rfl, rfl, rfl, trivial⟩ rfl
      · exact ⟨hlt, trivial⟩
      · dsimp only; omega
      · repeat' first | exact trivial | refine ⟨rfl, ?_⟩ | refine ⟨step_nat (by assumption) (by assumption), ?_⟩
      · repeat' first | exact trivial | refine ⟨rfl, ?_⟩ | refine ⟨step_nat (by assumption) (by assumption), ?_⟩
    ·
     refine W.exit (qsExit (qlExit (qbExit (qs ?_))))
     iterate 2 refine W.seq ?_
     refine W.region ?_
     refine pE rfl ?_
     refine WO.nil (qs (W.block ?_))
     refine lenBox (g := 0) (j := 10) rfl rfl (fun hlen => ?_)
     rw [List.length_map] at hlen
     refine W.loopR (ι := {x : Nat // match x with | k => k ≤ s.sorts.length ∧ True})
      (fun x => match x.1 with | k => [(2, .ptr 0 0), (3, .ptr 1 0), (7, .d (.v (.int .i64 ((k : Nat) : Int))))]) []
      (fun x => match x.1 with | k => []) [(0, _), (1, _)] [] 2 (fun x => match x.1 with | k => s.sorts.length - k)
      [0, 1] ⟨0, ?_⟩ rfl ?_ trivial ?_ ⟨rfl, rfl, rfl, rfl, trivial⟩ rfl ?_
     · exact ⟨Nat.zero_le _, trivial⟩
     · repeat' first | exact trivial | refine ⟨rfl, ?_⟩ | refine ⟨step_nat (by assumption) (by assumption), ?_⟩
     · repeat' first | exact trivial | refine ⟨rfl, ?_⟩ | refine ⟨step_nat (by assumption) (by assumption), ?_⟩
     rintro ⟨k, hk, hI⟩
     show W _ _ _ _ _ ⟨[(2, .ptr 0 0), (3, .ptr 1 0), (7, .d (.v (.int .i64 ((k : Nat) : Int))))], [(0, _), (1, _)], [], 2⟩
     iterate 2 refine W.seq ?_
     refine W.region ?_
     iterate 2 refine pE rfl ?_
     first | refine pE rfl ?_ | refine pR rfl rfl rfl rfl rfl ?_ | refine pB rfl rfl rfl rfl rfl rfl ?_
     iterate 2 refine pE rfl ?_
     refine WO.nil (qs ?_)
     refine eachR (l := s.sorts) (k := k) rfl (by simp [Ex.kc_len, bytes_len]) hk (fun x hx hd hlt => ?_) (fun he hd => ?_)
     ·
      refine W.skip (qs (W.seq (W.block (W.seq ?_))))
      refine W.regionD tab (by kernel_rfl) ?_
      refine chPu (ev tab rfl) rfl ?_
      first | refine chPu (ev tab rfl) rfl ?_ | refine chPu (loadRow tab rfl rfl rfl rfl) rfl ?_ | refine chPu (loadBox tab rfl rfl rfl rfl rfl) rfl ?_
      refine chPu (ev tab rfl) rfl ?_
      refine chPu (indexAddr tab rfl rfl rfl rfl rfl rfl (Int.natCast_nonneg _) (idx_map (by assumption)) rfl) rfl ?_
      first | refine chPu (ev tab rfl) rfl ?_ | refine chPu (loadRow tab rfl rfl rfl rfl) rfl ?_ | refine chPu (loadBox tab rfl rfl rfl rfl rfl) rfl ?_
      refine chPu (ev tab rfl) rfl ?_
      first | refine chPu (ev tab rfl) rfl ?_ | refine chPu (loadRow tab rfl rfl rfl rfl) rfl ?_ | refine chPu (loadBox tab rfl rfl rfl rfl rfl) rfl ?_
      refine chPu (ev tab rfl) rfl ?_
      refine chPu (indexAddr tab rfl rfl rfl rfl rfl rfl (Int.natCast_nonneg _) (idx_map (by assumption)) rfl) rfl ?_
      first | refine chPu (ev tab rfl) rfl ?_ | refine chPu (loadRow tab rfl rfl rfl rfl) rfl ?_ | refine chPu (loadBox tab rfl rfl rfl rfl rfl) rfl ?_
      refine chPu (ev tab rfl) rfl ?_
      refine CH.nil ?_
      refine qs ?_
      refine condK rfl (fun h139 => ?_) (fun h139 => ?_)
      ·
       exfalso
       simp at h139
      ·
       refine W.skip (qbN (qs (W.region ?_)))
       iterate 3 refine pE rfl ?_
       refine WO.nil ?_
       refine W.endR [0, 1] ⟨k + 1, ?_⟩ ?_ rfl ?_ trivial ?_ ⟨rfl, rfl, rfl, rfl, trivial⟩ rfl
       · exact ⟨hlt, trivial⟩
       · dsimp only; omega
       · repeat' first | exact trivial | refine ⟨rfl, ?_⟩ | refine ⟨step_nat (by assumption) (by assumption), ?_⟩
       · repeat' first | exact trivial | refine ⟨rfl, ?_⟩ | refine ⟨step_nat (by assumption) (by assumption), ?_⟩
     ·
      refine W.exit (qsExit (qlExit (qbExit (qs (W.seq (W.region ?_))))))
      refine pE rfl ?_
      refine WO.nil (qs (W.ret ?_))
      refine QF.ret0 trivial rfl ?_
      rfl
theorem sameQ_fn (q : Qry) : Does Tryz.prog 12 [.ag q.c, .ag q.c] (.d (.v (.bool true))) 0 := by
 refine Does.of_W (n := 39) (ts := [4]) Tryz.func12 (by kernel_rfl) rfl Tryz.ntmps12 Tryz.results12 rfl rfl fun C hC hG => ?_
 refine W.seq (W.region ?_)
 refine boxR rfl rfl rfl ?_
 refine boxR rfl rfl rfl ?_
 refine pE rfl ?_
 refine WO.nil (qs ?_)
 iterate 2 refine W.seq ?_
 apply regionB; (case hb => rfl)
 ·
  refine pE rfl ?_
  first | refine pE rfl ?_ | refine pR rfl rfl rfl rfl rfl ?_ | refine pB rfl rfl rfl rfl rfl rfl ?_
  refine pE rfl ?_
  first | refine pE rfl ?_ | refine pR rfl rfl rfl rfl rfl ?_ | refine pB rfl rfl rfl rfl rfl rfl ?_
  iterate 2 refine pE rfl ?_
  apply splitJ; (case hj => rfl); (case hl => rfl)
  ·
   iterate 7 refine skipT rfl rfl rfl rfl ?_
   refine pE rfl ?_
   refine WO.nil ?_
   refine qv1 rfl rfl rfl
  ·
   refine goG rfl rfl ?_
   refine pE rfl ?_
   refine goG rfl rfl ?_
   first | refine pE rfl ?_ | refine pR rfl rfl rfl rfl rfl ?_ | refine pB rfl rfl rfl rfl rfl rfl ?_
   refine goG rfl rfl ?_
   refine pE rfl ?_
   refine goG rfl rfl ?_
   refine pE rfl ?_
   refine goG rfl rfl ?_
   first | refine pE rfl ?_ | refine pR rfl rfl rfl rfl rfl ?_ | refine pB rfl rfl rfl rfl rfl rfl ?_
   refine goG rfl rfl ?_
   refine pE rfl ?_
   refine goG rfl rfl ?_
   iterate 2 refine pE rfl ?_
   refine WO.nil ?_
   refine qv1 rfl rfl rfl
 refine qs ?_
 refine condK rfl (fun h19 => ?_) (fun h19 => ?_)
 ·
  exfalso
  simp at h19
 ·
  refine W.skip (qs ?_)
  iterate 2 refine W.seq ?_
  refine W.region ?_
  refine pE rfl ?_
  refine WO.nil (qs (W.block ?_))
  refine lenBox (g := 0) (j := 1) rfl rfl (fun hlen => ?_)
  rw [List.length_map] at hlen
  refine W.loopR (ι := {x : Nat // match x with | k => k ≤ q.steps.length ∧ True})
   (fun x => match x.1 with | k => [(2, .ptr 0 0), (3, .ptr 1 0), (5, .d (.v (.int .i64 ((k : Nat) : Int))))]) []
   (fun x => match x.1 with | k => []) [(0, _), (1, _)] [] 2 (fun x => match x.1 with | k => q.steps.length - k)
   [0, 1] ⟨0, ?_⟩ rfl ?_ trivial ?_ ⟨rfl, rfl, rfl, rfl, trivial⟩ rfl ?_
  · exact ⟨Nat.zero_le _, trivial⟩
  · repeat' first | exact trivial | refine ⟨rfl, ?_⟩ | refine ⟨step_nat (by assumption) (by assumption), ?_⟩
  · repeat' first | exact trivial | refine ⟨rfl, ?_⟩ | refine ⟨step_nat (by assumption) (by assumption), ?_⟩
  rintro ⟨k, hk, hI⟩
  show W _ _ _ _ _ ⟨[(2, .ptr 0 0), (3, .ptr 1 0), (5, .d (.v (.int .i64 ((k : Nat) : Int))))], [(0, _), (1, _)], [], 2⟩
  iterate 2 refine W.seq ?_
  refine W.region ?_
  iterate 2 refine pE rfl ?_
  first | refine pE rfl ?_ | refine pR rfl rfl rfl rfl rfl ?_ | refine pB rfl rfl rfl rfl rfl rfl ?_
  iterate 2 refine pE rfl ?_
  refine WO.nil (qs ?_)
  refine eachR (l := q.steps) (k := k) rfl (by simp [Ex.kc_len, bytes_len]) hk (fun x hx hd hlt => ?_) (fun he hd => ?_)
  ·
   refine W.skip (qs (W.seq (W.block (W.seq ?_))))
   refine W.regionD tab (by kernel_rfl) ?_
   refine chPu (ev tab rfl) rfl ?_
   first | refine chPu (ev tab rfl) rfl ?_ | refine chPu (loadRow tab rfl rfl rfl rfl) rfl ?_ | refine chPu (loadBox tab rfl rfl rfl rfl rfl) rfl ?_
   refine chPu (ev tab rfl) rfl ?_
   refine chPu (indexAddr tab rfl rfl rfl rfl rfl rfl (Int.natCast_nonneg _) (idx_map (by assumption)) rfl) rfl ?_
   first | refine chPu (ev tab rfl) rfl ?_ | refine chPu (loadRow tab rfl rfl rfl rfl) rfl ?_ | refine chPu (loadBox tab rfl rfl rfl rfl rfl) rfl ?_
   refine chPu (ev tab rfl) rfl ?_
   first | refine chPu (ev tab rfl) rfl ?_ | refine chPu (loadRow tab rfl rfl rfl rfl) rfl ?_ | refine chPu (loadBox tab rfl rfl rfl rfl rfl) rfl ?_
   refine chPu (ev tab rfl) rfl ?_
   refine chPu (indexAddr tab rfl rfl rfl rfl rfl rfl (Int.natCast_nonneg _) (idx_map (by assumption)) rfl) rfl ?_
   first | refine chPu (ev tab rfl) rfl ?_ | refine chPu (loadRow tab rfl rfl rfl rfl) rfl ?_ | refine chPu (loadBox tab rfl rfl rfl rfl rfl) rfl ?_
   refine chPu (puCall rfl rfl rfl (sameS_fn x) rfl) rfl ?_
   refine chPu (ev tab rfl) rfl ?_
   refine CH.nil ?_
   refine qs ?_
   refine condK rfl (fun h38 => ?_) (fun h38 => ?_)
   ·
    exfalso
    simp at h38
   ·
    refine W.skip (qbN (qs (W.region ?_)))
    iterate 3 refine pE rfl ?_
    refine WO.nil ?_
    refine W.endR [0, 1] ⟨k + 1, ?_⟩ ?_ rfl ?_ trivial ?_ ⟨rfl, rfl, rfl, rfl, trivial⟩ rfl
    · exact ⟨hlt, trivial⟩
    · dsimp only; omega
    · repeat' first | exact trivial | refine ⟨rfl, ?_⟩ | refine ⟨step_nat (by assumption) (by assumption), ?_⟩
    · repeat' first | exact trivial | refine ⟨rfl, ?_⟩ | refine ⟨step_nat (by assumption) (by assumption), ?_⟩
  ·
   refine W.exit (qsExit (qlExit (qbExit (qs (W.seq (W.region ?_))))))
   refine pE rfl ?_
   refine WO.nil (qs (W.ret ?_))
   refine QF.ret0 trivial rfl ?_
   rfl
end Go.Proofs.YtifeonoehfffmaaGreatDoor
namespace Go.Proofs.YtifeonoehfffmaaGreatDoor
open Go.Ab Go.Tb
set_option maxRecDepth 10000
attribute [local irreducible] W WO Pu QS QB QL QF QV QV1 CH QE
theorem lq1_fn : Does Tryz.prog 10 [.d (.v (.string tx1))] (.tup [.ag q1.c, .d (.v (.int .i64 0)), .d (.v (.int .i64 0))]) 0 := by
 have := pquery_fn tx1 (by decide)
 rw [tx1_q] at this
 exact this
theorem lq2_fn : Does Tryz.prog 13 [.d (.v (.string tx2))] (.tup [.ag ex5.c, .d (.v (.int .i64 0)), .d (.v (.int .i64 0))]) 0 := by
 have := pexpr_fn tx2 (by decide)
 rw [tx2_q] at this
 exact this
theorem lq3_fn : Does Tryz.prog 13 [.d (.v (.string tx3))] (.tup [.ag (exprF true tx3).1.c, .d (.v (.int .i64 3)), .d (.v (.int .i64 15))]) 0 := by
 have := pexpr_fn tx3 (by decide)
 rw [tx3_q1, tx3_q2] at this
 exact this
theorem lives37_fn : Does Tryz.prog 9 [] (.d (.v (.bool true))) 0 := by
 refine Does.of_W (n := 87) (ts := [0]) Tryz.func9 (by kernel_rfl) rfl Tryz.ntmps9 Tryz.results9 rfl rfl fun C hC hG => ?_
 refine W.seq (W.region ?_)
 refine pE rfl ?_
 refine WO.nil (qs (W.seq (W.region ?_)))
 refine pu (puCall rfl rfl rfl lq1_fn rfl) rfl ?_
 iterate 4 refine pE rfl ?_
 refine allocR tab rfl rfl rfl ?_
 refine storeR tab rfl rfl rfl rfl rfl rfl rfl rfl ?_
 iterate 2 refine pE rfl ?_
 refine WO.nil (qs ?_)
 iterate 2 refine W.seq ?_
 apply regionB; (case hb => rfl)
 ·
  iterate 3 refine pE rfl ?_
  apply splitJ; (case hj => rfl); (case hl => rfl)
  ·
   iterate 2 refine skipT rfl rfl rfl rfl ?_
   iterate 2 refine pE rfl ?_
   iterate 3 refine skipT rfl rfl rfl rfl ?_
   iterate 2 refine pE rfl ?_
   iterate 4 refine skipT rfl rfl rfl rfl ?_
   iterate 2 refine pE rfl ?_
   iterate 6 refine skipT rfl rfl rfl rfl ?_
   refine pE rfl ?_
   refine WO.nil ?_
   refine qv1 rfl rfl rfl
  ·
   refine goG rfl rfl ?_
   refine pE rfl ?_
   refine goG rfl rfl ?_
   iterate 3 refine pE rfl ?_
   apply splitJ; (case hj => rfl); (case hl => rfl)
   ·
    iterate 3 refine skipT rfl rfl rfl rfl ?_
    iterate 2 refine pE rfl ?_
    iterate 4 refine skipT rfl rfl rfl rfl ?_
    iterate 2 refine pE rfl ?_
    iterate 6 refine skipT rfl rfl rfl rfl ?_
    refine pE rfl ?_
    refine WO.nil ?_
    refine qv1 rfl rfl rfl
   ·
    refine goG rfl rfl ?_
    refine pE rfl ?_
    refine goG rfl rfl ?_
    first | refine pE rfl ?_ | refine pR rfl rfl rfl rfl rfl ?_ | refine pB rfl rfl rfl rfl rfl rfl ?_
    refine goG rfl rfl ?_
    iterate 3 refine pE rfl ?_
    apply splitJ; (case hj => rfl); (case hl => rfl)
    ·
     iterate 4 refine skipT rfl rfl rfl rfl ?_
     iterate 2 refine pE rfl ?_
     iterate 6 refine skipT rfl rfl rfl rfl ?_
     refine pE rfl ?_
     refine WO.nil ?_
     refine qv1 rfl rfl rfl
    ·
     refine goG rfl rfl ?_
     refine pE rfl ?_
     refine goG rfl rfl ?_
     first | refine pE rfl ?_ | refine pR rfl rfl rfl rfl rfl ?_ | refine pB rfl rfl rfl rfl rfl rfl ?_
     refine goG rfl rfl ?_
     refine pE rfl ?_
     refine goG rfl rfl ?_
     iterate 3 refine pE rfl ?_
     apply splitJ; (case hj => rfl); (case hl => rfl)
     ·
      iterate 6 refine skipT rfl rfl rfl rfl ?_
      refine pE rfl ?_
      refine WO.nil ?_
      refine qv1 rfl rfl rfl
     ·
      refine goG rfl rfl ?_
      refine pE rfl ?_
      refine goG rfl rfl ?_
      first | refine pE rfl ?_ | refine pR rfl rfl rfl rfl rfl ?_ | refine pB rfl rfl rfl rfl rfl rfl ?_
      refine goG rfl rfl ?_
      refine pu (indexAddr tab rfl rfl rfl rfl rfl rfl (by decide) (idx_map (f := Stp.c) (l := q1.steps) (k := ({ stp0 1 with cond := exL } : Stp)) rfl) rfl) rfl ?_
      refine goG rfl rfl ?_
      refine pE rfl ?_
      refine goG rfl rfl ?_
      first | refine pE rfl ?_ | refine pR rfl rfl rfl rfl rfl ?_ | refine pB rfl rfl rfl rfl rfl rfl ?_
      refine goG rfl rfl ?_
      iterate 2 refine pE rfl ?_
      refine WO.nil ?_
      refine qv1 rfl rfl rfl
 refine qs ?_
 refine condK rfl (fun h41 => ?_) (fun h41 => ?_)
 ·
  exfalso
  simp at h41
 ·
  refine W.skip (qs (W.seq (W.region ?_)))
  refine pu (puCall rfl rfl rfl lq2_fn rfl) rfl ?_
  iterate 4 refine pE rfl ?_
  refine allocR tab rfl rfl rfl ?_
  refine storeR tab rfl rfl rfl rfl rfl rfl rfl rfl ?_
  iterate 2 refine pE rfl ?_
  refine WO.nil (qs (W.seq (W.region ?_)))
  refine pu (puCall rfl rfl rfl lq3_fn rfl) rfl ?_
  iterate 4 refine pE rfl ?_
  refine allocR tab rfl rfl rfl ?_
  refine storeR tab rfl rfl rfl rfl rfl rfl rfl rfl ?_
  iterate 2 refine pE rfl ?_
  refine WO.nil (qs (W.seq (W.region ?_)))
  refine pu (build tab rfl rfl rfl rfl) rfl ?_
  try refine nilO 52 rfl rfl rfl ?_
  refine pu (build tab rfl rfl rfl rfl) rfl ?_
  try refine nilO 53 rfl rfl rfl ?_
  refine allocR tab rfl rfl rfl ?_
  refine storeR tab rfl rfl rfl rfl rfl rfl rfl rfl ?_
  refine WO.nil (qs (W.seq (W.region ?_)))
  refine pu (build tab rfl rfl rfl rfl) rfl ?_
  try refine nilO 54 rfl rfl rfl ?_
  first | refine pE rfl ?_ | refine pR rfl rfl rfl rfl rfl ?_ | refine pB rfl rfl rfl rfl rfl rfl ?_
  refine pu (buildV tab rfl rfl rfl rfl rfl rfl rfl rfl rfl) rfl ?_
  refine pu (build tab rfl rfl rfl rfl) rfl ?_
  try refine nilO 57 rfl rfl rfl ?_
  refine allocR tab rfl rfl rfl ?_
  refine storeR tab rfl rfl rfl rfl rfl rfl rfl rfl ?_
  refine WO.nil (qs (W.seq ?_))
  apply regionDB tab; (case hb => rfl); (case hB => kernel_rfl)
  ·
   refine chPu (ev tab rfl) rfl ?_
   first | refine chPu (ev tab rfl) rfl ?_ | refine chPu (loadRow tab rfl rfl rfl rfl) rfl ?_ | refine chPu (loadBox tab rfl rfl rfl rfl rfl) rfl ?_
   refine chPu (indexAddr tab rfl rfl rfl rfl rfl rfl (by decide) (idx_map (f := Stp.c) (l := q1.steps) (k := ({ stp0 1 with cond := exL } : Stp)) rfl) rfl) rfl ?_
   refine chPu (ev tab rfl) rfl ?_
   first | refine chPu (ev tab rfl) rfl ?_ | refine chPu (loadRow tab rfl rfl rfl rfl) rfl ?_ | refine chPu (loadBox tab rfl rfl rfl rfl rfl) rfl ?_
   first | refine chPu (ev tab rfl) rfl ?_ | refine chPu (loadRow tab rfl rfl rfl rfl) rfl ?_ | refine chPu (loadBox tab rfl rfl rfl rfl rfl) rfl ?_
   refine chPu (puCall rfl rfl rfl (sameX_fn exL) rfl) rfl ?_
   refine chPu (ev tab rfl) rfl ?_
   apply chSplitJ; (case hj => rfl); (case hl => rfl)
   ·
    first | refine chGo rfl rfl (ev tab rfl) rfl ?_ | refine chGo rfl rfl (loadRow tab rfl rfl rfl rfl) rfl ?_ | refine chGo rfl rfl (loadBox tab rfl rfl rfl rfl rfl) rfl ?_
    refine chGo rfl rfl (build tab rfl rfl rfl rfl) rfl ?_
    try refine nilO 67 rfl rfl rfl ?_
    refine chGo rfl rfl (build tab rfl rfl rfl rfl) rfl ?_
    try refine nilO 68 rfl rfl rfl ?_
    refine chGo rfl rfl (puCallN rfl rfl rfl (sameX_fn ex5) rfl) rfl ?_
    iterate 2 refine chPu (ev tab rfl) rfl ?_
    apply chSplitJ; (case hj => rfl); (case hl => rfl)
    ·
     refine chGo rfl rfl (ev tab rfl) rfl ?_
     refine chGo rfl rfl (ev tab rfl) rfl ?_
     iterate 2 refine chPu (ev tab rfl) rfl ?_
     apply chSplitJ; (case hj => rfl); (case hl => rfl)
     ·
      refine chGo rfl rfl (ev tab rfl) rfl ?_
      refine chGo rfl rfl (ev tab rfl) rfl ?_
      iterate 2 refine chPu (ev tab rfl) rfl ?_
      apply chSplitJ; (case hj => rfl); (case hl => rfl)
      ·
       refine chGo rfl rfl (ev tab rfl) rfl ?_
       refine chGo rfl rfl (ev tab rfl) rfl ?_
       iterate 2 refine chPu (ev tab rfl) rfl ?_
       apply chSplitJ; (case hj => rfl); (case hl => rfl)
       ·
        refine chGo rfl rfl (ev tab rfl) rfl ?_
        refine chGo rfl rfl (ev tab rfl) rfl ?_
        iterate 2 refine chPu (ev tab rfl) rfl ?_
        refine CH.nil ?_
        refine qv1 rfl rfl rfl
       ·
        iterate 2 refine chSkip rfl rfl rfl rfl ?_
        iterate 2 refine chPu (ev tab rfl) rfl ?_
        refine CH.nil ?_
        refine qv1 rfl rfl rfl
      ·
       iterate 2 refine chSkip rfl rfl rfl rfl ?_
       iterate 2 refine chPu (ev tab rfl) rfl ?_
       iterate 2 refine chSkip rfl rfl rfl rfl ?_
       iterate 2 refine chPu (ev tab rfl) rfl ?_
       refine CH.nil ?_
       refine qv1 rfl rfl rfl
     ·
      iterate 2 refine chSkip rfl rfl rfl rfl ?_
      iterate 2 refine chPu (ev tab rfl) rfl ?_
      iterate 2 refine chSkip rfl rfl rfl rfl ?_
      iterate 2 refine chPu (ev tab rfl) rfl ?_
      iterate 2 refine chSkip rfl rfl rfl rfl ?_
      iterate 2 refine chPu (ev tab rfl) rfl ?_
      refine CH.nil ?_
      refine qv1 rfl rfl rfl
    ·
     iterate 2 refine chSkip rfl rfl rfl rfl ?_
     iterate 2 refine chPu (ev tab rfl) rfl ?_
     iterate 2 refine chSkip rfl rfl rfl rfl ?_
     iterate 2 refine chPu (ev tab rfl) rfl ?_
     iterate 2 refine chSkip rfl rfl rfl rfl ?_
     iterate 2 refine chPu (ev tab rfl) rfl ?_
     iterate 2 refine chSkip rfl rfl rfl rfl ?_
     iterate 2 refine chPu (ev tab rfl) rfl ?_
     refine CH.nil ?_
     refine qv1 rfl rfl rfl
   ·
    iterate 4 refine chSkip rfl rfl rfl rfl ?_
    iterate 2 refine chPu (ev tab rfl) rfl ?_
    iterate 2 refine chSkip rfl rfl rfl rfl ?_
    iterate 2 refine chPu (ev tab rfl) rfl ?_
    iterate 2 refine chSkip rfl rfl rfl rfl ?_
    iterate 2 refine chPu (ev tab rfl) rfl ?_
    iterate 2 refine chSkip rfl rfl rfl rfl ?_
    iterate 2 refine chPu (ev tab rfl) rfl ?_
    iterate 2 refine chSkip rfl rfl rfl rfl ?_
    iterate 2 refine chPu (ev tab rfl) rfl ?_
    refine CH.nil ?_
    refine qv1 rfl rfl rfl
  refine qs (W.ret ?_)
  refine QF.ret0 trivial rfl ?_
  rfl
end Go.Proofs.YtifeonoehfffmaaGreatDoor
namespace Go.Proofs.YtifeonoehfffmaaGreatDoor
open Go.Ab Go.Tb
set_option maxRecDepth 10000
attribute [local irreducible] W WO Pu QS QB QL QF QV QV1 CH QE
end Go.Proofs.YtifeonoehfffmaaGreatDoor
namespace Go.Proofs.YtifeonoehfffmaaGreatDoor
open Go.Ab Go.Tb
set_option maxRecDepth 10000
attribute [local irreducible] W WO Pu QS QB QL QF QV QV1 CH QE
end Go.Proofs.YtifeonoehfffmaaGreatDoor
namespace Go.Proofs.YtifeonoehfffmaaGreatDoor
open Go.Ab Go.Tb
set_option maxRecDepth 10000
attribute [local irreducible] W WO Pu QS QB QL QF QV QV1 CH QE
end Go.Proofs.YtifeonoehfffmaaGreatDoor
namespace Go.Proofs.YtifeonoehfffmaaGreatDoor
open Go.Ab Go.Tb
set_option maxRecDepth 10000
attribute [local irreducible] W WO Pu QS QB QL QF QV QV1 CH QE
end Go.Proofs.YtifeonoehfffmaaGreatDoor
namespace Go.Proofs.YtifeonoehfffmaaGreatDoor
open Go.Ab Go.Tb
set_option maxRecDepth 10000
attribute [local irreducible] W WO Pu QS QB QL QF QV QV1 CH QE
end Go.Proofs.YtifeonoehfffmaaGreatDoor
namespace Go.Proofs.YtifeonoehfffmaaGreatDoor
open Go.Ab Go.Tb
set_option maxRecDepth 10000
attribute [local irreducible] W WO Pu QS QB QL QF QV QV1 CH QE
end Go.Proofs.YtifeonoehfffmaaGreatDoor
namespace Go.Proofs.YtifeonoehfffmaaGreatDoor
open Go.Ab Go.Tb
set_option maxRecDepth 10000
attribute [local irreducible] W WO Pu QS QB QL QF QV QV1 CH QE
end Go.Proofs.YtifeonoehfffmaaGreatDoor
namespace Go.Proofs.YtifeonoehfffmaaGreatDoor
open Go.Ab Go.Tb
set_option maxRecDepth 10000
attribute [local irreducible] W WO Pu QS QB QL QF QV QV1 CH QE
end Go.Proofs.YtifeonoehfffmaaGreatDoor
namespace Go.Proofs.YtifeonoehfffmaaGreatDoor
open Go.Ab Go.Tb
set_option maxRecDepth 10000
attribute [local irreducible] W WO Pu QS QB QL QF QV QV1 CH QE
end Go.Proofs.YtifeonoehfffmaaGreatDoor
namespace Go.Proofs.YtifeonoehfffmaaGreatDoor
open Go.Ab Go.Tb
set_option maxRecDepth 10000
attribute [local irreducible] W WO Pu QS QB QL QF QV QV1 CH QE
end Go.Proofs.YtifeonoehfffmaaGreatDoor
namespace Go.Proofs.YtifeonoehfffmaaGreatDoor
open Go.Ab Go.Tb
set_option maxRecDepth 10000
attribute [local irreducible] W WO Pu QS QB QL QF QV QV1 CH QE
end Go.Proofs.YtifeonoehfffmaaGreatDoor
namespace Go.Proofs.YtifeonoehfffmaaGreatDoor
open Go.Ab Go.Tb
set_option maxRecDepth 10000
attribute [local irreducible] W WO Pu QS QB QL QF QV QV1 CH QE
end Go.Proofs.YtifeonoehfffmaaGreatDoor
namespace Go.Proofs.YtifeonoehfffmaaGreatDoor
open Go.Ab Go.Tb
set_option maxRecDepth 10000
attribute [local irreducible] W WO Pu QS QB QL QF QV QV1 CH QE
end Go.Proofs.YtifeonoehfffmaaGreatDoor
namespace Go.Proofs.YtifeonoehfffmaaGreatDoor
open Go.Ab Go.Tb
set_option maxRecDepth 10000
attribute [local irreducible] W WO Pu QS QB QL QF QV QV1 CH QE
theorem digits_fn : ∀ (k u : Nat), u ≤ k → u ≤ 1000000000000000 → Does Tryz.prog 87 [.d (.v (.int .i64 (u : Int)))] (.d (.v (.string (ofL (digB u))))) 0
 | k, u, hk, hu => by
  by_cases h10 : u < 10
  ·
   have hb : digB u = [UInt8.ofNat (48 + u)] := digB_small h10
   have hx : (B #[48, 49, 50, 51, 52, 53, 54, 55, 56, 57]).extract u (u + 1) = ofL (digB u) := by
    rw [hb]
    have : u = 0 ∨ u = 1 ∨ u = 2 ∨ u = 3 ∨ u = 4 ∨ u = 5 ∨ u = 6 ∨ u = 7 ∨ u = 8 ∨ u = 9 := by omega
    rcases this with rfl | rfl | rfl | rfl | rfl | rfl | rfl | rfl | rfl | rfl <;> decide
   refine Does.of_W (n := 16) (ts := [2]) Tryz.func87 (by kernel_rfl) rfl Tryz.ntmps87 Tryz.results87 rfl rfl fun C hC hG => ?_
   refine W.seq (W.region ?_)
   refine pE rfl ?_
   refine WO.nil (qs ?_)
   iterate 2 refine W.seq ?_
   refine W.region ?_
   iterate 2 refine pE rfl ?_
   refine WO.nil (qs ?_)
   refine condK rfl (fun h4 => ?_) (fun h4 => ?_)
   ·
    refine W.seq (W.region ?_)
    iterate 2 refine pE rfl ?_
    refine pu (puI (ev tab rfl) (y := ((u + 1 : Nat) : Int)) (by rw [wrap64 (by omega)]; rfl)) rfl ?_
    refine pu (puS (strPart (s := B #[48, 49, 50, 51, 52, 53, 54, 55, 56, 57]) (l := (u : Int)) (h := ((u + 1 : Nat) : Int)) tab rfl rfl rfl rfl rfl (Int.natCast_nonneg _) (by omega) (by show ((u + 1 : Nat) : Int) ≤ 10; omega)) hx) rfl ?_
    refine pE rfl ?_
    refine WO.nil (qs (W.ret (qsRet ?_)))
    refine QF.ret0 trivial rfl ?_
    rfl
   ·
    exfalso
    simp at h4
    omega
  ·
   obtain ⟨k', rfl⟩ : ∃ k', k = k' + 1 := ⟨k - 1, by omega⟩
   have i1 := digits_fn k' (u / 10) (by omega) (by omega)
   have i2 := digits_fn k' (u % 10) (by omega) (by omega)
   have l1 := digB_len (u / 10) 15 (by have : (10 : Nat) ^ (15 + 1) = 10000000000000000 := by decide
                                       omega)
   have l2 := digB_len (u % 10) 15 (by have : (10 : Nat) ^ (15 + 1) = 10000000000000000 := by decide
                                       omega)
   have e1 : ((u : Int)).tdiv 10 = ((u / 10 : Nat) : Int) := by rw [show (10 : Int) = ((10 : Nat) : Int) from rfl, ← Int.ofNat_tdiv]
   have e2 : ((u : Int)).tmod 10 = ((u % 10 : Nat) : Int) := by rw [show (10 : Int) = ((10 : Nat) : Int) from rfl, ← Int.ofNat_tmod]
   have hb : ofL (digB (u / 10)) ++ ofL (digB (u % 10)) = ofL (digB u) := by
    rw [ofL_append, digB_big h10, digB_small (Nat.mod_lt u (by decide))]
   refine Does.of_W (n := 16) (ts := [2]) Tryz.func87 (by kernel_rfl) rfl Tryz.ntmps87 Tryz.results87 rfl rfl fun C hC hG => ?_
   refine W.seq (W.region ?_)
   refine pE rfl ?_
   refine WO.nil (qs ?_)
   iterate 2 refine W.seq ?_
   refine W.region ?_
   iterate 2 refine pE rfl ?_
   refine WO.nil (qs ?_)
   refine condK rfl (fun h4 => ?_) (fun h4 => ?_)
   ·
    exfalso
    simp at h4
    omega
   ·
    refine W.skip (qs (W.seq (W.region ?_)))
    refine pE rfl ?_
    refine pu (puI (quoR rfl rfl (by decide) (okc_wrap _ _)) (y := ((u / 10 : Nat) : Int)) (by rw [e1]; exact wrap64 (by omega))) rfl ?_
    refine pu (puCall rfl rfl rfl i1 rfl) rfl ?_
    refine pE rfl ?_
    refine pu (puI (remR rfl rfl (by decide) (by rw [e2]; simp only [okc, Bool.and_eq_true, decide_eq_true_eq]; exact ⟨by show (-9223372036854775808 : Int) ≤ _; omega, by show _ ≤ (9223372036854775807 : Int); omega⟩)) (y := ((u % 10 : Nat) : Int)) e2) rfl ?_
    refine pu (puCall rfl rfl rfl i2 rfl) rfl ?_
    refine pu (puS (strAdd rfl rfl (by rw [ofL_size, ofL_size]; omega)) hb) rfl ?_
    refine pE rfl ?_
    refine WO.nil (qs (W.ret ?_))
    refine QF.ret0 trivial rfl ?_
    rfl
theorem digits_fn' {n : Int} (h0 : 0 ≤ n) (h1 : n ≤ 1000000000000000) : Does Tryz.prog 87 [.d (.v (.int .i64 n))] (.d (.v (.string (digsB n)))) 0 := by
 obtain ⟨u, rfl⟩ : ∃ u : Nat, n = (u : Int) := ⟨n.toNat, by omega⟩
 exact digits_fn u u (Nat.le_refl _) (by omega)
theorem operator_fn {op : Int} (h5 : 5 ≤ op) (h15 : op ≤ 15) : Does Tryz.prog 47 [.d (.v (.int .i64 op))] (.d (.v (.string (opText op)))) 0 := by
 have hx : ([[cs gAdd], [cs gSub], [cs gMul], [cs gDiv], [cs gMod], [cs gEq], [cs gNe], [cs gLt], [cs gLe], [cs kwAnd], [cs kwOr]] : List (List D))[(op - 5).toNat]? = some [cs (opText op)] := by
  rcases op_cases h5 h15 with rfl | rfl | rfl | rfl | rfl | rfl | rfl | rfl | rfl | rfl | rfl <;> rfl
 refine Does.of_W (n := 8) (ts := [2]) Tryz.func47 (by kernel_rfl) rfl Tryz.ntmps47 Tryz.results47 rfl rfl fun C hC hG => ?_
 refine W.seq (W.region ?_)
 refine pE rfl ?_
 refine WO.nil (qs (W.seq (W.region ?_)))
 refine pu (buildV tab rfl rfl rfl rfl rfl rfl rfl rfl rfl) rfl ?_
 refine pE rfl ?_
 refine pu (puI (ev tab rfl) (y := (((op - 5).toNat : Nat) : Int)) (by rw [wrap64 (by omega)]; omega)) rfl ?_
 refine pu (indexAddr (l := [cs (opText op)]) tab rfl rfl rfl rfl rfl rfl (Int.natCast_nonneg _) hx rfl) rfl ?_
 first | refine pE rfl ?_ | refine pR rfl rfl rfl rfl rfl ?_ | refine pB rfl rfl rfl rfl rfl rfl ?_
 refine pE rfl ?_
 refine WO.nil (qs (W.ret ?_))
 refine QF.ret0 trivial rfl ?_
 rfl
theorem plain_fn (v : Val) (h : constErr v = 0) : Does Tryz.prog 46 [.ag v.c] (.d (.v (.string (plainB v)))) 0 := by
 have hs := const_text h
 have hr : v.kind ≠ 0 → v.kind ≠ 3 → v.kind ≠ 1 → -1000000000000000 ≤ v.n ∧ v.n ≤ 1000000000000000 := fun h0 h3 h1 => by
  rcases const_facts h with ⟨e, _⟩ | ⟨e, _⟩ | e | e | ⟨e, hr⟩
  · exact absurd e h0
  · exact absurd e h3
  · exact absurd (by rw [e]) h1
  · exact absurd (by rw [e]) h1
  · simpa [inR] using hr
 refine Does.of_W (n := 41) (ts := [2]) Tryz.func46 (by kernel_rfl) rfl Tryz.ntmps46 Tryz.results46 rfl rfl fun C hC hG => ?_
 refine W.seq (W.region ?_)
 refine boxR rfl rfl rfl ?_
 refine pE rfl ?_
 refine WO.nil (qs (W.seq (W.block (W.seq (W.region ?_)))))
 refine pE rfl ?_
 first | refine pE rfl ?_ | refine pR rfl rfl rfl rfl rfl ?_ | refine pB rfl rfl rfl rfl rfl rfl ?_
 iterate 2 refine pE rfl ?_
 refine WO.nil (qs ?_)
 refine condK rfl (fun h3 => ?_) (fun h3 => ?_)
 ·
  have k0 : v.kind = 0 := of_decide_eq_true h3
  have hp : plainB v = kwNull := by unfold plainB; rw [if_pos k0]
  refine W.seq (W.region ?_)
  refine pE rfl ?_
  refine WO.nil (qs (W.ret (qbRet (qsRet ?_))))
  refine QF.ret0 trivial rfl ?_
  rw [hp]; rfl
 ·
  have k0 : ¬ v.kind = 0 := of_decide_eq_false h3
  refine W.seq (W.region ?_)
  refine pE rfl ?_
  first | refine pE rfl ?_ | refine pR rfl rfl rfl rfl rfl ?_ | refine pB rfl rfl rfl rfl rfl rfl ?_
  iterate 2 refine pE rfl ?_
  refine WO.nil (qs ?_)
  refine condK rfl (fun h7 => ?_) (fun h7 => ?_)
  ·
   have k3 : v.kind = 3 := of_decide_eq_true h7
   have hp : plainB v = B #[34] ++ v.s ++ B #[34] := by unfold plainB; rw [if_neg k0, if_pos k3]
   refine W.seq (W.region ?_)
   refine pE rfl ?_
   first | refine pE rfl ?_ | refine pR rfl rfl rfl rfl rfl ?_ | refine pB rfl rfl rfl rfl rfl rfl ?_
   refine pu (strAdd rfl rfl (by show 1 + v.s.size ≤ _; omega)) rfl ?_
   refine pu (strAdd rfl rfl (by rw [ByteArray.size_append]; show 1 + v.s.size + 1 ≤ _; omega)) rfl ?_
   refine pE rfl ?_
   refine WO.nil (qs (W.ret (qbRet (qsRet ?_))))
   refine QF.ret0 trivial rfl ?_
   rw [hp]; rfl
  ·
   have k3 : ¬ v.kind = 3 := of_decide_eq_false h7
   refine W.seq ?_
   apply regionB; (case hb => rfl)
   ·
    refine pE rfl ?_
    first | refine pE rfl ?_ | refine pR rfl rfl rfl rfl rfl ?_ | refine pB rfl rfl rfl rfl rfl rfl ?_
    iterate 2 refine pE rfl ?_
    apply splitJ; (case hj => rfl); (case hl => rfl)
    ·
     refine goG rfl rfl ?_
     refine pE rfl ?_
     refine goG rfl rfl ?_
     first | refine pE rfl ?_ | refine pR rfl rfl rfl rfl rfl ?_ | refine pB rfl rfl rfl rfl rfl rfl ?_
     refine goG rfl rfl ?_
     iterate 3 refine pE rfl ?_
     refine WO.nil ?_
     refine qv1 rfl rfl rfl
    ·
     iterate 3 refine skipT rfl rfl rfl rfl ?_
     iterate 2 refine pE rfl ?_
     refine WO.nil ?_
     refine qv1 rfl rfl rfl
   refine qs ?_
   refine condK rfl (fun h15 => ?_) (fun h15 => ?_)
   ·
    have k1 : v.kind = 1 ∧ v.n = 1 := by simpa using h15
    have hp : plainB v = kwTrue := by unfold plainB; rw [if_neg k0, if_neg k3, if_pos k1]
    refine W.seq (W.region ?_)
    refine pE rfl ?_
    refine WO.nil (qs (W.ret (qbRet (qsRet ?_))))
    refine QF.ret0 trivial rfl ?_
    rw [hp]; rfl
   ·
    have k1 : ¬ (v.kind = 1 ∧ v.n = 1) := by simpa using h15
    refine W.seq (W.region ?_)
    refine pE rfl ?_
    first | refine pE rfl ?_ | refine pR rfl rfl rfl rfl rfl ?_ | refine pB rfl rfl rfl rfl rfl rfl ?_
    iterate 2 refine pE rfl ?_
    refine WO.nil (qs ?_)
    refine condK rfl (fun h24 => ?_) (fun h24 => ?_)
    ·
     have k2 : v.kind = 1 := of_decide_eq_true h24
     have hp : plainB v = kwFalse := by unfold plainB; rw [if_neg k0, if_neg k3, if_neg k1, if_pos k2]
     refine W.seq (W.region ?_)
     refine pE rfl ?_
     refine WO.nil (qs (W.ret (qbRet (qsRet ?_))))
     refine QF.ret0 trivial rfl ?_
     rw [hp]; rfl
    ·
     have k2 : ¬ v.kind = 1 := of_decide_eq_false h24
     have hr' := hr k0 k3 k2
     refine W.seq (W.region ?_)
     refine pE rfl ?_
     first | refine pE rfl ?_ | refine pR rfl rfl rfl rfl rfl ?_ | refine pB rfl rfl rfl rfl rfl rfl ?_
     iterate 2 refine pE rfl ?_
     refine WO.nil (qs ?_)
     refine condK rfl (fun h28 => ?_) (fun h28 => ?_)
     ·
      have kn : v.n < 0 := of_decide_eq_true h28
      have hd := digits_fn' (n := -v.n) (by omega) (by omega)
      have hz := digsB_size (n := -v.n) (by omega) (by omega)
      have hp : plainB v = B #[40, 45] ++ digsB (-v.n) ++ B #[41] := by unfold plainB; rw [if_neg k0, if_neg k3, if_neg k1, if_neg k2, if_pos kn]
      refine W.seq (W.region ?_)
      refine pE rfl ?_
      first | refine pE rfl ?_ | refine pR rfl rfl rfl rfl rfl ?_ | refine pB rfl rfl rfl rfl rfl rfl ?_
      refine pu (puI (ev tab rfl) (show IntKind.i64.wrap (0 - v.n) = -v.n from by rw [Int.zero_sub]; exact wrap64 (by omega))) rfl ?_
      refine pu (puCall rfl rfl rfl hd rfl) rfl ?_
      refine pu (strAdd rfl rfl (by show 2 + (digsB (-v.n)).size ≤ _; omega)) rfl ?_
      refine pu (strAdd rfl rfl (by rw [ByteArray.size_append]; show 2 + (digsB (-v.n)).size + 1 ≤ _; omega)) rfl ?_
      refine pE rfl ?_
      refine WO.nil (qs (W.ret (qbRet (qsRet ?_))))
      refine QF.ret0 trivial rfl ?_
      rw [hp]; rfl
     ·
      have kn : ¬ v.n < 0 := of_decide_eq_false h28
      have hd := digits_fn' (n := v.n) (by omega) (by omega)
      have hp : plainB v = digsB v.n := by unfold plainB; rw [if_neg k0, if_neg k3, if_neg k1, if_neg k2, if_neg kn]
      refine W.skip (qbN (qs (W.seq (W.region ?_))))
      refine pE rfl ?_
      first | refine pE rfl ?_ | refine pR rfl rfl rfl rfl rfl ?_ | refine pB rfl rfl rfl rfl rfl rfl ?_
      refine pu (puCall rfl rfl rfl hd rfl) rfl ?_
      refine pE rfl ?_
      refine WO.nil (qs (W.ret ?_))
      refine QF.ret0 trivial rfl ?_
      rw [hp]; rfl
end Go.Proofs.YtifeonoehfffmaaGreatDoor
namespace Go.Proofs.YtifeonoehfffmaaGreatDoor
open Go.Ab Go.Tb
set_option maxRecDepth 10000
attribute [local irreducible] W WO Pu QS QB QL QF QV QV1 CH QE
theorem fullB_eq (e : Ex) : fullB e = fullN e.op e.name e.v (e.kids.map fullB) := by
 obtain ⟨op, name, v, kids⟩ := e
 rw [← fullBs_map]
 rfl
theorem vx_inv {e : Ex} (h : Vx e) : (e.op = 1 → constErr e.v = 0) ∧ (e.op = 2 → identB e.name = true) ∧ (e.op = 3 ∨ e.op = 4 → ∃ k, e.kids = [k] ∧ Vx k) ∧ (e.op = 16 → identB e.name = true ∧ (∀ k ∈ e.kids, Vx k) ∧ e.kids.length ≤ 2) ∧ (e.op ≠ 1 → e.op ≠ 2 → e.op ≠ 3 → e.op ≠ 4 → e.op ≠ 16 → 5 ≤ e.op ∧ e.op ≤ 15 ∧ ∃ a b, e.kids = [a, b] ∧ Vx a ∧ Vx b) := by
 cases h with
 | const v h => exact ⟨fun _ => h, fun q => absurd q (show ¬ (1 : Int) = 2 by decide), fun q => absurd q (show ¬ ((1 : Int) = 3 ∨ (1 : Int) = 4) by decide), fun q => absurd q (show ¬ (1 : Int) = 16 by decide), fun q => absurd rfl q⟩
 | field s h => exact ⟨fun q => absurd q (show ¬ (2 : Int) = 1 by decide), fun _ => h, fun q => absurd q (show ¬ ((2 : Int) = 3 ∨ (2 : Int) = 4) by decide), fun q => absurd q (show ¬ (2 : Int) = 16 by decide), fun _ q => absurd rfl q⟩
 | not_ k h => exact ⟨fun q => absurd q (show ¬ (3 : Int) = 1 by decide), fun q => absurd q (show ¬ (3 : Int) = 2 by decide), fun _ => ⟨k, rfl, h⟩, fun q => absurd q (show ¬ (3 : Int) = 16 by decide), fun _ _ q => absurd rfl q⟩
 | neg k h => exact ⟨fun q => absurd q (show ¬ (4 : Int) = 1 by decide), fun q => absurd q (show ¬ (4 : Int) = 2 by decide), fun _ => ⟨k, rfl, h⟩, fun q => absurd q (show ¬ (4 : Int) = 16 by decide), fun _ _ _ q => absurd rfl q⟩
 | bin op a b h5 h15 ha hb => exact ⟨fun q => absurd (show op = 1 from q) (by omega), fun q => absurd (show op = 2 from q) (by omega), fun q => absurd (show op = 3 ∨ op = 4 from q) (by omega), fun q => absurd (show op = 16 from q) (by omega), fun _ _ _ _ _ => ⟨h5, h15, a, b, rfl, ha, hb⟩⟩
 | call1 s k h hk => exact ⟨fun q => absurd q (show ¬ (16 : Int) = 1 by decide), fun q => absurd q (show ¬ (16 : Int) = 2 by decide), fun q => absurd q (show ¬ ((16 : Int) = 3 ∨ (16 : Int) = 4) by decide), fun _ => ⟨h, fun x hx => by obtain rfl := List.mem_singleton.1 hx; exact hk, show 1 ≤ 2 by decide⟩, fun _ _ _ _ q => absurd rfl q⟩
 | call2 s a b h ha hb => exact ⟨fun q => absurd q (show ¬ (16 : Int) = 1 by decide), fun q => absurd q (show ¬ (16 : Int) = 2 by decide), fun q => absurd q (show ¬ ((16 : Int) = 3 ∨ (16 : Int) = 4) by decide), fun _ => ⟨h, fun x hx => by
   have hx' : x ∈ [a, b] := hx
   simp only [List.mem_cons, List.not_mem_nil, or_false] at hx'
   rcases hx' with rfl | rfl
   · exact ha
   · exact hb, show 2 ≤ 2 by decide⟩, fun _ _ _ _ q => absurd rfl q⟩
theorem cnt_kid {e k : Ex} (h : k ∈ e.kids) : cnt k ≤ cnt e := by
 rw [cnt_eq e]
 revert h
 generalize e.kids = l
 intro h
 induction l with
 | nil => cases h
 | cons a l ih =>
  simp only [cntL]
  have h1 := cnt_pos a
  have h2 := cntL_pos l
  rcases List.mem_cons.1 h with rfl | h
  · omega
  ·
   have := ih h
   omega
set_option maxHeartbeats 4000000 in
theorem full_fn : ∀ e : Ex, Vx e → cnt e ≤ 200 → Does Tryz.prog 20 [.ag e.c] (.d (.v (.string (fullB e)))) 0 := by
 refine Ex.ind fun e ih hv hc => ?_
 obtain ⟨i1, i2, i34, i16, ib⟩ := vx_inv hv
 have hsz : ∀ k ∈ e.kids, Vx k → (fullB k).size ≤ 60000 ∧ Does Tryz.prog 20 [.ag k.c] (.d (.v (.string (fullB k)))) 0 := fun k hk hvk => by
  have h1 := cnt_kid hk
  have h2 := full_size hvk
  exact ⟨by omega, ih k hk hvk (by omega)⟩
 have hf := fullB_eq e
 refine Does.of_W (n := 78) (ts := [2]) Tryz.func20 (by kernel_rfl) rfl Tryz.ntmps20 Tryz.results20 rfl rfl fun C hC hG => ?_
 refine W.seq (W.region ?_)
 refine boxR rfl rfl rfl ?_
 refine pE rfl ?_
 refine WO.nil (qs ?_)
 iterate 2 refine W.seq ?_
 refine W.region ?_
 refine pE rfl ?_
 first | refine pE rfl ?_ | refine pR rfl rfl rfl rfl rfl ?_ | refine pB rfl rfl rfl rfl rfl rfl ?_
 refine WO.nil (qs (W.block (W.seq (W.region ?_))))
 iterate 2 refine pE rfl ?_
 refine WO.nil (qs ?_)
 refine condK rfl (fun h7 => ?_) (fun h7 => ?_)
 ·
  have e1 : e.op = 1 := of_decide_eq_true h7
  rw [show fullB e = plainB e.v by rw [hf]; unfold fullN; rw [if_pos e1]]
  refine W.seq (W.region ?_)
  refine pE rfl ?_
  first | refine pE rfl ?_ | refine pR rfl rfl rfl rfl rfl ?_ | refine pB rfl rfl rfl rfl rfl rfl ?_
  refine pu (puCall rfl rfl rfl (plain_fn e.v (i1 e1)) rfl) rfl ?_
  refine pE rfl ?_
  refine WO.nil (qs (W.ret (qbRet (qsRet ?_))))
  refine QF.ret0 trivial rfl ?_
  rfl
 ·
  have e1 : ¬ e.op = 1 := of_decide_eq_false h7
  refine W.seq (W.region ?_)
  iterate 2 refine pE rfl ?_
  refine WO.nil (qs ?_)
  refine condK rfl (fun h12 => ?_) (fun h12 => ?_)
  ·
   have e2 : e.op = 2 := of_decide_eq_true h12
   rw [show fullB e = e.name by rw [hf]; unfold fullN; rw [if_neg e1, if_pos e2]]
   refine W.seq (W.region ?_)
   refine pE rfl ?_
   first | refine pE rfl ?_ | refine pR rfl rfl rfl rfl rfl ?_ | refine pB rfl rfl rfl rfl rfl rfl ?_
   refine pE rfl ?_
   refine WO.nil (qs (W.ret (qbRet (qsRet ?_))))
   refine QF.ret0 trivial rfl ?_
   rfl
  ·
   have e2 : ¬ e.op = 2 := of_decide_eq_false h12
   refine W.seq (W.region ?_)
   iterate 2 refine pE rfl ?_
   refine WO.nil (qs ?_)
   refine condK rfl (fun h16 => ?_) (fun h16 => ?_)
   ·
    have e3 : e.op = 3 := of_decide_eq_true h16
    obtain ⟨k, hk, hvk⟩ := i34 (.inl e3)
    have hk0 : e.kids[0]? = some k := by rw [hk]; rfl
    obtain ⟨z1, z2⟩ := hsz k (by rw [hk]; simp) hvk
    rw [show fullB e = B #[40, 110, 111, 116, 32] ++ fullB k ++ B #[41] by rw [hf, hk]; unfold fullN; rw [if_neg e1, if_neg e2, if_pos e3]; rfl]
    refine W.seq (W.region ?_)
    refine pE rfl ?_
    first | refine pE rfl ?_ | refine pR rfl rfl rfl rfl rfl ?_ | refine pB rfl rfl rfl rfl rfl rfl ?_
    refine pu (indexAddr (l := k.c) tab rfl rfl rfl rfl rfl rfl (by decide) (Ex.kc_idx (i := 0) hk0) rfl) rfl ?_
    first | refine pE rfl ?_ | refine pR rfl rfl rfl rfl rfl ?_ | refine pB rfl rfl rfl rfl rfl rfl ?_
    refine pu (puCall rfl rfl rfl z2 rfl) rfl ?_
    refine pu (strAdd rfl rfl (by show 5 + (fullB k).size ≤ _; omega)) rfl ?_
    refine pu (strAdd rfl rfl (by rw [ByteArray.size_append]; show 5 + (fullB k).size + 1 ≤ _; omega)) rfl ?_
    refine pE rfl ?_
    refine WO.nil (qs (W.ret (qbRet (qsRet ?_))))
    refine QF.ret0 trivial rfl ?_
    rfl
   ·
    have e3 : ¬ e.op = 3 := of_decide_eq_false h16
    refine W.seq (W.region ?_)
    iterate 2 refine pE rfl ?_
    refine WO.nil (qs ?_)
    refine condK rfl (fun h25 => ?_) (fun h25 => ?_)
    ·
     have e4 : e.op = 4 := of_decide_eq_true h25
     obtain ⟨k, hk, hvk⟩ := i34 (.inr e4)
     have hk0 : e.kids[0]? = some k := by rw [hk]; rfl
     obtain ⟨z1, z2⟩ := hsz k (by rw [hk]; simp) hvk
     rw [show fullB e = B #[45] ++ fullB k by rw [hf, hk]; unfold fullN; rw [if_neg e1, if_neg e2, if_neg e3, if_pos e4]; rfl]
     refine W.seq (W.region ?_)
     refine pE rfl ?_
     first | refine pE rfl ?_ | refine pR rfl rfl rfl rfl rfl ?_ | refine pB rfl rfl rfl rfl rfl rfl ?_
     refine pu (indexAddr (l := k.c) tab rfl rfl rfl rfl rfl rfl (by decide) (Ex.kc_idx (i := 0) hk0) rfl) rfl ?_
     first | refine pE rfl ?_ | refine pR rfl rfl rfl rfl rfl ?_ | refine pB rfl rfl rfl rfl rfl rfl ?_
     refine pu (puCall rfl rfl rfl z2 rfl) rfl ?_
     refine pu (strAdd rfl rfl (by show 1 + (fullB k).size ≤ _; omega)) rfl ?_
     refine pE rfl ?_
     refine WO.nil (qs (W.ret (qbRet (qsRet ?_))))
     refine QF.ret0 trivial rfl ?_
     rfl
    ·
     have e4 : ¬ e.op = 4 := of_decide_eq_false h25
     refine W.seq (W.region ?_)
     iterate 2 refine pE rfl ?_
     refine WO.nil (qs ?_)
     refine condK rfl (fun h33 => ?_) (fun h33 => ?_)
     ·
      have e16 : e.op = 16 := of_decide_eq_true h33
      obtain ⟨hid, hvk, hle⟩ := i16 e16
      have hns := ident_size hid
      have hkl := e.kc_len
      have hml : e.kids.length ≤ maxLen := by simp only [maxLen]; omega
      rw [show fullB e = commaB (B #[44]) (e.name ++ B #[40]) (e.kids.map fullB) ++ B #[41] by rw [hf]; unfold fullN; rw [if_neg e1, if_neg e2, if_neg e3, if_neg e4, if_pos e16]]
      have hcs : ∀ j, (commaB (B #[44]) (e.name ++ B #[40]) ((e.kids.map fullB).take j)).size ≤ 200000 := fun j => by
       have h1 := commaB_size (x := B #[44]) (out := e.name ++ B #[40]) (M := 60000) (l := (e.kids.map fullB).take j) (fun s hs => by
        obtain ⟨k, hk, rfl⟩ := List.mem_map.1 (List.mem_of_mem_take hs)
        exact (hsz k hk (hvk k hk)).1)
       have h2 : ((e.kids.map fullB).take j).length ≤ 2 := by rw [List.length_take, List.length_map]; omega
       rw [ByteArray.size_append] at h1
       have h3 : ((e.kids.map fullB).take j).length * (60000 + (B #[44]).size) ≤ 2 * 60001 := Nat.mul_le_mul h2 (Nat.le_refl _)
       have h4 : (B #[40]).size = 1 := rfl
       omega
      refine W.seq (W.region ?_)
      refine pE rfl ?_
      first | refine pE rfl ?_ | refine pR rfl rfl rfl rfl rfl ?_ | refine pB rfl rfl rfl rfl rfl rfl ?_
      refine pu (puS (strAdd rfl rfl (by show e.name.size + 1 ≤ _; omega)) (show e.name ++ B #[40] = commaB (B #[44]) (e.name ++ B #[40]) ((e.kids.map fullB).take 0) from rfl)) rfl ?_
      refine pE rfl ?_
      refine WO.nil (qs ?_)
      iterate 2 refine W.seq ?_
      refine W.region ?_
      refine pE rfl ?_
      refine WO.nil (qs (W.block ?_))
      refine W.loopR (ι := {x : Nat // match x with | k => k ≤ e.kids.length})
       (fun x => match x.1 with | k => [(1, .ptr 0 0), (3, .d (.v (.string ((commaB (B #[44]) (e.name ++ B #[40]) ((e.kids.map fullB).take k)))))), (4, .d (.v (.int .i64 ((k : Nat) : Int))))]) []
       (fun x => match x.1 with | k => []) [(0, _)] [] 1 (fun x => match x.1 with | k => e.kids.length - k)
       [0] ⟨0, ?_⟩ rfl ?_ trivial ?_ ⟨rfl, rfl, trivial⟩ rfl ?_
      · exact Nat.zero_le _
      · repeat' first | exact trivial | refine ⟨rfl, ?_⟩ | refine ⟨step_nat (by assumption) (by assumption), ?_⟩
      · repeat' first | exact trivial | refine ⟨rfl, ?_⟩ | refine ⟨step_nat (by assumption) (by assumption), ?_⟩
      rintro ⟨k, hk⟩
      show W _ _ _ _ _ ⟨[(1, .ptr 0 0), (3, .d (.v (.string ((commaB (B #[44]) (e.name ++ B #[40]) ((e.kids.map fullB).take k)))))), (4, .d (.v (.int .i64 ((k : Nat) : Int))))], [(0, _)], [], 1⟩
      iterate 2 refine W.seq ?_
      refine W.region ?_
      iterate 2 refine pE rfl ?_
      first | refine pE rfl ?_ | refine pR rfl rfl rfl rfl rfl ?_ | refine pB rfl rfl rfl rfl rfl rfl ?_
      iterate 2 refine pE rfl ?_
      refine WO.nil (qs ?_)
      refine eachR (l := e.kids) (k := k) rfl (by simp [Ex.kc_len, bytes_len]) hk (fun x hx hd hlt => ?_) (fun he hd => ?_)
      ·
       have hkx : (e.kids.map fullB)[k]? = some (fullB x) := by rw [List.getElem?_map, hx]; rfl
       have hxm := List.mem_of_getElem? hx
       obtain ⟨z1, z2⟩ := hsz x hxm (hvk x hxm)
       have hst := commaB_take (x := B #[44]) (out := e.name ++ B #[40]) hkx
       have hck := hcs k
       have hco : (if k = 0 then commaB (B #[44]) (e.name ++ B #[40]) ((e.kids.map fullB).take k) else commaB (B #[44]) (e.name ++ B #[40]) ((e.kids.map fullB).take k) ++ B #[44]).size ≤ 200001 := by
        split
        · omega
        · rw [ByteArray.size_append]; show _ + 1 ≤ 200001; omega
       refine W.skip (qs (W.seq (W.block ?_)))
       iterate 2 refine W.seq ?_
       refine W.region ?_
       iterate 2 refine pE rfl ?_
       refine WO.nil (qs ?_)
       refine W.cutS [(1, .ptr 0 0), (3, .d (.v (.string ((if k = 0 then commaB (B #[44]) (e.name ++ B #[40]) ((e.kids.map fullB).take k) else commaB (B #[44]) (e.name ++ B #[40]) ((e.kids.map fullB).take k) ++ B #[44]))))), (4, .d (.v (.int .i64 ((k : Nat) : Int))))] [] [] [0] [] 1 ?_ ?_
       ·
        refine condK rfl (fun h46 => ?_) (fun h46 => ?_)
        ·
         rw [if_neg (show ¬ k = 0 by simp at h46; omega)]
         refine W.region ?_
         refine pE rfl ?_
         refine pu (strAdd rfl rfl (by show _ + 1 ≤ _; omega)) rfl ?_
         refine pE rfl ?_
         refine WO.nil ?_
         refine cutEnd [0] rfl ?_ trivial ?_ ⟨rfl, rfl, trivial⟩ rfl
         · repeat' first | exact trivial | refine ⟨rfl, ?_⟩ | refine ⟨step_nat (by assumption) (by assumption), ?_⟩
         · repeat' first | exact trivial | refine ⟨rfl, ?_⟩ | refine ⟨step_nat (by assumption) (by assumption), ?_⟩
        ·
         rw [if_pos (show k = 0 by simp at h46; omega)]
         refine W.skip ?_
         refine cutEnd [0] rfl ?_ trivial ?_ ⟨rfl, rfl, trivial⟩ rfl
         · repeat' first | exact trivial | refine ⟨rfl, ?_⟩ | refine ⟨step_nat (by assumption) (by assumption), ?_⟩
         · repeat' first | exact trivial | refine ⟨rfl, ?_⟩ | refine ⟨step_nat (by assumption) (by assumption), ?_⟩
       refine qs (W.region ?_)
       iterate 2 refine pE rfl ?_
       first | refine pE rfl ?_ | refine pR rfl rfl rfl rfl rfl ?_ | refine pB rfl rfl rfl rfl rfl rfl ?_
       refine pE rfl ?_
       refine pu (indexAddr (l := x.c) tab rfl rfl rfl rfl rfl rfl (Int.natCast_nonneg _) (Ex.kc_idx hx) rfl) rfl ?_
       first | refine pE rfl ?_ | refine pR rfl rfl rfl rfl rfl ?_ | refine pB rfl rfl rfl rfl rfl rfl ?_
       refine pu (puCall rfl rfl rfl z2 rfl) rfl ?_
       refine pu (puS (strAdd rfl rfl (by omega)) (show _ = commaB (B #[44]) (e.name ++ B #[40]) ((e.kids.map fullB).take (k + 1)) from by rw [hst]; split <;> rfl)) rfl ?_
       refine pE rfl ?_
       refine WO.nil (qbN (qs (W.region ?_)))
       iterate 3 refine pE rfl ?_
       refine WO.nil ?_
       refine W.endR [0] ⟨k + 1, ?_⟩ ?_ rfl ?_ trivial ?_ ⟨rfl, rfl, trivial⟩ rfl
       · exact hlt
       · dsimp only; omega
       · repeat' first | exact trivial | refine ⟨rfl, ?_⟩ | refine ⟨step_nat (by assumption) (by assumption), ?_⟩
       · repeat' first | exact trivial | refine ⟨rfl, ?_⟩ | refine ⟨step_nat (by assumption) (by assumption), ?_⟩
      ·
       have htk : (e.kids.map fullB).take k = e.kids.map fullB := List.take_of_length_le (by simp; omega)
       have hck := hcs k
       rw [htk] at hck ⊢
       refine W.exit (qsExit (qlExit (qbExit (qs (W.seq (W.region ?_))))))
       refine pE rfl ?_
       refine pu (strAdd rfl rfl (by show _ + 1 ≤ _; omega)) rfl ?_
       refine pE rfl ?_
       refine WO.nil (qs (W.ret (qbRet (qsRet ?_))))
       refine QF.ret0 trivial rfl ?_
       rfl
     ·
      have e16 : ¬ e.op = 16 := of_decide_eq_false h33
      obtain ⟨h5, h15, a, b, hk, hva, hvb⟩ := ib e1 e2 e3 e4 e16
      have hk0 : e.kids[0]? = some a := by rw [hk]; rfl
      have hk1 : e.kids[1]? = some b := by rw [hk]; rfl
      obtain ⟨z1, z2⟩ := hsz a (by rw [hk]; simp) hva
      obtain ⟨y1, y2⟩ := hsz b (by rw [hk]; simp) hvb
      have hos := opText_size h5 h15
      rw [show fullB e = B #[40] ++ fullB a ++ B #[32] ++ opText e.op ++ B #[32] ++ fullB b ++ B #[41] by rw [hf, hk]; unfold fullN; rw [if_neg e1, if_neg e2, if_neg e3, if_neg e4, if_neg e16]; rfl]
      refine W.skip (qbN (qs (W.seq ?_)))
      refine W.regionD tab (by kernel_rfl) ?_
      refine chPu (ev tab rfl) rfl ?_
      first | refine chPu (ev tab rfl) rfl ?_ | refine chPu (loadRow tab rfl rfl rfl rfl) rfl ?_ | refine chPu (loadBox tab rfl rfl rfl rfl rfl) rfl ?_
      refine chPu (indexAddr (l := a.c) tab rfl rfl rfl rfl rfl rfl (by decide) (Ex.kc_idx (i := 0) hk0) rfl) rfl ?_
      first | refine chPu (ev tab rfl) rfl ?_ | refine chPu (loadRow tab rfl rfl rfl rfl) rfl ?_ | refine chPu (loadBox tab rfl rfl rfl rfl rfl) rfl ?_
      refine chPu (puCall rfl rfl rfl z2 rfl) rfl ?_
      refine chPu (strAdd rfl rfl (by show 1 + (fullB a).size ≤ _; omega)) rfl ?_
      refine chPu (strAdd rfl rfl (by rw [ByteArray.size_append]; show 1 + (fullB a).size + 1 ≤ _; omega)) rfl ?_
      refine chPu (ev tab rfl) rfl ?_
      first | refine chPu (ev tab rfl) rfl ?_ | refine chPu (loadRow tab rfl rfl rfl rfl) rfl ?_ | refine chPu (loadBox tab rfl rfl rfl rfl rfl) rfl ?_
      refine chPu (puCall rfl rfl rfl (operator_fn h5 h15) rfl) rfl ?_
      refine chPu (strAdd rfl rfl (by simp only [ByteArray.size_append]; show 1 + (fullB a).size + 1 + (opText e.op).size ≤ _; omega)) rfl ?_
      refine chPu (strAdd rfl rfl (by simp only [ByteArray.size_append]; show 1 + (fullB a).size + 1 + (opText e.op).size + 1 ≤ _; omega)) rfl ?_
      refine chPu (ev tab rfl) rfl ?_
      first | refine chPu (ev tab rfl) rfl ?_ | refine chPu (loadRow tab rfl rfl rfl rfl) rfl ?_ | refine chPu (loadBox tab rfl rfl rfl rfl rfl) rfl ?_
      refine chPu (indexAddr (l := b.c) tab rfl rfl rfl rfl rfl rfl (by decide) (Ex.kc_idx (i := 1) hk1) rfl) rfl ?_
      first | refine chPu (ev tab rfl) rfl ?_ | refine chPu (loadRow tab rfl rfl rfl rfl) rfl ?_ | refine chPu (loadBox tab rfl rfl rfl rfl rfl) rfl ?_
      refine chPu (puCall rfl rfl rfl y2 rfl) rfl ?_
      refine chPu (strAdd rfl rfl (by simp only [ByteArray.size_append]; show 1 + (fullB a).size + 1 + (opText e.op).size + 1 + (fullB b).size ≤ _; omega)) rfl ?_
      refine chPu (strAdd rfl rfl (by simp only [ByteArray.size_append]; show 1 + (fullB a).size + 1 + (opText e.op).size + 1 + (fullB b).size + 1 ≤ _; omega)) rfl ?_
      refine chPu (ev tab rfl) rfl ?_
      refine CH.nil ?_
      refine qs (W.ret ?_)
      refine QF.ret0 trivial rfl ?_
      rfl
end Go.Proofs.YtifeonoehfffmaaGreatDoor
namespace Go.Proofs.YtifeonoehfffmaaGreatDoor
open Go.Ab Go.Tb
set_option maxRecDepth 10000
attribute [local irreducible] W WO Pu QS QB QL QF QV QV1 CH QE
theorem joined_fn (l : List ByteArray) (hl : l.length ≤ 16) (h : ∀ s ∈ l, s.size ≤ 60100) : Does Tryz.prog 86 [.d (.sl (l.map sc))] (.d (.v (.string (joinG l)))) 0 := by
 have hml : l.length ≤ maxLen := by simp only [maxLen]; omega
 have hcs : ∀ j, (commaB wCS E0 (l.take j)).size ≤ 16 * 60102 := fun j => join_size (l := l.take j) (by rw [List.length_take]; omega) fun s hs => h s (List.mem_of_mem_take hs)
 refine Does.of_W (n := 22) (ts := [2]) Tryz.func86 (by kernel_rfl) rfl Tryz.ntmps86 Tryz.results86 rfl rfl fun C hC hG => ?_
 refine W.seq (W.region ?_)
 refine pE rfl ?_
 refine WO.nil (qs (W.seq (W.region ?_)))
 refine pE rfl ?_
 refine WO.nil (qs ?_)
 iterate 2 refine W.seq ?_
 refine W.region ?_
 refine pE rfl ?_
 refine WO.nil (qs (W.block ?_))
 refine W.loopR (ι := {x : Nat // match x with | k => k ≤ l.length})
  (fun x => match x.1 with | k => [(3, .d (.v (.string ((commaB wCS E0 (l.take k)))))), (4, .d (.v (.int .i64 ((k : Nat) : Int))))]) [(0, _)]
  (fun x => match x.1 with | k => []) [] [] 0 (fun x => match x.1 with | k => l.length - k)
  [] ⟨0, ?_⟩ rfl ?_ ⟨rfl, rfl, trivial⟩ ?_ trivial rfl ?_
 · exact Nat.zero_le _
 · repeat' first | exact trivial | refine ⟨rfl, ?_⟩ | refine ⟨step_nat (by assumption) (by assumption), ?_⟩
 · repeat' first | exact trivial | refine ⟨rfl, ?_⟩ | refine ⟨step_nat (by assumption) (by assumption), ?_⟩
 rintro ⟨k, hk⟩
 show W _ _ _ _ _ ⟨[(3, .d (.v (.string ((commaB wCS E0 (l.take k)))))), (4, .d (.v (.int .i64 ((k : Nat) : Int)))), (0, _)], [], [], 0⟩
 iterate 2 refine W.seq ?_
 refine W.region ?_
 iterate 4 refine pE rfl ?_
 refine WO.nil (qs ?_)
 refine eachR (l := l) (k := k) rfl (by simp [Ex.kc_len, bytes_len]) hk (fun x hx hd hlt => ?_) (fun he hd => ?_)
 ·
  have hst := commaB_take (x := wCS) (out := E0) hx
  have hck := hcs k
  have hxs := h x (List.mem_of_getElem? hx)
  have hco : (if k = 0 then commaB wCS E0 (l.take k) else commaB wCS E0 (l.take k) ++ wCS).size ≤ 16 * 60102 + 2 := by
   split
   · omega
   · rw [ByteArray.size_append]; show _ + 2 ≤ 16 * 60102 + 2; omega
  refine W.skip (qs (W.seq (W.block ?_)))
  iterate 2 refine W.seq ?_
  refine W.region ?_
  iterate 2 refine pE rfl ?_
  refine WO.nil (qs ?_)
  refine W.cutS [(0, .d (.sl (l.map sc))), (3, .d (.v (.string ((if k = 0 then commaB wCS E0 (l.take k) else commaB wCS E0 (l.take k) ++ wCS))))), (4, .d (.v (.int .i64 ((k : Nat) : Int))))] [] [] [] [] 0 ?_ ?_
  ·
   refine condK rfl (fun h12 => ?_) (fun h12 => ?_)
   ·
    rw [if_neg (show ¬ k = 0 by simp at h12; omega)]
    refine W.region ?_
    refine pE rfl ?_
    refine pu (strAdd rfl rfl (by show _ + 2 ≤ _; omega)) rfl ?_
    refine pE rfl ?_
    refine WO.nil ?_
    refine cutEnd [] rfl ?_ trivial ?_ trivial rfl
    · repeat' first | exact trivial | refine ⟨rfl, ?_⟩ | refine ⟨step_nat (by assumption) (by assumption), ?_⟩
    · repeat' first | exact trivial | refine ⟨rfl, ?_⟩ | refine ⟨step_nat (by assumption) (by assumption), ?_⟩
   ·
    rw [if_pos (show k = 0 by simp at h12; omega)]
    refine W.skip ?_
    refine cutEnd [] rfl ?_ trivial ?_ trivial rfl
    · repeat' first | exact trivial | refine ⟨rfl, ?_⟩ | refine ⟨step_nat (by assumption) (by assumption), ?_⟩
    · repeat' first | exact trivial | refine ⟨rfl, ?_⟩ | refine ⟨step_nat (by assumption) (by assumption), ?_⟩
  refine qs (W.region ?_)
  iterate 3 refine pE rfl ?_
  refine pu (indexAddr (l := sc x) tab rfl rfl rfl rfl rfl rfl (Int.natCast_nonneg _) (idx_map (f := sc) hx) rfl) rfl ?_
  first | refine pE rfl ?_ | refine pR rfl rfl rfl rfl rfl ?_ | refine pB rfl rfl rfl rfl rfl rfl ?_
  refine pu (puS (strAdd rfl rfl (by omega)) (show _ = commaB wCS E0 (l.take (k + 1)) from by rw [hst]; split <;> rfl)) rfl ?_
  refine pE rfl ?_
  refine WO.nil (qbN (qs (W.region ?_)))
  iterate 3 refine pE rfl ?_
  refine WO.nil ?_
  refine W.endR [] ⟨k + 1, ?_⟩ ?_ rfl ?_ ⟨rfl, rfl, trivial⟩ ?_ trivial rfl
  · exact hlt
  · dsimp only; omega
  · repeat' first | exact trivial | refine ⟨rfl, ?_⟩ | refine ⟨step_nat (by assumption) (by assumption), ?_⟩
  · repeat' first | exact trivial | refine ⟨rfl, ?_⟩ | refine ⟨step_nat (by assumption) (by assumption), ?_⟩
 ·
  have htk : l.take k = l := List.take_of_length_le (by omega)
  rw [htk]
  refine W.exit (qsExit (qlExit (qbExit (qs (W.seq (W.region ?_))))))
  iterate 2 refine pE rfl ?_
  refine WO.nil (qs (W.ret ?_))
  refine QF.ret0 trivial rfl ?_
  rfl
theorem on_fn (s : Stp) (hf : SF s) (h16 : S16 s) : Does Tryz.prog 88 [.ag s.c] (.d (.v (.string (onB s)))) 0 := by
 have hc := join_size h16.cols (M := 40) (fun c hc => ident_size (hf.cols c hc))
 have ht := hf.table
 refine Does.of_W (n := 16) (ts := [2]) Tryz.func88 (by kernel_rfl) rfl Tryz.ntmps88 Tryz.results88 rfl rfl fun C hC hG => ?_
 refine W.seq (W.region ?_)
 refine boxR rfl rfl rfl ?_
 refine pE rfl ?_
 refine WO.nil (qs ?_)
 iterate 2 refine W.seq ?_
 refine W.region ?_
 refine pE rfl ?_
 first | refine pE rfl ?_ | refine pR rfl rfl rfl rfl rfl ?_ | refine pB rfl rfl rfl rfl rfl rfl ?_
 iterate 2 refine pE rfl ?_
 refine WO.nil (qs ?_)
 refine condK rfl (fun h6 => ?_) (fun h6 => ?_)
 ·
  rw [show onB s = s.table by unfold onB; rw [if_pos (by simpa using h6)]]
  refine W.seq (W.region ?_)
  refine pE rfl ?_
  first | refine pE rfl ?_ | refine pR rfl rfl rfl rfl rfl ?_ | refine pB rfl rfl rfl rfl rfl rfl ?_
  refine pE rfl ?_
  refine WO.nil (qs (W.ret (qsRet ?_)))
  refine QF.ret0 trivial rfl ?_
  rfl
 ·
  rw [show onB s = s.table ++ tOn ++ joinG s.cols by unfold onB; rw [if_neg (by simpa using h6)]]
  refine W.skip (qs (W.seq ?_))
  refine W.regionD tab (by kernel_rfl) ?_
  refine chPu (ev tab rfl) rfl ?_
  first | refine chPu (ev tab rfl) rfl ?_ | refine chPu (loadRow tab rfl rfl rfl rfl) rfl ?_ | refine chPu (loadBox tab rfl rfl rfl rfl rfl) rfl ?_
  refine chPu (strAdd rfl rfl (by show s.table.size + 4 ≤ _; omega)) rfl ?_
  refine chPu (ev tab rfl) rfl ?_
  first | refine chPu (ev tab rfl) rfl ?_ | refine chPu (loadRow tab rfl rfl rfl rfl) rfl ?_ | refine chPu (loadBox tab rfl rfl rfl rfl rfl) rfl ?_
  refine chPu (puCall rfl rfl rfl (joined_fn s.cols h16.cols (fun c hc => by have := ident_size (hf.cols c hc); omega)) rfl) rfl ?_
  refine chPu (strAdd rfl rfl (by rw [ByteArray.size_append]; show s.table.size + 4 + _ ≤ _; omega)) rfl ?_
  refine chPu (ev tab rfl) rfl ?_
  refine CH.nil ?_
  refine qs (W.ret ?_)
  refine QF.ret0 trivial rfl ?_
  rfl
end Go.Proofs.YtifeonoehfffmaaGreatDoor
namespace Go.Proofs.YtifeonoehfffmaaGreatDoor
open Go.Ab Go.Tb
set_option maxRecDepth 10000
attribute [local irreducible] W WO Pu QS QB QL QF QV QV1 CH QE
theorem take_map {α β : Type} {f : α → β} {l : List α} {k : Nat} {x : α} {acc : List β} (hx : l[k]? = some x) (h : acc = (l.take k).map f) : acc ++ [f x] = (l.take (k + 1)).map f := by
 rw [h, List.take_add_one, hx]
 simp
set_option maxHeartbeats 4000000 in
theorem fullStep_fn (s : Stp) (hf : SF s) (h16 : S16 s) : Does Tryz.prog 43 [.ag s.c] (.d (.v (.string (stepB s)))) 0 := by
 obtain ⟨hci, hit, hag, hco, hso, hn, htb⟩ := hf
 obtain ⟨n1, n2, n3, n4⟩ := h16
 have hjc := join_size n3 (M := 40) (fun c hc => ident_size (hco c hc))
 have hjcf := joined_fn s.cols n3 (fun c hc => by have := ident_size (hco c hc); omega)
 have hon := on_fn s ⟨hci, hit, hag, hco, hso, hn, htb⟩ ⟨n1, n2, n3, n4⟩
 have hos := on_size (s := s) ⟨hci, hit, hag, hco, hso, hn, htb⟩ ⟨n1, n2, n3, n4⟩
 have m1 : s.items.length ≤ maxLen := by simp only [maxLen]; omega
 have m2 : s.aggs.length ≤ maxLen := by simp only [maxLen]; omega
 have m4 : s.sorts.length ≤ maxLen := by simp only [maxLen]; omega
 have hjI := join_size (l := s.items.map itemB) (by simpa using n1) (M := 60100) (fun c hc => by
  obtain ⟨x, hx, rfl⟩ := List.mem_map.1 hc
  exact item_size (hit x hx))
 have hjA := join_size (l := s.aggs.map aggB) (by simpa using n2) (M := 60100) (fun c hc => by
  obtain ⟨x, hx, rfl⟩ := List.mem_map.1 hc
  exact (agg_size (hag x hx)).2.2.2)
 have hjS := join_size (l := s.sorts.map sortB) (by simpa using n4) (M := 60100) (fun c hc => by
  obtain ⟨x, hx, rfl⟩ := List.mem_map.1 hc
  exact (sort_size (hso x hx)).2)
 have hfI := joined_fn (s.items.map itemB) (by simpa using n1) (fun c hc => by
  obtain ⟨x, hx, rfl⟩ := List.mem_map.1 hc
  exact item_size (hit x hx))
 have hfA := joined_fn (s.aggs.map aggB) (by simpa using n2) (fun c hc => by
  obtain ⟨x, hx, rfl⟩ := List.mem_map.1 hc
  exact (agg_size (hag x hx)).2.2.2)
 have hfS := joined_fn (s.sorts.map sortB) (by simpa using n4) (fun c hc => by
  obtain ⟨x, hx, rfl⟩ := List.mem_map.1 hc
  exact (sort_size (hso x hx)).2)
 refine Does.of_W (n := 156) (ts := [2]) Tryz.func43 (by kernel_rfl) rfl Tryz.ntmps43 Tryz.results43 rfl rfl fun C hC hG => ?_
 refine W.seq (W.region ?_)
 refine boxR rfl rfl rfl ?_
 refine pE rfl ?_
 refine WO.nil (qs (W.seq (W.region ?_)))
 refine pE rfl ?_
 refine WO.nil (qs ?_)
 iterate 2 refine W.seq ?_
 refine W.region ?_
 refine pE rfl ?_
 first | refine pE rfl ?_ | refine pR rfl rfl rfl rfl rfl ?_ | refine pB rfl rfl rfl rfl rfl rfl ?_
 refine WO.nil (qs (W.block (W.seq (W.region ?_))))
 iterate 2 refine pE rfl ?_
 refine WO.nil (qs ?_)
 refine condK rfl (fun h9 => ?_) (fun h9 => ?_)
 ·
  have e1 : s.op = 1 := of_decide_eq_true h9
  have hp : stepB s = tWhere ++ fullB s.cond := by unfold stepB; rw [if_pos e1]
  obtain ⟨c1, c2⟩ := hci e1
  have c3 := expr_size c1
  have hfx := full_fn s.cond c2 (by unfold exprErr at c1; split at c1; cases c1; omega)
  refine W.seq (W.region ?_)
  refine pE rfl ?_
  first | refine pE rfl ?_ | refine pR rfl rfl rfl rfl rfl ?_ | refine pB rfl rfl rfl rfl rfl rfl ?_
  refine pu (puCall rfl rfl rfl hfx rfl) rfl ?_
  refine pu (strAdd rfl rfl (by show 6 + (fullB s.cond).size ≤ _; omega)) rfl ?_
  refine pE rfl ?_
  refine WO.nil (qs (W.ret (qbRet (qsRet ?_))))
  refine QF.ret0 trivial rfl ?_
  rw [hp]; rfl
 ·
  have e1 : ¬ s.op = 1 := of_decide_eq_false h9
  refine W.seq (W.region ?_)
  iterate 2 refine pE rfl ?_
  refine WO.nil (qs ?_)
  refine condK rfl (fun h15 => ?_) (fun h15 => ?_)
  ·
   have e2 : s.op = 2 := of_decide_eq_true h15
   have hp : stepB s = tSelect ++ joinG (s.items.map itemB) := by unfold stepB; rw [if_neg e1, if_pos e2]
   iterate 2 refine W.seq ?_
   refine W.region ?_
   refine pE rfl ?_
   refine WO.nil (qs (W.block ?_))
   refine ownNilR (d := 3) rfl rfl ?_
   refine W.loopR (ι := {x : Nat × List ByteArray // match x with | (k, acc) => k ≤ s.items.length ∧ acc = (s.items.take k).map itemB})
    (fun x => match x.1 with | (k, acc) => [(1, .ptr 0 0), (3, .own 1 (acc.map sc)), (4, .d (.v (.int .i64 ((k : Nat) : Int))))]) []
    (fun x => match x.1 with | (k, acc) => []) [(0, _)] [1] 2 (fun x => match x.1 with | (k, acc) => s.items.length - k)
    [0, 1] ⟨(0, []), ?_⟩ rfl ?_ trivial ?_ ⟨rfl, rfl, trivial⟩ rfl ?_
   · exact ⟨Nat.zero_le _, rfl⟩
   · repeat' first | exact trivial | refine ⟨rfl, ?_⟩ | refine ⟨step_nat (by assumption) (by assumption), ?_⟩
   · repeat' first | exact trivial | refine ⟨rfl, ?_⟩ | refine ⟨step_nat (by assumption) (by assumption), ?_⟩
   rintro ⟨⟨k, acc⟩, hk, hA⟩
   show W _ _ _ _ _ ⟨[(1, .ptr 0 0), (3, .own 1 (acc.map sc)), (4, .d (.v (.int .i64 ((k : Nat) : Int))))], [(0, _)], [1], 2⟩
   iterate 2 refine W.seq ?_
   refine W.region ?_
   iterate 2 refine pE rfl ?_
   first | refine pE rfl ?_ | refine pR rfl rfl rfl rfl rfl ?_ | refine pB rfl rfl rfl rfl rfl rfl ?_
   iterate 2 refine pE rfl ?_
   refine WO.nil (qs ?_)
   refine eachR (l := s.items) (k := k) rfl (by simp [Ex.kc_len, bytes_len]) hk (fun x hx hd hlt => ?_) (fun he hd => ?_)
   ·
    have hxm := List.mem_of_getElem? hx
    have hok := hit x hxm
    have c3 := expr_size hok.1
    have hfx := full_fn x.e hok.2.1 (by have c1 := hok.1; unfold exprErr at c1; split at c1; cases c1; omega)
    have hns := ident_size hok.2.2
    have hal : acc.length ≤ 16 := by rw [hA, List.length_map, List.length_take]; omega
    refine W.skip (qs (W.seq (W.block ?_)))
    refine W.regionL tab [] [] [] [] 17 (by kernel_rfl) (by kernel_rfl) rfl rfl ?_
    refine' cdPu' (ev tab rfl) ?p_1 rfl rfl rfl (by kernel_rfl) rfl ?h_1
    case' h_1 => skip
    case p_1 => refine ⟨fun ha => (alwNo ha (by kernel_rfl)).elim, ?_⟩ <;> intro ha <;> first | exact ⟨ev tab rfl, fun h => nomatch h⟩ | exact (alwNo ha (by kernel_rfl)).elim
    refine' cdPu' (ev tab rfl) ?p_2 rfl rfl rfl (by kernel_rfl) rfl ?h_2
    case' h_2 => skip
    case p_2 => refine ⟨fun ha => (alwNo ha (by kernel_rfl)).elim, ?_⟩ <;> intro ha <;> first | exact ⟨ev tab rfl, fun h => nomatch h⟩ | exact (alwNo ha (by kernel_rfl)).elim
    first | (refine' cdPu' (ev tab rfl) ?p_3 rfl rfl rfl (by kernel_rfl) rfl ?h_3) | (refine' cdPu' (loadRow tab rfl rfl rfl rfl) ?p_3 rfl rfl rfl (by kernel_rfl) rfl ?h_3) | (refine' cdPu' (loadBox tab rfl rfl rfl rfl rfl) ?p_3 rfl rfl rfl (by kernel_rfl) rfl ?h_3)
    case' h_3 => skip
    case p_3 => refine ⟨fun ha => (alwNo ha (by kernel_rfl)).elim, ?_⟩ <;> intro ha <;> first | exact ⟨ev tab rfl, fun h => nomatch h⟩ | exact ⟨loadRow tab rfl rfl rfl rfl, fun h => nomatch h⟩ | exact ⟨loadBox tab rfl rfl rfl rfl rfl, fun h => nomatch h⟩ | exact (alwNo ha (by kernel_rfl)).elim
    refine' cdPu' (ev tab rfl) ?p_4 rfl rfl rfl (by kernel_rfl) rfl ?h_4
    case' h_4 => skip
    case p_4 => refine ⟨fun ha => (alwNo ha (by kernel_rfl)).elim, ?_⟩ <;> intro ha <;> first | exact ⟨ev tab rfl, fun h => nomatch h⟩ | exact (alwNo ha (by kernel_rfl)).elim
    refine' cdPu' (indexAddr (l := x.c) tab rfl rfl rfl rfl rfl rfl (Int.natCast_nonneg _) (idx_map (f := Itm.c) hx) rfl) ?p_5 rfl rfl rfl (by kernel_rfl) rfl ?h_5
    case' h_5 => skip
    case p_5 => refine ⟨fun ha => (alwNo ha (by kernel_rfl)).elim, ?_⟩ <;> intro ha <;> first | exact ⟨indexAddr (l := x.c) tab rfl rfl rfl rfl rfl rfl (Int.natCast_nonneg _) (idx_map (f := Itm.c) hx) rfl, fun h => nomatch h⟩ | exact (alwNo ha (by kernel_rfl)).elim
    refine' cdPu' (ev tab rfl) ?p_6 rfl rfl rfl (by kernel_rfl) rfl ?h_6
    case' h_6 => skip
    case p_6 => refine ⟨fun ha => (alwNo ha (by kernel_rfl)).elim, ?_⟩ <;> intro ha <;> first | exact ⟨ev tab rfl, fun h => nomatch h⟩ | exact (alwNo ha (by kernel_rfl)).elim
    first | (refine' cdPu' (ev tab rfl) ?p_7 rfl rfl rfl (by kernel_rfl) rfl ?h_7) | (refine' cdPu' (loadRow tab rfl rfl rfl rfl) ?p_7 rfl rfl rfl (by kernel_rfl) rfl ?h_7) | (refine' cdPu' (loadBox tab rfl rfl rfl rfl rfl) ?p_7 rfl rfl rfl (by kernel_rfl) rfl ?h_7)
    case' h_7 => skip
    case p_7 => refine ⟨fun ha => (alwNo ha (by kernel_rfl)).elim, ?_⟩ <;> intro ha <;> first | exact ⟨ev tab rfl, fun h => nomatch h⟩ | exact ⟨loadRow tab rfl rfl rfl rfl, fun h => nomatch h⟩ | exact ⟨loadBox tab rfl rfl rfl rfl rfl, fun h => nomatch h⟩ | exact (alwNo ha (by kernel_rfl)).elim
    refine' cdPu' (puCall rfl rfl rfl hfx rfl) ?p_8 rfl rfl rfl (by kernel_rfl) rfl ?h_8
    case' h_8 => skip
    case p_8 => refine ⟨fun ha => (alwNo ha (by kernel_rfl)).elim, ?_⟩ <;> intro ha <;> first | exact ⟨puCall rfl rfl rfl hfx rfl, fun h => nomatch h⟩ | exact (alwNo ha (by kernel_rfl)).elim
    refine' cdPu' (strAdd rfl rfl (by show (fullB x.e).size + 4 ≤ _; omega)) ?p_9 rfl rfl rfl (by kernel_rfl) rfl ?h_9
    case' h_9 => skip
    case p_9 => refine ⟨fun ha => (alwNo ha (by kernel_rfl)).elim, ?_⟩ <;> intro ha <;> first | exact ⟨strAdd rfl rfl (by show (fullB x.e).size + 4 ≤ _; omega), fun h => nomatch h⟩ | exact (alwNo ha (by kernel_rfl)).elim
    refine' cdPu' (ev tab rfl) ?p_10 rfl rfl rfl (by kernel_rfl) rfl ?h_10
    case' h_10 => skip
    case p_10 => refine ⟨fun ha => (alwNo ha (by kernel_rfl)).elim, ?_⟩ <;> intro ha <;> first | exact ⟨ev tab rfl, fun h => nomatch h⟩ | exact (alwNo ha (by kernel_rfl)).elim
    first | (refine' cdPu' (ev tab rfl) ?p_11 rfl rfl rfl (by kernel_rfl) rfl ?h_11) | (refine' cdPu' (loadRow tab rfl rfl rfl rfl) ?p_11 rfl rfl rfl (by kernel_rfl) rfl ?h_11) | (refine' cdPu' (loadBox tab rfl rfl rfl rfl rfl) ?p_11 rfl rfl rfl (by kernel_rfl) rfl ?h_11)
    case' h_11 => skip
    case p_11 => refine ⟨fun ha => (alwNo ha (by kernel_rfl)).elim, ?_⟩ <;> intro ha <;> first | exact ⟨ev tab rfl, fun h => nomatch h⟩ | exact ⟨loadRow tab rfl rfl rfl rfl, fun h => nomatch h⟩ | exact ⟨loadBox tab rfl rfl rfl rfl rfl, fun h => nomatch h⟩ | exact (alwNo ha (by kernel_rfl)).elim
    refine' cdPu' (ev tab rfl) ?p_12 rfl rfl rfl (by kernel_rfl) rfl ?h_12
    case' h_12 => skip
    case p_12 => refine ⟨fun ha => (alwNo ha (by kernel_rfl)).elim, ?_⟩ <;> intro ha <;> first | exact ⟨ev tab rfl, fun h => nomatch h⟩ | exact (alwNo ha (by kernel_rfl)).elim
    refine' cdPu' (indexAddr (l := x.c) tab rfl rfl rfl rfl rfl rfl (Int.natCast_nonneg _) (idx_map (f := Itm.c) hx) rfl) ?p_13 rfl rfl rfl (by kernel_rfl) rfl ?h_13
    case' h_13 => skip
    case p_13 => refine ⟨fun ha => (alwNo ha (by kernel_rfl)).elim, ?_⟩ <;> intro ha <;> first | exact ⟨indexAddr (l := x.c) tab rfl rfl rfl rfl rfl rfl (Int.natCast_nonneg _) (idx_map (f := Itm.c) hx) rfl, fun h => nomatch h⟩ | exact (alwNo ha (by kernel_rfl)).elim
    refine' cdPu' (ev tab rfl) ?p_14 rfl rfl rfl (by kernel_rfl) rfl ?h_14
    case' h_14 => skip
    case p_14 => refine ⟨fun ha => (alwNo ha (by kernel_rfl)).elim, ?_⟩ <;> intro ha <;> first | exact ⟨ev tab rfl, fun h => nomatch h⟩ | exact (alwNo ha (by kernel_rfl)).elim
    first | (refine' cdPu' (ev tab rfl) ?p_15 rfl rfl rfl (by kernel_rfl) rfl ?h_15) | (refine' cdPu' (loadRow tab rfl rfl rfl rfl) ?p_15 rfl rfl rfl (by kernel_rfl) rfl ?h_15) | (refine' cdPu' (loadBox tab rfl rfl rfl rfl rfl) ?p_15 rfl rfl rfl (by kernel_rfl) rfl ?h_15)
    case' h_15 => skip
    case p_15 => refine ⟨fun ha => (alwNo ha (by kernel_rfl)).elim, ?_⟩ <;> intro ha <;> first | exact ⟨ev tab rfl, fun h => nomatch h⟩ | exact ⟨loadRow tab rfl rfl rfl rfl, fun h => nomatch h⟩ | exact ⟨loadBox tab rfl rfl rfl rfl rfl, fun h => nomatch h⟩ | exact (alwNo ha (by kernel_rfl)).elim
    refine' cdPu' (strAdd rfl rfl (by rw [ByteArray.size_append]; show (fullB x.e).size + 4 + x.name.size ≤ _; omega)) ?p_16 rfl rfl rfl (by kernel_rfl) rfl ?h_16
    case' h_16 => skip
    case p_16 => refine ⟨fun ha => (alwNo ha (by kernel_rfl)).elim, ?_⟩ <;> intro ha <;> first | exact ⟨strAdd rfl rfl (by rw [ByteArray.size_append]; show (fullB x.e).size + 4 + x.name.size ≤ _; omega), fun h => nomatch h⟩ | exact (alwNo ha (by kernel_rfl)).elim
    refine' cdPu' (buildV tab rfl rfl rfl rfl rfl rfl rfl rfl rfl) ?p_17 rfl rfl rfl (by kernel_rfl) rfl ?h_17
    case' h_17 => skip
    case p_17 => refine ⟨fun ha => (alwNo ha (by kernel_rfl)).elim, ?_⟩ <;> intro ha <;> first | exact ⟨buildV tab rfl rfl rfl rfl rfl rfl rfl rfl rfl, fun h => nomatch h⟩ | exact (alwNo ha (by kernel_rfl)).elim
    refine CD.nil ?_ rfl
    refine appendM (fn := sc) (a := itemB x) tab rfl rfl rfl rfl rfl rfl rfl rfl rfl rfl (fun _ => rfl) (by show (acc.length + 1) * 16 ≤ _; omega) ?_
    refine pE rfl ?_
    refine WO.nil (qbN (qs (W.region ?_)))
    iterate 3 refine pE rfl ?_
    refine WO.nil ?_
    refine W.endR [0, 2] ⟨(k + 1, acc ++ [itemB x]), ?_⟩ ?_ rfl ?_ trivial ?_ ⟨rfl, rfl, trivial⟩ rfl
    · exact ⟨hlt, take_map hx hA⟩
    · dsimp only; omega
    · repeat' first | exact trivial | refine ⟨rfl, ?_⟩ | refine ⟨step_nat (by assumption) (by assumption), ?_⟩
    · repeat' first | exact trivial | refine ⟨rfl, ?_⟩ | refine ⟨step_nat (by assumption) (by assumption), ?_⟩
   ·
    have hA2 : acc = s.items.map itemB := by rw [hA, List.take_of_length_le (by omega)]
    subst hA2
    refine W.exit (qsExit (qlExit (qbExit (qs (W.seq (W.region ?_))))))
    refine pE rfl ?_
    refine pu (puCall rfl rfl rfl hfI rfl) rfl ?_
    refine pu (strAdd rfl rfl (by show 7 + _ ≤ _; omega)) rfl ?_
    refine pE rfl ?_
    refine WO.nil (qs (W.ret (qbRet (qsRet ?_))))
    refine QF.ret0 trivial rfl ?_
    rw [hp]; rfl
  ·
   have e2 : ¬ s.op = 2 := of_decide_eq_false h15
   refine W.seq (W.region ?_)
   iterate 2 refine pE rfl ?_
   refine WO.nil (qs ?_)
   refine condK rfl (fun h45 => ?_) (fun h45 => ?_)
   ·
    have e3 : s.op = 3 := of_decide_eq_true h45
    have hp : stepB s = if s.aggs.length = 0 then tGroup ++ joinG s.cols else tGroup ++ joinG s.cols ++ tCol ++ joinG (s.aggs.map aggB) := by unfold stepB; rw [if_neg e1, if_neg e2, if_pos e3]
    iterate 2 refine W.seq ?_
    refine W.region ?_
    refine pE rfl ?_
    refine WO.nil (qs (W.block ?_))
    refine ownNilR (d := 3) rfl rfl ?_
    refine W.loopR (ι := {x : Nat × List ByteArray // match x with | (k, acc) => k ≤ s.aggs.length ∧ acc = (s.aggs.take k).map aggB})
     (fun x => match x.1 with | (k, acc) => [(1, .ptr 0 0), (3, .own 1 (acc.map sc)), (5, .d (.v (.int .i64 ((k : Nat) : Int))))]) []
     (fun x => match x.1 with | (k, acc) => []) [(0, _)] [1] 2 (fun x => match x.1 with | (k, acc) => s.aggs.length - k)
     [0, 1] ⟨(0, []), ?_⟩ rfl ?_ trivial ?_ ⟨rfl, rfl, trivial⟩ rfl ?_
    · exact ⟨Nat.zero_le _, rfl⟩
    · repeat' first | exact trivial | refine ⟨rfl, ?_⟩ | refine ⟨step_nat (by assumption) (by assumption), ?_⟩
    · repeat' first | exact trivial | refine ⟨rfl, ?_⟩ | refine ⟨step_nat (by assumption) (by assumption), ?_⟩
    rintro ⟨⟨k, acc⟩, hk, hA⟩
    show W _ _ _ _ _ ⟨[(1, .ptr 0 0), (3, .own 1 (acc.map sc)), (5, .d (.v (.int .i64 ((k : Nat) : Int))))], [(0, _)], [1], 2⟩
    iterate 2 refine W.seq ?_
    refine W.region ?_
    iterate 2 refine pE rfl ?_
    first | refine pE rfl ?_ | refine pR rfl rfl rfl rfl rfl ?_ | refine pB rfl rfl rfl rfl rfl rfl ?_
    iterate 2 refine pE rfl ?_
    refine WO.nil (qs ?_)
    refine eachR (l := s.aggs) (k := k) rfl (by simp [Ex.kc_len, bytes_len]) hk (fun x hx hd hlt => ?_) (fun he hd => ?_)
    ·
     have hxm := List.mem_of_getElem? hx
     obtain ⟨z1, z2, z3, _⟩ := agg_size (hag x hxm)
     have hal : acc.length ≤ 16 := by rw [hA, List.length_map, List.length_take]; omega
     refine W.skip (qs (W.seq (W.block ?_)))
     refine W.regionL tab [] [] [] [] 24 (by kernel_rfl) (by kernel_rfl) rfl rfl ?_
     refine' cdPu' (ev tab rfl) ?p_18 rfl rfl rfl (by kernel_rfl) rfl ?h_18
     case' h_18 => skip
     case p_18 => refine ⟨fun ha => (alwNo ha (by kernel_rfl)).elim, ?_⟩ <;> intro ha <;> first | exact ⟨ev tab rfl, fun h => nomatch h⟩ | exact (alwNo ha (by kernel_rfl)).elim
     refine' cdPu' (ev tab rfl) ?p_19 rfl rfl rfl (by kernel_rfl) rfl ?h_19
     case' h_19 => skip
     case p_19 => refine ⟨fun ha => (alwNo ha (by kernel_rfl)).elim, ?_⟩ <;> intro ha <;> first | exact ⟨ev tab rfl, fun h => nomatch h⟩ | exact (alwNo ha (by kernel_rfl)).elim
     first | (refine' cdPu' (ev tab rfl) ?p_20 rfl rfl rfl (by kernel_rfl) rfl ?h_20) | (refine' cdPu' (loadRow tab rfl rfl rfl rfl) ?p_20 rfl rfl rfl (by kernel_rfl) rfl ?h_20) | (refine' cdPu' (loadBox tab rfl rfl rfl rfl rfl) ?p_20 rfl rfl rfl (by kernel_rfl) rfl ?h_20)
     case' h_20 => skip
     case p_20 => refine ⟨fun ha => (alwNo ha (by kernel_rfl)).elim, ?_⟩ <;> intro ha <;> first | exact ⟨ev tab rfl, fun h => nomatch h⟩ | exact ⟨loadRow tab rfl rfl rfl rfl, fun h => nomatch h⟩ | exact ⟨loadBox tab rfl rfl rfl rfl rfl, fun h => nomatch h⟩ | exact (alwNo ha (by kernel_rfl)).elim
     refine' cdPu' (ev tab rfl) ?p_21 rfl rfl rfl (by kernel_rfl) rfl ?h_21
     case' h_21 => skip
     case p_21 => refine ⟨fun ha => (alwNo ha (by kernel_rfl)).elim, ?_⟩ <;> intro ha <;> first | exact ⟨ev tab rfl, fun h => nomatch h⟩ | exact (alwNo ha (by kernel_rfl)).elim
     refine' cdPu' (indexAddr (l := x.c) tab rfl rfl rfl rfl rfl rfl (Int.natCast_nonneg _) (idx_map (f := Agr.c) hx) rfl) ?p_22 rfl rfl rfl (by kernel_rfl) rfl ?h_22
     case' h_22 => skip
     case p_22 => refine ⟨fun ha => (alwNo ha (by kernel_rfl)).elim, ?_⟩ <;> intro ha <;> first | exact ⟨indexAddr (l := x.c) tab rfl rfl rfl rfl rfl rfl (Int.natCast_nonneg _) (idx_map (f := Agr.c) hx) rfl, fun h => nomatch h⟩ | exact (alwNo ha (by kernel_rfl)).elim
     refine' cdPu' (ev tab rfl) ?p_23 rfl rfl rfl (by kernel_rfl) rfl ?h_23
     case' h_23 => skip
     case p_23 => refine ⟨fun ha => (alwNo ha (by kernel_rfl)).elim, ?_⟩ <;> intro ha <;> first | exact ⟨ev tab rfl, fun h => nomatch h⟩ | exact (alwNo ha (by kernel_rfl)).elim
     first | (refine' cdPu' (ev tab rfl) ?p_24 rfl rfl rfl (by kernel_rfl) rfl ?h_24) | (refine' cdPu' (loadRow tab rfl rfl rfl rfl) ?p_24 rfl rfl rfl (by kernel_rfl) rfl ?h_24) | (refine' cdPu' (loadBox tab rfl rfl rfl rfl rfl) ?p_24 rfl rfl rfl (by kernel_rfl) rfl ?h_24)
     case' h_24 => skip
     case p_24 => refine ⟨fun ha => (alwNo ha (by kernel_rfl)).elim, ?_⟩ <;> intro ha <;> first | exact ⟨ev tab rfl, fun h => nomatch h⟩ | exact ⟨loadRow tab rfl rfl rfl rfl, fun h => nomatch h⟩ | exact ⟨loadBox tab rfl rfl rfl rfl rfl, fun h => nomatch h⟩ | exact (alwNo ha (by kernel_rfl)).elim
     refine' cdPu' (strAdd rfl rfl (by show x.fn.size + 1 ≤ _; omega)) ?p_25 rfl rfl rfl (by kernel_rfl) rfl ?h_25
     case' h_25 => skip
     case p_25 => refine ⟨fun ha => (alwNo ha (by kernel_rfl)).elim, ?_⟩ <;> intro ha <;> first | exact ⟨strAdd rfl rfl (by show x.fn.size + 1 ≤ _; omega), fun h => nomatch h⟩ | exact (alwNo ha (by kernel_rfl)).elim
     refine' cdPu' (ev tab rfl) ?p_26 rfl rfl rfl (by kernel_rfl) rfl ?h_26
     case' h_26 => skip
     case p_26 => refine ⟨fun ha => (alwNo ha (by kernel_rfl)).elim, ?_⟩ <;> intro ha <;> first | exact ⟨ev tab rfl, fun h => nomatch h⟩ | exact (alwNo ha (by kernel_rfl)).elim
     first | (refine' cdPu' (ev tab rfl) ?p_27 rfl rfl rfl (by kernel_rfl) rfl ?h_27) | (refine' cdPu' (loadRow tab rfl rfl rfl rfl) ?p_27 rfl rfl rfl (by kernel_rfl) rfl ?h_27) | (refine' cdPu' (loadBox tab rfl rfl rfl rfl rfl) ?p_27 rfl rfl rfl (by kernel_rfl) rfl ?h_27)
     case' h_27 => skip
     case p_27 => refine ⟨fun ha => (alwNo ha (by kernel_rfl)).elim, ?_⟩ <;> intro ha <;> first | exact ⟨ev tab rfl, fun h => nomatch h⟩ | exact ⟨loadRow tab rfl rfl rfl rfl, fun h => nomatch h⟩ | exact ⟨loadBox tab rfl rfl rfl rfl rfl, fun h => nomatch h⟩ | exact (alwNo ha (by kernel_rfl)).elim
     refine' cdPu' (ev tab rfl) ?p_28 rfl rfl rfl (by kernel_rfl) rfl ?h_28
     case' h_28 => skip
     case p_28 => refine ⟨fun ha => (alwNo ha (by kernel_rfl)).elim, ?_⟩ <;> intro ha <;> first | exact ⟨ev tab rfl, fun h => nomatch h⟩ | exact (alwNo ha (by kernel_rfl)).elim
     refine' cdPu' (indexAddr (l := x.c) tab rfl rfl rfl rfl rfl rfl (Int.natCast_nonneg _) (idx_map (f := Agr.c) hx) rfl) ?p_29 rfl rfl rfl (by kernel_rfl) rfl ?h_29
     case' h_29 => skip
     case p_29 => refine ⟨fun ha => (alwNo ha (by kernel_rfl)).elim, ?_⟩ <;> intro ha <;> first | exact ⟨indexAddr (l := x.c) tab rfl rfl rfl rfl rfl rfl (Int.natCast_nonneg _) (idx_map (f := Agr.c) hx) rfl, fun h => nomatch h⟩ | exact (alwNo ha (by kernel_rfl)).elim
     refine' cdPu' (ev tab rfl) ?p_30 rfl rfl rfl (by kernel_rfl) rfl ?h_30
     case' h_30 => skip
     case p_30 => refine ⟨fun ha => (alwNo ha (by kernel_rfl)).elim, ?_⟩ <;> intro ha <;> first | exact ⟨ev tab rfl, fun h => nomatch h⟩ | exact (alwNo ha (by kernel_rfl)).elim
     first | (refine' cdPu' (ev tab rfl) ?p_31 rfl rfl rfl (by kernel_rfl) rfl ?h_31) | (refine' cdPu' (loadRow tab rfl rfl rfl rfl) ?p_31 rfl rfl rfl (by kernel_rfl) rfl ?h_31) | (refine' cdPu' (loadBox tab rfl rfl rfl rfl rfl) ?p_31 rfl rfl rfl (by kernel_rfl) rfl ?h_31)
     case' h_31 => skip
     case p_31 => refine ⟨fun ha => (alwNo ha (by kernel_rfl)).elim, ?_⟩ <;> intro ha <;> first | exact ⟨ev tab rfl, fun h => nomatch h⟩ | exact ⟨loadRow tab rfl rfl rfl rfl, fun h => nomatch h⟩ | exact ⟨loadBox tab rfl rfl rfl rfl rfl, fun h => nomatch h⟩ | exact (alwNo ha (by kernel_rfl)).elim
     refine' cdPu' (strAdd rfl rfl (by rw [ByteArray.size_append]; show x.fn.size + 1 + x.col.size ≤ _; omega)) ?p_32 rfl rfl rfl (by kernel_rfl) rfl ?h_32
     case' h_32 => skip
     case p_32 => refine ⟨fun ha => (alwNo ha (by kernel_rfl)).elim, ?_⟩ <;> intro ha <;> first | exact ⟨strAdd rfl rfl (by rw [ByteArray.size_append]; show x.fn.size + 1 + x.col.size ≤ _; omega), fun h => nomatch h⟩ | exact (alwNo ha (by kernel_rfl)).elim
     refine' cdPu' (strAdd rfl rfl (by simp only [ByteArray.size_append]; show x.fn.size + 1 + x.col.size + 5 ≤ _; omega)) ?p_33 rfl rfl rfl (by kernel_rfl) rfl ?h_33
     case' h_33 => skip
     case p_33 => refine ⟨fun ha => (alwNo ha (by kernel_rfl)).elim, ?_⟩ <;> intro ha <;> first | exact ⟨strAdd rfl rfl (by simp only [ByteArray.size_append]; show x.fn.size + 1 + x.col.size + 5 ≤ _; omega), fun h => nomatch h⟩ | exact (alwNo ha (by kernel_rfl)).elim
     refine' cdPu' (ev tab rfl) ?p_34 rfl rfl rfl (by kernel_rfl) rfl ?h_34
     case' h_34 => skip
     case p_34 => refine ⟨fun ha => (alwNo ha (by kernel_rfl)).elim, ?_⟩ <;> intro ha <;> first | exact ⟨ev tab rfl, fun h => nomatch h⟩ | exact (alwNo ha (by kernel_rfl)).elim
     first | (refine' cdPu' (ev tab rfl) ?p_35 rfl rfl rfl (by kernel_rfl) rfl ?h_35) | (refine' cdPu' (loadRow tab rfl rfl rfl rfl) ?p_35 rfl rfl rfl (by kernel_rfl) rfl ?h_35) | (refine' cdPu' (loadBox tab rfl rfl rfl rfl rfl) ?p_35 rfl rfl rfl (by kernel_rfl) rfl ?h_35)
     case' h_35 => skip
     case p_35 => refine ⟨fun ha => (alwNo ha (by kernel_rfl)).elim, ?_⟩ <;> intro ha <;> first | exact ⟨ev tab rfl, fun h => nomatch h⟩ | exact ⟨loadRow tab rfl rfl rfl rfl, fun h => nomatch h⟩ | exact ⟨loadBox tab rfl rfl rfl rfl rfl, fun h => nomatch h⟩ | exact (alwNo ha (by kernel_rfl)).elim
     refine' cdPu' (ev tab rfl) ?p_36 rfl rfl rfl (by kernel_rfl) rfl ?h_36
     case' h_36 => skip
     case p_36 => refine ⟨fun ha => (alwNo ha (by kernel_rfl)).elim, ?_⟩ <;> intro ha <;> first | exact ⟨ev tab rfl, fun h => nomatch h⟩ | exact (alwNo ha (by kernel_rfl)).elim
     refine' cdPu' (indexAddr (l := x.c) tab rfl rfl rfl rfl rfl rfl (Int.natCast_nonneg _) (idx_map (f := Agr.c) hx) rfl) ?p_37 rfl rfl rfl (by kernel_rfl) rfl ?h_37
     case' h_37 => skip
     case p_37 => refine ⟨fun ha => (alwNo ha (by kernel_rfl)).elim, ?_⟩ <;> intro ha <;> first | exact ⟨indexAddr (l := x.c) tab rfl rfl rfl rfl rfl rfl (Int.natCast_nonneg _) (idx_map (f := Agr.c) hx) rfl, fun h => nomatch h⟩ | exact (alwNo ha (by kernel_rfl)).elim
     refine' cdPu' (ev tab rfl) ?p_38 rfl rfl rfl (by kernel_rfl) rfl ?h_38
     case' h_38 => skip
     case p_38 => refine ⟨fun ha => (alwNo ha (by kernel_rfl)).elim, ?_⟩ <;> intro ha <;> first | exact ⟨ev tab rfl, fun h => nomatch h⟩ | exact (alwNo ha (by kernel_rfl)).elim
     first | (refine' cdPu' (ev tab rfl) ?p_39 rfl rfl rfl (by kernel_rfl) rfl ?h_39) | (refine' cdPu' (loadRow tab rfl rfl rfl rfl) ?p_39 rfl rfl rfl (by kernel_rfl) rfl ?h_39) | (refine' cdPu' (loadBox tab rfl rfl rfl rfl rfl) ?p_39 rfl rfl rfl (by kernel_rfl) rfl ?h_39)
     case' h_39 => skip
     case p_39 => refine ⟨fun ha => (alwNo ha (by kernel_rfl)).elim, ?_⟩ <;> intro ha <;> first | exact ⟨ev tab rfl, fun h => nomatch h⟩ | exact ⟨loadRow tab rfl rfl rfl rfl, fun h => nomatch h⟩ | exact ⟨loadBox tab rfl rfl rfl rfl rfl, fun h => nomatch h⟩ | exact (alwNo ha (by kernel_rfl)).elim
     refine' cdPu' (strAdd rfl rfl (by simp only [ByteArray.size_append]; show x.fn.size + 1 + x.col.size + 5 + x.name.size ≤ _; omega)) ?p_40 rfl rfl rfl (by kernel_rfl) rfl ?h_40
     case' h_40 => skip
     case p_40 => refine ⟨fun ha => (alwNo ha (by kernel_rfl)).elim, ?_⟩ <;> intro ha <;> first | exact ⟨strAdd rfl rfl (by simp only [ByteArray.size_append]; show x.fn.size + 1 + x.col.size + 5 + x.name.size ≤ _; omega), fun h => nomatch h⟩ | exact (alwNo ha (by kernel_rfl)).elim
     refine' cdPu' (buildV tab rfl rfl rfl rfl rfl rfl rfl rfl rfl) ?p_41 rfl rfl rfl (by kernel_rfl) rfl ?h_41
     case' h_41 => skip
     case p_41 => refine ⟨fun ha => (alwNo ha (by kernel_rfl)).elim, ?_⟩ <;> intro ha <;> first | exact ⟨buildV tab rfl rfl rfl rfl rfl rfl rfl rfl rfl, fun h => nomatch h⟩ | exact (alwNo ha (by kernel_rfl)).elim
     refine CD.nil ?_ rfl
     refine appendM (fn := sc) (a := aggB x) tab rfl rfl rfl rfl rfl rfl rfl rfl rfl rfl (fun _ => rfl) (by show (acc.length + 1) * 16 ≤ _; omega) ?_
     refine pE rfl ?_
     refine WO.nil (qbN (qs (W.region ?_)))
     iterate 3 refine pE rfl ?_
     refine WO.nil ?_
     refine W.endR [0, 2] ⟨(k + 1, acc ++ [aggB x]), ?_⟩ ?_ rfl ?_ trivial ?_ ⟨rfl, rfl, trivial⟩ rfl
     · exact ⟨hlt, take_map hx hA⟩
     · dsimp only; omega
     · repeat' first | exact trivial | refine ⟨rfl, ?_⟩ | refine ⟨step_nat (by assumption) (by assumption), ?_⟩
     · repeat' first | exact trivial | refine ⟨rfl, ?_⟩ | refine ⟨step_nat (by assumption) (by assumption), ?_⟩
    ·
     have hA2 : acc = s.aggs.map aggB := by rw [hA, List.take_of_length_le (by omega)]
     subst hA2
     refine W.exit (qsExit (qlExit (qbExit (qs ?_))))
     iterate 2 refine W.seq ?_
     refine W.region ?_
     iterate 3 refine pE rfl ?_
     refine WO.nil (qs ?_)
     refine condK rfl (fun h81 => ?_) (fun h81 => ?_)
     ·
      have hz : s.aggs.length = 0 := by simpa using h81
      rw [if_pos hz] at hp
      refine W.seq (W.region ?_)
      refine pE rfl ?_
      first | refine pE rfl ?_ | refine pR rfl rfl rfl rfl rfl ?_ | refine pB rfl rfl rfl rfl rfl rfl ?_
      refine pu (puCall rfl rfl rfl hjcf rfl) rfl ?_
      refine pu (strAdd rfl rfl (by show 6 + _ ≤ _; omega)) rfl ?_
      refine pE rfl ?_
      refine WO.nil (qs (W.ret (qsRet (qbRet (qsRet ?_)))))
      refine QF.ret0 trivial rfl ?_
      rw [hp]; rfl
     ·
      have hz : ¬ s.aggs.length = 0 := by simpa using h81
      rw [if_neg hz] at hp
      refine W.skip (qs (W.seq (W.region ?_)))
      refine pE rfl ?_
      first | refine pE rfl ?_ | refine pR rfl rfl rfl rfl rfl ?_ | refine pB rfl rfl rfl rfl rfl rfl ?_
      refine pu (puCall rfl rfl rfl hjcf rfl) rfl ?_
      refine pu (strAdd rfl rfl (by show 6 + _ ≤ _; omega)) rfl ?_
      refine pu (strAdd rfl rfl (by rw [ByteArray.size_append]; show 6 + _ + 3 ≤ _; omega)) rfl ?_
      refine pE rfl ?_
      refine pu (puCall rfl rfl rfl hfA rfl) rfl ?_
      refine pu (strAdd rfl rfl (by simp only [ByteArray.size_append]; show 6 + _ + 3 + _ ≤ _; omega)) rfl ?_
      refine pE rfl ?_
      refine WO.nil (qs (W.ret (qbRet (qsRet ?_))))
      refine QF.ret0 trivial rfl ?_
      rw [hp]; rfl
   ·
    have e3 : ¬ s.op = 3 := of_decide_eq_false h45
    refine W.seq (W.region ?_)
    iterate 2 refine pE rfl ?_
    refine WO.nil (qs ?_)
    refine condK rfl (fun h94 => ?_) (fun h94 => ?_)
    ·
     have e4 : s.op = 4 := of_decide_eq_true h94
     have hp : stepB s = tSort ++ joinG (s.sorts.map sortB) := by unfold stepB; rw [if_neg e1, if_neg e2, if_neg e3, if_pos e4]
     iterate 2 refine W.seq ?_
     refine W.region ?_
     refine pE rfl ?_
     refine WO.nil (qs (W.block ?_))
     refine ownNilR (d := 3) rfl rfl ?_
     refine W.loopR (ι := {x : Nat × List ByteArray // match x with | (k, acc) => k ≤ s.sorts.length ∧ acc = (s.sorts.take k).map sortB})
      (fun x => match x.1 with | (k, acc) => [(1, .ptr 0 0), (3, .own 1 (acc.map sc)), (6, .d (.v (.int .i64 ((k : Nat) : Int))))]) []
      (fun x => match x.1 with | (k, acc) => []) [(0, _)] [1] 2 (fun x => match x.1 with | (k, acc) => s.sorts.length - k)
      [0, 1] ⟨(0, []), ?_⟩ rfl ?_ trivial ?_ ⟨rfl, rfl, trivial⟩ rfl ?_
     · exact ⟨Nat.zero_le _, rfl⟩
     · repeat' first | exact trivial | refine ⟨rfl, ?_⟩ | refine ⟨step_nat (by assumption) (by assumption), ?_⟩
     · repeat' first | exact trivial | refine ⟨rfl, ?_⟩ | refine ⟨step_nat (by assumption) (by assumption), ?_⟩
     rintro ⟨⟨k, acc⟩, hk, hA⟩
     show W _ _ _ _ _ ⟨[(1, .ptr 0 0), (3, .own 1 (acc.map sc)), (6, .d (.v (.int .i64 ((k : Nat) : Int))))], [(0, _)], [1], 2⟩
     iterate 2 refine W.seq ?_
     refine W.region ?_
     iterate 2 refine pE rfl ?_
     first | refine pE rfl ?_ | refine pR rfl rfl rfl rfl rfl ?_ | refine pB rfl rfl rfl rfl rfl rfl ?_
     iterate 2 refine pE rfl ?_
     refine WO.nil (qs ?_)
     refine eachR (l := s.sorts) (k := k) rfl (by simp [Ex.kc_len, bytes_len]) hk (fun x hx hd hlt => ?_) (fun he hd => ?_)
     ·
      have hxm := List.mem_of_getElem? hx
      obtain ⟨z1, _⟩ := sort_size (hso x hxm)
      have hal : acc.length ≤ 16 := by rw [hA, List.length_map, List.length_take]; omega
      refine W.skip (qs (W.seq (W.block (W.seq (W.region ?_)))))
      refine pE rfl ?_
      first | refine pE rfl ?_ | refine pR rfl rfl rfl rfl rfl ?_ | refine pB rfl rfl rfl rfl rfl rfl ?_
      refine pE rfl ?_
      refine pu (indexAddr (l := x.c) tab rfl rfl rfl rfl rfl rfl (Int.natCast_nonneg _) (idx_map (f := Srt.c) hx) rfl) rfl ?_
      refine pE rfl ?_
      first | refine pE rfl ?_ | refine pR rfl rfl rfl rfl rfl ?_ | refine pB rfl rfl rfl rfl rfl rfl ?_
      refine WO.nil (qs ?_)
      refine condK rfl (fun h108 => ?_) (fun h108 => ?_)
      ·
       have hb : sortB x = x.col ++ tDesc := by unfold sortB; rw [if_pos h108]
       have hA3 := take_map (f := sortB) hx hA
       rw [hb] at hA3
       let y : ByteArray := x.col ++ tDesc
       refine W.region ?_
       iterate 2 refine pE rfl ?_
       first | refine pE rfl ?_ | refine pR rfl rfl rfl rfl rfl ?_ | refine pB rfl rfl rfl rfl rfl rfl ?_
       refine pE rfl ?_
       refine pu (indexAddr (l := x.c) tab rfl rfl rfl rfl rfl rfl (Int.natCast_nonneg _) (idx_map (f := Srt.c) hx) rfl) rfl ?_
       refine pE rfl ?_
       first | refine pE rfl ?_ | refine pR rfl rfl rfl rfl rfl ?_ | refine pB rfl rfl rfl rfl rfl rfl ?_
       refine pu (strAdd rfl rfl (by show x.col.size + 5 ≤ _; omega)) rfl ?_
       refine pu (buildV tab rfl rfl rfl rfl rfl rfl rfl rfl rfl) rfl ?_
       refine appendM (fn := sc) (a := y) tab rfl rfl rfl rfl rfl rfl rfl rfl rfl rfl (fun _ => rfl) (by show (acc.length + 1) * 16 ≤ _; omega) ?_
       refine pE rfl ?_
       refine WO.nil (qbN (qs (W.region ?_)))
       iterate 3 refine pE rfl ?_
       refine WO.nil ?_
       refine W.endR [0, 2] ⟨(k + 1, acc ++ [y]), ?_⟩ ?_ rfl ?_ trivial ?_ ⟨rfl, rfl, trivial⟩ rfl
       · exact ⟨hlt, hA3⟩
       · dsimp only; omega
       · repeat' first | exact trivial | refine ⟨rfl, ?_⟩ | refine ⟨step_nat (by assumption) (by assumption), ?_⟩
       · repeat' first | exact trivial | refine ⟨rfl, ?_⟩ | refine ⟨step_nat (by assumption) (by assumption), ?_⟩
      ·
       have hb : sortB x = x.col := by unfold sortB; rw [if_neg (by simp [h108])]
       have hA3 := take_map (f := sortB) hx hA
       rw [hb] at hA3
       let y : ByteArray := x.col
       refine W.region ?_
       iterate 2 refine pE rfl ?_
       first | refine pE rfl ?_ | refine pR rfl rfl rfl rfl rfl ?_ | refine pB rfl rfl rfl rfl rfl rfl ?_
       refine pE rfl ?_
       refine pu (indexAddr (l := x.c) tab rfl rfl rfl rfl rfl rfl (Int.natCast_nonneg _) (idx_map (f := Srt.c) hx) rfl) rfl ?_
       refine pE rfl ?_
       first | refine pE rfl ?_ | refine pR rfl rfl rfl rfl rfl ?_ | refine pB rfl rfl rfl rfl rfl rfl ?_
       refine pu (buildV tab rfl rfl rfl rfl rfl rfl rfl rfl rfl) rfl ?_
       refine appendM (fn := sc) (a := y) tab rfl rfl rfl rfl rfl rfl rfl rfl rfl rfl (fun _ => rfl) (by show (acc.length + 1) * 16 ≤ _; omega) ?_
       refine pE rfl ?_
       refine WO.nil (qbN (qs (W.region ?_)))
       iterate 3 refine pE rfl ?_
       refine WO.nil ?_
       refine W.endR [0, 2] ⟨(k + 1, acc ++ [y]), ?_⟩ ?_ rfl ?_ trivial ?_ ⟨rfl, rfl, trivial⟩ rfl
       · exact ⟨hlt, hA3⟩
       · dsimp only; omega
       · repeat' first | exact trivial | refine ⟨rfl, ?_⟩ | refine ⟨step_nat (by assumption) (by assumption), ?_⟩
       · repeat' first | exact trivial | refine ⟨rfl, ?_⟩ | refine ⟨step_nat (by assumption) (by assumption), ?_⟩
     ·
      have hA2 : acc = s.sorts.map sortB := by rw [hA, List.take_of_length_le (by omega)]
      subst hA2
      refine W.exit (qsExit (qlExit (qbExit (qs (W.seq (W.region ?_))))))
      refine pE rfl ?_
      refine pu (puCall rfl rfl rfl hfS rfl) rfl ?_
      refine pu (strAdd rfl rfl (by show 5 + _ ≤ _; omega)) rfl ?_
      refine pE rfl ?_
      refine WO.nil (qs (W.ret (qbRet (qsRet ?_))))
      refine QF.ret0 trivial rfl ?_
      rw [hp]; rfl
    ·
     have e4 : ¬ s.op = 4 := of_decide_eq_false h94
     refine W.seq (W.region ?_)
     iterate 2 refine pE rfl ?_
     refine WO.nil (qs ?_)
     refine condK rfl (fun h131 => ?_) (fun h131 => ?_)
     ·
      have e5 : s.op = 5 := of_decide_eq_true h131
      have hp : stepB s = tLimit ++ digsB s.n := by unfold stepB; rw [if_neg e1, if_neg e2, if_neg e3, if_neg e4, if_pos e5]
      have hn5 := hn e5
      have hdg := digits_fn' (n := s.n) hn5.1 (by omega)
      have hds := digsB_size (n := s.n) hn5.1 (by omega)
      refine W.seq (W.region ?_)
      refine pE rfl ?_
      first | refine pE rfl ?_ | refine pR rfl rfl rfl rfl rfl ?_ | refine pB rfl rfl rfl rfl rfl rfl ?_
      refine pu (puCall rfl rfl rfl hdg rfl) rfl ?_
      refine pu (strAdd rfl rfl (by show 6 + _ ≤ _; omega)) rfl ?_
      refine pE rfl ?_
      refine WO.nil (qs (W.ret (qbRet (qsRet ?_))))
      refine QF.ret0 trivial rfl ?_
      rw [hp]; rfl
     ·
      have e5 : ¬ s.op = 5 := of_decide_eq_false h131
      refine W.seq (W.region ?_)
      iterate 2 refine pE rfl ?_
      refine WO.nil (qs ?_)
      refine condK rfl (fun h137 => ?_) (fun h137 => ?_)
      ·
       have e6 : s.op = 6 := of_decide_eq_true h137
       have hp : stepB s = tJoin ++ onB s := by unfold stepB; rw [if_neg e1, if_neg e2, if_neg e3, if_neg e4, if_neg e5, if_pos e6]
       refine W.seq (W.region ?_)
       first | refine pE rfl ?_ | refine pR rfl rfl rfl rfl rfl ?_ | refine pB rfl rfl rfl rfl rfl rfl ?_
       refine pu (puCall rfl rfl rfl hon rfl) rfl ?_
       refine pu (strAdd rfl rfl (by show 5 + _ ≤ _; omega)) rfl ?_
       refine pE rfl ?_
       refine WO.nil (qs (W.ret (qbRet (qsRet ?_))))
       refine QF.ret0 trivial rfl ?_
       rw [hp]; rfl
      ·
       have e6 : ¬ s.op = 6 := of_decide_eq_false h137
       refine W.seq (W.region ?_)
       iterate 2 refine pE rfl ?_
       refine WO.nil (qs ?_)
       refine condK rfl (fun h142 => ?_) (fun h142 => ?_)
       ·
        have e7 : s.op = 7 := of_decide_eq_true h142
        have hp : stepB s = tOverlap ++ onB s := by unfold stepB; rw [if_neg e1, if_neg e2, if_neg e3, if_neg e4, if_neg e5, if_neg e6, if_pos e7]
        refine W.seq (W.region ?_)
        first | refine pE rfl ?_ | refine pR rfl rfl rfl rfl rfl ?_ | refine pB rfl rfl rfl rfl rfl rfl ?_
        refine pu (puCall rfl rfl rfl hon rfl) rfl ?_
        refine pu (strAdd rfl rfl (by show 8 + _ ≤ _; omega)) rfl ?_
        refine pE rfl ?_
        refine WO.nil (qs (W.ret (qbRet (qsRet ?_))))
        refine QF.ret0 trivial rfl ?_
        rw [hp]; rfl
       ·
        have e7 : ¬ s.op = 7 := of_decide_eq_false h142
        refine W.seq (W.region ?_)
        iterate 2 refine pE rfl ?_
        refine WO.nil (qs ?_)
        refine condK rfl (fun h147 => ?_) (fun h147 => ?_)
        ·
         have e8 : s.op = 8 := of_decide_eq_true h147
         have hp : stepB s = tNearest ++ onB s := by unfold stepB; rw [if_neg e1, if_neg e2, if_neg e3, if_neg e4, if_neg e5, if_neg e6, if_neg e7, if_pos e8]
         refine W.seq (W.region ?_)
         first | refine pE rfl ?_ | refine pR rfl rfl rfl rfl rfl ?_ | refine pB rfl rfl rfl rfl rfl rfl ?_
         refine pu (puCall rfl rfl rfl hon rfl) rfl ?_
         refine pu (strAdd rfl rfl (by show 8 + _ ≤ _; omega)) rfl ?_
         refine pE rfl ?_
         refine WO.nil (qs (W.ret (qbRet (qsRet ?_))))
         refine QF.ret0 trivial rfl ?_
         rw [hp]; rfl
        ·
         have e8 : ¬ s.op = 8 := of_decide_eq_false h147
         have hp : stepB s = tCoal ++ joinG s.cols := by unfold stepB; rw [if_neg e1, if_neg e2, if_neg e3, if_neg e4, if_neg e5, if_neg e6, if_neg e7, if_neg e8]
         refine W.skip (qbN (qs (W.seq (W.region ?_))))
         refine pE rfl ?_
         first | refine pE rfl ?_ | refine pR rfl rfl rfl rfl rfl ?_ | refine pB rfl rfl rfl rfl rfl rfl ?_
         refine pu (puCall rfl rfl rfl hjcf rfl) rfl ?_
         refine pu (strAdd rfl rfl (by show 9 + _ ≤ _; omega)) rfl ?_
         refine pE rfl ?_
         refine WO.nil (qs (W.ret ?_))
         refine QF.ret0 trivial rfl ?_
         rw [hp]; rfl
end Go.Proofs.YtifeonoehfffmaaGreatDoor
namespace Go.Proofs.YtifeonoehfffmaaGreatDoor
open Go.Ab Go.Tb
set_option maxRecDepth 10000
attribute [local irreducible] W WO Pu QS QB QL QF QV QV1 CH QE
end Go.Proofs.YtifeonoehfffmaaGreatDoor
