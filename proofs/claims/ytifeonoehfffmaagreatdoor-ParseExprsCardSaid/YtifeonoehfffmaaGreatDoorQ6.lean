import Derived.Test.YtifeonoehfffmaaGreatDoorQ5
namespace Go.Proofs.YtifeonoehfffmaaGreatDoor
open Go.Ab Go.Tb
set_option maxRecDepth 10000
attribute [local irreducible] W WO Pu QS QB QL QF QV QV1 CH QE
theorem rand_fn (L : List Tk) (hw : Wf L) (hL : L.length ≤ 3000000) (one : Pr Ex) (ho : Goes L one) (d : Nat) (hone : RdR L 115 one d) : RdR L 78 (leftP L one opsAnd) d := by
 intro st h hd0
 have l1 := ho.lt st h
 have m1 := ho.mono st
 refine DoesB.of_V tab (n := 13) (rs := [.cell 2 37]) Tryz.func78 (by kernel_rfl) rfl Tryz.ntmps78 Tryz.results78 rfl rfl fun C hC hG => ?_
 refine W.seq (W.region ?_)
 refine allocR tab rfl rfl rfl ?_
 refine WO.nil (qs (W.seq (W.region ?_)))
 refine pE rfl rfl ?_
 refine callB [0] [] rfl rfl rfl rfl rfl ((hone st h hd0)) rfl rfl (by rfl) (by rfl) rfl rfl rfl rfl ?_
 refine allocR tab rfl rfl rfl ?_
 refine storeR tab rfl rfl rfl rfl rfl rfl rfl rfl ?_
 refine WO.nil (qs (W.seq (W.block ?_)))
 refine W.loopR (ι := {x : Nat × Ex × PS // match x with | (n, e, s1) => s1.1 < L.length ∧ L.length - s1.1 ≤ d ∧ L.length - s1.1 ≤ n ∧ leftGo L one opsAnd n e s1 = leftP L one opsAnd st})
  (fun x => match x.1 with | (n, e, s1) => [(0, .ptr 0 0), (2, .ptr 1 0), (3, .ptr 2 0)]) []
  (fun x => match x.1 with | (n, e, s1) => [(0, bxR L s1), (2, e.c.map A.d)]) [(1, _)] [] 3 (fun x => match x.1 with | (n, e, s1) => n)
  [0, 1, 3] ⟨(L.length, (one st).1, (one st).2), ?_⟩ rfl ?_ trivial ?_ ⟨rfl, rfl, trivial⟩ rfl ?_
 · exact ⟨l1, by omega, by omega, rfl⟩
 · repeat' first | exact trivial | refine ⟨rfl, ?_⟩ | refine ⟨step_nat (by assumption) (by assumption), ?_⟩
 · repeat' first | exact trivial | refine ⟨rfl, ?_⟩ | refine ⟨step_nat (by assumption) (by assumption), ?_⟩
 rintro ⟨⟨n, e, s1⟩, hk, hd, hn, hI⟩
 show W _ _ _ _ _ ⟨[(0, .ptr 0 0), (2, .ptr 1 0), (3, .ptr 2 0)], [(0, bxR L s1), (2, e.c.map A.d), (1, _)], [], 3⟩
 obtain ⟨n', rfl⟩ : ∃ n', n = n' + 1 := ⟨n - 1, by omega⟩
 simp only [leftGo, find_cons, find_nil] at hI
 iterate 2 refine W.seq ?_
 refine W.region ?_
 refine pE rfl rfl ?_
 refine callB [0] [] rfl rfl rfl rfl rfl ((rwd_fn L hw kwAnd rfl s1 hk hL)) rfl rfl (by rfl) (by rfl) rfl rfl rfl rfl ?_
 refine WO.nil (qs ?_)
 refine condK rfl (fun h7 => ?_) (fun h7 => ?_)
 ·
  rw [skS_yes h7]
  rw [if_pos h7] at hI
  have l2 := skB_more hw h7 hk
  have l3 := ho.lt (adv s1) l2
  have m3 : s1.1 + 1 ≤ (one (adv s1)).2.1 := ho.mono (adv s1)
  refine W.skip (qs (W.block ?_))
  apply W.regionC tab 3 2; (case hB => kernel_rfl); (case h1 => rfl); (case h2 => rfl)
  first | (refine' ccPu ?p1_1 (ev tab rfl) rfl rfl rfl rfl rfl ?h_1) | (refine' ccPu ?p1_1 (loadRow tab rfl rfl rfl rfl) rfl rfl rfl rfl rfl ?h_1) | (refine' ccPu ?p1_1 (loadBox tab rfl rfl rfl rfl rfl) rfl rfl rfl rfl rfl ?h_1)
  case' h_1 => skip
  refine' ccPu0 (ev tab rfl) rfl rfl rfl rfl rfl ?h_2
  case' h_2 => skip
  refine' ccX (fun g => ?e_3) rfl rfl rfl ?h_3
  case e_3 =>
   refine callB [0] [] rfl rfl rfl rfl rfl ((hone (adv s1) l2 (by show L.length - (s1.1 + 1) ≤ d; omega))) rfl rfl (by rfl) (by rfl) rfl rfl rfl rfl ?_
   refine WO.nil ?_
   exact ⟨rfl, rfl⟩
  case' h_3 => skip
  case p1_1 => first | (exact (ev tab rfl)) | (exact (loadRow tab rfl rfl rfl rfl)) | (exact (loadBox tab rfl rfl rfl rfl rfl))
  refine CC.nil ?_
  refine pu (puCall rfl rfl rfl ((rtwo_fn _ _ _)) rfl) rfl ?_
  refine storeR tab rfl rfl rfl rfl rfl rfl rfl rfl ?_
  refine WO.nil (qbN ?_)
  refine W.endR [0, 1, 2] ⟨(n', mk2 14 e (one (adv s1)).1, (one (adv s1)).2), ?_⟩ ?_ rfl ?_ trivial ?_ ⟨rfl, rfl, trivial⟩ rfl
  · exact ⟨l3, by omega, by omega, hI⟩
  · dsimp only; omega
  · repeat' first | exact trivial | refine ⟨rfl, ?_⟩ | refine ⟨step_nat (by assumption) (by assumption), ?_⟩
  · repeat' first | exact trivial | refine ⟨rfl, ?_⟩ | refine ⟨step_nat (by assumption) (by assumption), ?_⟩
 ·
  rw [skS_no h7]
  rw [if_neg (by simp [h7])] at hI
  refine W.exit (qsExit (qlExit (qbExit (qs (W.seq (W.region ?_))))))
  first | refine pE rfl rfl ?_ | refine pR rfl rfl rfl rfl rfl ?_ | refine pB rfl rfl rfl rfl rfl rfl ?_
  refine storeR tab rfl rfl rfl rfl rfl rfl rfl rfl ?_
  refine WO.nil (qs (W.ret ?_))
  refine QB1.end tab [] trivial rfl rfl rfl rfl ?_ ?_
  ·
   rw [← hI]
   exact ⟨rfl, trivial⟩
  rw [← hI]
  rfl
theorem ris_sg (L : List Tk) (hw : Wf L) (x : ByteArray) (hx : signX x = true) (st : PS) (h : st.1 < L.length) (hL : L.length ≤ 3000000) : DoesB Tryz.prog 66 [.ptr 0 0, .d (.v (.int .i64 4)), .d (.v (.string x))] [bxR L st] 0 (.d (.v (.bool (skB L x st)))) [bxR L st] 0 := by
 have := ris_fn L st h hL 4 x
 rw [← skB_sign hw h hx] at this
 exact this
theorem skB_one {L : List Tk} {st : PS} {x y : ByteArray} (h : skB L x st = true) (hxy : x ≠ y) : skB L y st = false := by
 unfold skB isT at h ⊢
 simp only [Bool.and_eq_true, decide_eq_true_eq] at h
 rw [h.2.2]
 simp [hxy]
theorem rsum_fn (L : List Tk) (hw : Wf L) (hL : L.length ≤ 3000000) (one : Pr Ex) (ho : Goes L one) (d : Nat) (hone : RdR L 145 one d) : RdR L 136 (leftP L one opsSum) d := by
 intro st h hd0
 have l1 := ho.lt st h
 have m1 := ho.mono st
 refine DoesB.of_V tab (n := 29) (rs := [.cell 2 37]) Tryz.func136 (by kernel_rfl) rfl Tryz.ntmps136 Tryz.results136 rfl rfl fun C hC hG => ?_
 refine W.seq (W.region ?_)
 refine allocR tab rfl rfl rfl ?_
 refine WO.nil (qs (W.seq (W.region ?_)))
 refine pE rfl rfl ?_
 refine callB [0] [] rfl rfl rfl rfl rfl ((hone st h hd0)) rfl rfl (by rfl) (by rfl) rfl rfl rfl rfl ?_
 refine allocR tab rfl rfl rfl ?_
 refine storeR tab rfl rfl rfl rfl rfl rfl rfl rfl ?_
 refine WO.nil (qs (W.seq (W.block ?_)))
 refine W.loopR (ι := {x : Nat × Ex × PS // match x with | (n, e, s1) => s1.1 < L.length ∧ L.length - s1.1 ≤ d ∧ L.length - s1.1 ≤ n ∧ leftGo L one opsSum n e s1 = leftP L one opsSum st})
  (fun x => match x.1 with | (n, e, s1) => [(0, .ptr 0 0), (2, .ptr 1 0), (3, .ptr 2 0)]) []
  (fun x => match x.1 with | (n, e, s1) => [(0, bxR L s1), (2, e.c.map A.d)]) [(1, _)] [] 3 (fun x => match x.1 with | (n, e, s1) => n)
  [0, 1, 3] ⟨(L.length, (one st).1, (one st).2), ?_⟩ rfl ?_ trivial ?_ ⟨rfl, rfl, trivial⟩ rfl ?_
 · exact ⟨l1, by omega, by omega, rfl⟩
 · repeat' first | exact trivial | refine ⟨rfl, ?_⟩ | refine ⟨step_nat (by assumption) (by assumption), ?_⟩
 · repeat' first | exact trivial | refine ⟨rfl, ?_⟩ | refine ⟨step_nat (by assumption) (by assumption), ?_⟩
 rintro ⟨⟨n, e, s1⟩, hk, hd, hn, hI⟩
 show W _ _ _ _ _ ⟨[(0, .ptr 0 0), (2, .ptr 1 0), (3, .ptr 2 0)], [(0, bxR L s1), (2, e.c.map A.d), (1, _)], [], 3⟩
 obtain ⟨n', rfl⟩ : ∃ n', n = n' + 1 := ⟨n - 1, by omega⟩
 simp only [leftGo, find_cons, find_nil] at hI
 iterate 2 refine W.seq ?_
 refine W.region ?_
 refine pE rfl rfl ?_
 refine callB [0] [] rfl rfl rfl rfl rfl ((ris_sg L hw gAdd rfl s1 hk hL)) rfl rfl (by rfl) (by rfl) rfl rfl rfl rfl ?_
 refine pE rfl rfl ?_
 refine splitG rfl rfl (fun g9 => ?_) (fun g9 => ?_)
 ·
  iterate 2 refine skipT rfl rfl rfl rfl ?_
  refine pE rfl rfl ?_
  refine WO.nil (qs ?_)
  refine W.condT rfl ?_
  refine W.skip (qs (W.block (W.seq ?_)))
  have hgo : skB L gAdd s1 = true ∨ skB L gSub s1 = true := by first | exact .inl g9 | exact .inr h12
  have l2 : s1.1 + 1 < L.length := hgo.elim (fun q => skB_more hw q hk) fun q => skB_more hw q hk
  have l3 := ho.lt (adv s1) l2
  have m3 : s1.1 + 1 ≤ (one (adv s1)).2.1 := ho.mono (adv s1)
  refine W.region ?_
  refine pE rfl rfl ?_
  refine WO.nil (qs ?_)
  iterate 2 refine W.seq ?_
  refine W.region ?_
  refine pE rfl rfl ?_
  refine callB [0] [] rfl rfl rfl rfl rfl ((ris_sg L hw gSub rfl s1 hk hL)) rfl rfl (by rfl) (by rfl) rfl rfl rfl rfl ?_
  refine WO.nil (qs ?_)
  refine condK rfl (fun h14 => ?_) (fun h14 => ?_)
  ·
   let op : Int := 6
   have hI2 : leftGo L one opsSum n' (mk2 op e (one (adv s1)).1) (one (adv s1)).2 = leftP L one opsSum st := by
    rw [if_neg (by simp [skB_one h14 (show gSub ≠ gAdd by decide)]), if_pos h14] at hI
    exact hI
   refine W.region ?_
   refine pE rfl rfl ?_
   refine WO.nil (qs (W.seq (W.region ?_)))
   iterate 4 refine pE rfl rfl ?_
   first | refine pE rfl rfl ?_ | refine pR rfl rfl rfl rfl rfl ?_ | refine pB rfl rfl rfl rfl rfl rfl ?_
   refine pu (puI (ev tab rfl) (y := ((s1.1 + 1 : Nat) : Int)) (by rw [wrap64 (by omega)]; rfl)) rfl ?_
   iterate 2 refine pE rfl rfl ?_
   refine storeR tab rfl rfl rfl rfl rfl rfl rfl rfl ?_
   refine WO.nil (qs ?_)
   apply W.regionC tab 4 3; (case hB => kernel_rfl); (case h1 => rfl); (case h2 => rfl)
   refine' ccPu ?p1_1 (ev tab rfl) rfl rfl rfl rfl rfl ?h_1
   case' h_1 => skip
   first | (refine' ccPu ?p1_2 (ev tab rfl) rfl rfl rfl rfl rfl ?h_2) | (refine' ccPu ?p1_2 (loadRow tab rfl rfl rfl rfl) rfl rfl rfl rfl rfl ?h_2) | (refine' ccPu ?p1_2 (loadBox tab rfl rfl rfl rfl rfl) rfl rfl rfl rfl rfl ?h_2)
   case' h_2 => skip
   refine' ccPu0 (ev tab rfl) rfl rfl rfl rfl rfl ?h_3
   case' h_3 => skip
   refine' ccX (fun g => ?e_4) rfl rfl rfl ?h_4
   case e_4 =>
    refine callB [0] [] rfl rfl rfl rfl rfl ((hone (adv s1) l2 (by show L.length - (s1.1 + 1) ≤ d; omega))) rfl rfl (by rfl) (by rfl) rfl rfl rfl rfl ?_
    refine WO.nil ?_
    exact ⟨rfl, rfl⟩
   case' h_4 => skip
   case p1_1 => exact (ev tab rfl)
   case p1_2 => first | (exact (ev tab rfl)) | (exact (loadRow tab rfl rfl rfl rfl)) | (exact (loadBox tab rfl rfl rfl rfl rfl))
   refine CC.nil ?_
   refine pu (puCall rfl rfl rfl ((rtwo_fn _ _ _)) rfl) rfl ?_
   refine storeR tab rfl rfl rfl rfl rfl rfl rfl rfl ?_
   refine WO.nil (qbN ?_)
   refine W.endR [0, 1, 2] ⟨(n', mk2 op e (one (adv s1)).1, (one (adv s1)).2), ?_⟩ ?_ rfl ?_ trivial ?_ ⟨rfl, rfl, trivial⟩ rfl
   · exact ⟨l3, by omega, by omega, hI2⟩
   · dsimp only; omega
   · repeat' first | exact trivial | refine ⟨rfl, ?_⟩ | refine ⟨step_nat (by assumption) (by assumption), ?_⟩
   · repeat' first | exact trivial | refine ⟨rfl, ?_⟩ | refine ⟨step_nat (by assumption) (by assumption), ?_⟩
  ·
   let op : Int := 5
   have hI2 : leftGo L one opsSum n' (mk2 op e (one (adv s1)).1) (one (adv s1)).2 = leftP L one opsSum st := by
    rw [if_pos (hgo.resolve_right (by simp [h14]))] at hI
    exact hI
   refine W.skip (qs (W.seq (W.region ?_)))
   iterate 4 refine pE rfl rfl ?_
   first | refine pE rfl rfl ?_ | refine pR rfl rfl rfl rfl rfl ?_ | refine pB rfl rfl rfl rfl rfl rfl ?_
   refine pu (puI (ev tab rfl) (y := ((s1.1 + 1 : Nat) : Int)) (by rw [wrap64 (by omega)]; rfl)) rfl ?_
   iterate 2 refine pE rfl rfl ?_
   refine storeR tab rfl rfl rfl rfl rfl rfl rfl rfl ?_
   refine WO.nil (qs ?_)
   apply W.regionC tab 4 3; (case hB => kernel_rfl); (case h1 => rfl); (case h2 => rfl)
   refine' ccPu ?p1_5 (ev tab rfl) rfl rfl rfl rfl rfl ?h_5
   case' h_5 => skip
   first | (refine' ccPu ?p1_6 (ev tab rfl) rfl rfl rfl rfl rfl ?h_6) | (refine' ccPu ?p1_6 (loadRow tab rfl rfl rfl rfl) rfl rfl rfl rfl rfl ?h_6) | (refine' ccPu ?p1_6 (loadBox tab rfl rfl rfl rfl rfl) rfl rfl rfl rfl rfl ?h_6)
   case' h_6 => skip
   refine' ccPu0 (ev tab rfl) rfl rfl rfl rfl rfl ?h_7
   case' h_7 => skip
   refine' ccX (fun g => ?e_8) rfl rfl rfl ?h_8
   case e_8 =>
    refine callB [0] [] rfl rfl rfl rfl rfl ((hone (adv s1) l2 (by show L.length - (s1.1 + 1) ≤ d; omega))) rfl rfl (by rfl) (by rfl) rfl rfl rfl rfl ?_
    refine WO.nil ?_
    exact ⟨rfl, rfl⟩
   case' h_8 => skip
   case p1_5 => exact (ev tab rfl)
   case p1_6 => first | (exact (ev tab rfl)) | (exact (loadRow tab rfl rfl rfl rfl)) | (exact (loadBox tab rfl rfl rfl rfl rfl))
   refine CC.nil ?_
   refine pu (puCall rfl rfl rfl ((rtwo_fn _ _ _)) rfl) rfl ?_
   refine storeR tab rfl rfl rfl rfl rfl rfl rfl rfl ?_
   refine WO.nil (qbN ?_)
   refine W.endR [0, 1, 2] ⟨(n', mk2 op e (one (adv s1)).1, (one (adv s1)).2), ?_⟩ ?_ rfl ?_ trivial ?_ ⟨rfl, rfl, trivial⟩ rfl
   · exact ⟨l3, by omega, by omega, hI2⟩
   · dsimp only; omega
   · repeat' first | exact trivial | refine ⟨rfl, ?_⟩ | refine ⟨step_nat (by assumption) (by assumption), ?_⟩
   · repeat' first | exact trivial | refine ⟨rfl, ?_⟩ | refine ⟨step_nat (by assumption) (by assumption), ?_⟩
 ·
  refine goG rfl rfl ?_
  refine pE rfl rfl ?_
  refine goG rfl rfl ?_
  refine callB [0] [] rfl rfl rfl rfl rfl ((ris_sg L hw gSub rfl s1 hk hL)) rfl rfl (by rfl) (by rfl) rfl rfl rfl rfl ?_
  refine pE rfl rfl ?_
  refine WO.nil (qs ?_)
  refine condK rfl (fun h12 => ?_) (fun h12 => ?_)
  ·
   refine W.skip (qs (W.block (W.seq ?_)))
   have hgo : skB L gAdd s1 = true ∨ skB L gSub s1 = true := by first | exact .inl g9 | exact .inr h12
   have l2 : s1.1 + 1 < L.length := hgo.elim (fun q => skB_more hw q hk) fun q => skB_more hw q hk
   have l3 := ho.lt (adv s1) l2
   have m3 : s1.1 + 1 ≤ (one (adv s1)).2.1 := ho.mono (adv s1)
   refine W.region ?_
   refine pE rfl rfl ?_
   refine WO.nil (qs ?_)
   iterate 2 refine W.seq ?_
   refine W.region ?_
   refine pE rfl rfl ?_
   refine callB [0] [] rfl rfl rfl rfl rfl ((ris_sg L hw gSub rfl s1 hk hL)) rfl rfl (by rfl) (by rfl) rfl rfl rfl rfl ?_
   refine WO.nil (qs ?_)
   refine condK rfl (fun h14 => ?_) (fun h14 => ?_)
   ·
    let op : Int := 6
    have hI2 : leftGo L one opsSum n' (mk2 op e (one (adv s1)).1) (one (adv s1)).2 = leftP L one opsSum st := by
     rw [if_neg (by simp [skB_one h14 (show gSub ≠ gAdd by decide)]), if_pos h14] at hI
     exact hI
    refine W.region ?_
    refine pE rfl rfl ?_
    refine WO.nil (qs (W.seq (W.region ?_)))
    iterate 4 refine pE rfl rfl ?_
    first | refine pE rfl rfl ?_ | refine pR rfl rfl rfl rfl rfl ?_ | refine pB rfl rfl rfl rfl rfl rfl ?_
    refine pu (puI (ev tab rfl) (y := ((s1.1 + 1 : Nat) : Int)) (by rw [wrap64 (by omega)]; rfl)) rfl ?_
    iterate 2 refine pE rfl rfl ?_
    refine storeR tab rfl rfl rfl rfl rfl rfl rfl rfl ?_
    refine WO.nil (qs ?_)
    apply W.regionC tab 4 3; (case hB => kernel_rfl); (case h1 => rfl); (case h2 => rfl)
    refine' ccPu ?p1_9 (ev tab rfl) rfl rfl rfl rfl rfl ?h_9
    case' h_9 => skip
    first | (refine' ccPu ?p1_10 (ev tab rfl) rfl rfl rfl rfl rfl ?h_10) | (refine' ccPu ?p1_10 (loadRow tab rfl rfl rfl rfl) rfl rfl rfl rfl rfl ?h_10) | (refine' ccPu ?p1_10 (loadBox tab rfl rfl rfl rfl rfl) rfl rfl rfl rfl rfl ?h_10)
    case' h_10 => skip
    refine' ccPu0 (ev tab rfl) rfl rfl rfl rfl rfl ?h_11
    case' h_11 => skip
    refine' ccX (fun g => ?e_12) rfl rfl rfl ?h_12
    case e_12 =>
     refine callB [0] [] rfl rfl rfl rfl rfl ((hone (adv s1) l2 (by show L.length - (s1.1 + 1) ≤ d; omega))) rfl rfl (by rfl) (by rfl) rfl rfl rfl rfl ?_
     refine WO.nil ?_
     exact ⟨rfl, rfl⟩
    case' h_12 => skip
    case p1_9 => exact (ev tab rfl)
    case p1_10 => first | (exact (ev tab rfl)) | (exact (loadRow tab rfl rfl rfl rfl)) | (exact (loadBox tab rfl rfl rfl rfl rfl))
    refine CC.nil ?_
    refine pu (puCall rfl rfl rfl ((rtwo_fn _ _ _)) rfl) rfl ?_
    refine storeR tab rfl rfl rfl rfl rfl rfl rfl rfl ?_
    refine WO.nil (qbN ?_)
    refine W.endR [0, 1, 2] ⟨(n', mk2 op e (one (adv s1)).1, (one (adv s1)).2), ?_⟩ ?_ rfl ?_ trivial ?_ ⟨rfl, rfl, trivial⟩ rfl
    · exact ⟨l3, by omega, by omega, hI2⟩
    · dsimp only; omega
    · repeat' first | exact trivial | refine ⟨rfl, ?_⟩ | refine ⟨step_nat (by assumption) (by assumption), ?_⟩
    · repeat' first | exact trivial | refine ⟨rfl, ?_⟩ | refine ⟨step_nat (by assumption) (by assumption), ?_⟩
   ·
    let op : Int := 5
    have hI2 : leftGo L one opsSum n' (mk2 op e (one (adv s1)).1) (one (adv s1)).2 = leftP L one opsSum st := by
     rw [if_pos (hgo.resolve_right (by simp [h14]))] at hI
     exact hI
    refine W.skip (qs (W.seq (W.region ?_)))
    iterate 4 refine pE rfl rfl ?_
    first | refine pE rfl rfl ?_ | refine pR rfl rfl rfl rfl rfl ?_ | refine pB rfl rfl rfl rfl rfl rfl ?_
    refine pu (puI (ev tab rfl) (y := ((s1.1 + 1 : Nat) : Int)) (by rw [wrap64 (by omega)]; rfl)) rfl ?_
    iterate 2 refine pE rfl rfl ?_
    refine storeR tab rfl rfl rfl rfl rfl rfl rfl rfl ?_
    refine WO.nil (qs ?_)
    apply W.regionC tab 4 3; (case hB => kernel_rfl); (case h1 => rfl); (case h2 => rfl)
    refine' ccPu ?p1_13 (ev tab rfl) rfl rfl rfl rfl rfl ?h_13
    case' h_13 => skip
    first | (refine' ccPu ?p1_14 (ev tab rfl) rfl rfl rfl rfl rfl ?h_14) | (refine' ccPu ?p1_14 (loadRow tab rfl rfl rfl rfl) rfl rfl rfl rfl rfl ?h_14) | (refine' ccPu ?p1_14 (loadBox tab rfl rfl rfl rfl rfl) rfl rfl rfl rfl rfl ?h_14)
    case' h_14 => skip
    refine' ccPu0 (ev tab rfl) rfl rfl rfl rfl rfl ?h_15
    case' h_15 => skip
    refine' ccX (fun g => ?e_16) rfl rfl rfl ?h_16
    case e_16 =>
     refine callB [0] [] rfl rfl rfl rfl rfl ((hone (adv s1) l2 (by show L.length - (s1.1 + 1) ≤ d; omega))) rfl rfl (by rfl) (by rfl) rfl rfl rfl rfl ?_
     refine WO.nil ?_
     exact ⟨rfl, rfl⟩
    case' h_16 => skip
    case p1_13 => exact (ev tab rfl)
    case p1_14 => first | (exact (ev tab rfl)) | (exact (loadRow tab rfl rfl rfl rfl)) | (exact (loadBox tab rfl rfl rfl rfl rfl))
    refine CC.nil ?_
    refine pu (puCall rfl rfl rfl ((rtwo_fn _ _ _)) rfl) rfl ?_
    refine storeR tab rfl rfl rfl rfl rfl rfl rfl rfl ?_
    refine WO.nil (qbN ?_)
    refine W.endR [0, 1, 2] ⟨(n', mk2 op e (one (adv s1)).1, (one (adv s1)).2), ?_⟩ ?_ rfl ?_ trivial ?_ ⟨rfl, rfl, trivial⟩ rfl
    · exact ⟨l3, by omega, by omega, hI2⟩
    · dsimp only; omega
    · repeat' first | exact trivial | refine ⟨rfl, ?_⟩ | refine ⟨step_nat (by assumption) (by assumption), ?_⟩
    · repeat' first | exact trivial | refine ⟨rfl, ?_⟩ | refine ⟨step_nat (by assumption) (by assumption), ?_⟩
  ·
   rw [if_neg (by simp [g9]), if_neg (by simp [h12])] at hI
   refine W.exit (qsExit (qlExit (qbExit (qs (W.seq (W.region ?_))))))
   first | refine pE rfl rfl ?_ | refine pR rfl rfl rfl rfl rfl ?_ | refine pB rfl rfl rfl rfl rfl rfl ?_
   refine storeR tab rfl rfl rfl rfl rfl rfl rfl rfl ?_
   refine WO.nil (qs (W.ret ?_))
   refine QB1.end tab [] trivial rfl rfl rfl rfl ?_ ?_
   ·
    rw [← hI]
    exact ⟨rfl, trivial⟩
   rw [← hI]
   rfl
theorem rprod_fn (L : List Tk) (hw : Wf L) (hL : L.length ≤ 3000000) (one : Pr Ex) (ho : Goes L one) (d : Nat) (hone : RdR L 152 one d) : RdR L 145 (leftP L one opsMul) d := by
 intro st h hd0
 have l1 := ho.lt st h
 have m1 := ho.mono st
 refine DoesB.of_V tab (n := 35) (rs := [.cell 2 37]) Tryz.func145 (by kernel_rfl) rfl Tryz.ntmps145 Tryz.results145 rfl rfl fun C hC hG => ?_
 refine W.seq (W.region ?_)
 refine allocR tab rfl rfl rfl ?_
 refine WO.nil (qs (W.seq (W.region ?_)))
 refine pE rfl rfl ?_
 refine callB [0] [] rfl rfl rfl rfl rfl ((hone st h hd0)) rfl rfl (by rfl) (by rfl) rfl rfl rfl rfl ?_
 refine allocR tab rfl rfl rfl ?_
 refine storeR tab rfl rfl rfl rfl rfl rfl rfl rfl ?_
 refine WO.nil (qs (W.seq (W.block ?_)))
 refine W.loopR (ι := {x : Nat × Ex × PS // match x with | (n, e, s1) => s1.1 < L.length ∧ L.length - s1.1 ≤ d ∧ L.length - s1.1 ≤ n ∧ leftGo L one opsMul n e s1 = leftP L one opsMul st})
  (fun x => match x.1 with | (n, e, s1) => [(0, .ptr 0 0), (2, .ptr 1 0), (3, .ptr 2 0)]) []
  (fun x => match x.1 with | (n, e, s1) => [(0, bxR L s1), (2, e.c.map A.d)]) [(1, _)] [] 3 (fun x => match x.1 with | (n, e, s1) => n)
  [0, 1, 3] ⟨(L.length, (one st).1, (one st).2), ?_⟩ rfl ?_ trivial ?_ ⟨rfl, rfl, trivial⟩ rfl ?_
 · exact ⟨l1, by omega, by omega, rfl⟩
 · repeat' first | exact trivial | refine ⟨rfl, ?_⟩ | refine ⟨step_nat (by assumption) (by assumption), ?_⟩
 · repeat' first | exact trivial | refine ⟨rfl, ?_⟩ | refine ⟨step_nat (by assumption) (by assumption), ?_⟩
 rintro ⟨⟨n, e, s1⟩, hk, hd, hn, hI⟩
 show W _ _ _ _ _ ⟨[(0, .ptr 0 0), (2, .ptr 1 0), (3, .ptr 2 0)], [(0, bxR L s1), (2, e.c.map A.d), (1, _)], [], 3⟩
 obtain ⟨n', rfl⟩ : ∃ n', n = n' + 1 := ⟨n - 1, by omega⟩
 simp only [leftGo, find_cons, find_nil] at hI
 iterate 2 refine W.seq ?_
 refine W.region ?_
 refine pE rfl rfl ?_
 refine callB [0] [] rfl rfl rfl rfl rfl ((ris_sg L hw gMul rfl s1 hk hL)) rfl rfl (by rfl) (by rfl) rfl rfl rfl rfl ?_
 refine pE rfl rfl ?_
 refine splitG rfl rfl (fun g9 => ?_) (fun g9 => ?_)
 ·
  iterate 2 refine skipT rfl rfl rfl rfl ?_
  iterate 2 refine pE rfl rfl ?_
  iterate 2 refine skipT rfl rfl rfl rfl ?_
  refine pE rfl rfl ?_
  refine WO.nil (qs ?_)
  refine W.condT rfl ?_
  refine W.skip (qs (W.block (W.seq ?_)))
  have hgo : skB L gMul s1 = true ∨ skB L gDiv s1 = true ∨ skB L gMod s1 = true := by first | exact .inl g9 | exact .inr (.inr h16) | exact .inr (.inl (by simpa using g13)) | exact .inr (.inl g13)
  have l2 : s1.1 + 1 < L.length := hgo.elim (fun q => skB_more hw q hk) fun q => q.elim (fun q => skB_more hw q hk) fun q => skB_more hw q hk
  have l3 := ho.lt (adv s1) l2
  have m3 : s1.1 + 1 ≤ (one (adv s1)).2.1 := ho.mono (adv s1)
  refine W.region ?_
  refine pE rfl rfl ?_
  refine WO.nil (qs ?_)
  iterate 2 refine W.seq ?_
  refine W.region ?_
  refine pE rfl rfl ?_
  refine callB [0] [] rfl rfl rfl rfl rfl ((ris_sg L hw gDiv rfl s1 hk hL)) rfl rfl (by rfl) (by rfl) rfl rfl rfl rfl ?_
  refine WO.nil (qs ?_)
  refine condK rfl (fun h18 => ?_) (fun h18 => ?_)
  ·
   let op1 : Int := 8
   have hop1 : op1 = if skB L gDiv s1 then 8 else 7 := by rw [if_pos h18]
   refine W.region ?_
   refine pE rfl rfl ?_
   refine WO.nil (qs ?_)
   iterate 2 refine W.seq ?_
   refine W.region ?_
   refine pE rfl rfl ?_
   refine callB [0] [] rfl rfl rfl rfl rfl ((ris_sg L hw gMod rfl s1 hk hL)) rfl rfl (by rfl) (by rfl) rfl rfl rfl rfl ?_
   refine WO.nil (qs ?_)
   refine condK rfl (fun h20 => ?_) (fun h20 => ?_)
   ·
    let op : Int := 9
    have hop : op = if skB L gMod s1 then 9 else if skB L gDiv s1 then 8 else 7 := by rw [if_pos h20]
    refine W.region ?_
    refine pE rfl rfl ?_
    refine WO.nil (qs (W.seq ?_))
    have hI2 : leftGo L one opsMul n' (mk2 op e (one (adv s1)).1) (one (adv s1)).2 = leftP L one opsMul st := by
     rw [hop]
     rcases hgo with q | q | q
     ·
      rw [if_pos q] at hI
      rw [if_neg (by simp [skB_one q (show gMul ≠ gMod by decide)]), if_neg (by simp [skB_one q (show gMul ≠ gDiv by decide)])]
      exact hI
     ·
      rw [if_neg (by simp [skB_one q (show gDiv ≠ gMul by decide)]), if_pos q] at hI
      rw [if_neg (by simp [skB_one q (show gDiv ≠ gMod by decide)]), if_pos q]
      exact hI
     ·
      rw [if_neg (by simp [skB_one q (show gMod ≠ gMul by decide)]), if_neg (by simp [skB_one q (show gMod ≠ gDiv by decide)]), if_pos q] at hI
      rw [if_pos q]
      exact hI
    refine W.region ?_
    iterate 4 refine pE rfl rfl ?_
    first | refine pE rfl rfl ?_ | refine pR rfl rfl rfl rfl rfl ?_ | refine pB rfl rfl rfl rfl rfl rfl ?_
    refine pu (puI (ev tab rfl) (y := ((s1.1 + 1 : Nat) : Int)) (by rw [wrap64 (by omega)]; rfl)) rfl ?_
    iterate 2 refine pE rfl rfl ?_
    refine storeR tab rfl rfl rfl rfl rfl rfl rfl rfl ?_
    refine WO.nil (qs ?_)
    apply W.regionC tab 4 3; (case hB => kernel_rfl); (case h1 => rfl); (case h2 => rfl)
    refine' ccPu ?p1_1 (ev tab rfl) rfl rfl rfl rfl rfl ?h_1
    case' h_1 => skip
    first | (refine' ccPu ?p1_2 (ev tab rfl) rfl rfl rfl rfl rfl ?h_2) | (refine' ccPu ?p1_2 (loadRow tab rfl rfl rfl rfl) rfl rfl rfl rfl rfl ?h_2) | (refine' ccPu ?p1_2 (loadBox tab rfl rfl rfl rfl rfl) rfl rfl rfl rfl rfl ?h_2)
    case' h_2 => skip
    refine' ccPu0 (ev tab rfl) rfl rfl rfl rfl rfl ?h_3
    case' h_3 => skip
    refine' ccX (fun g => ?e_4) rfl rfl rfl ?h_4
    case e_4 =>
     refine callB [0] [] rfl rfl rfl rfl rfl ((hone (adv s1) l2 (by show L.length - (s1.1 + 1) ≤ d; omega))) rfl rfl (by rfl) (by rfl) rfl rfl rfl rfl ?_
     refine WO.nil ?_
     exact ⟨rfl, rfl⟩
    case' h_4 => skip
    case p1_1 => exact (ev tab rfl)
    case p1_2 => first | (exact (ev tab rfl)) | (exact (loadRow tab rfl rfl rfl rfl)) | (exact (loadBox tab rfl rfl rfl rfl rfl))
    refine CC.nil ?_
    refine pu (puCall rfl rfl rfl ((rtwo_fn _ _ _)) rfl) rfl ?_
    refine storeR tab rfl rfl rfl rfl rfl rfl rfl rfl ?_
    refine WO.nil (qbN ?_)
    refine W.endR [0, 1, 2] ⟨(n', mk2 op e (one (adv s1)).1, (one (adv s1)).2), ?_⟩ ?_ rfl ?_ trivial ?_ ⟨rfl, rfl, trivial⟩ rfl
    · exact ⟨l3, by omega, by omega, hI2⟩
    · dsimp only; omega
    · repeat' first | exact trivial | refine ⟨rfl, ?_⟩ | refine ⟨step_nat (by assumption) (by assumption), ?_⟩
    · repeat' first | exact trivial | refine ⟨rfl, ?_⟩ | refine ⟨step_nat (by assumption) (by assumption), ?_⟩
   ·
    let op : Int := op1
    have hop : op = if skB L gMod s1 then 9 else if skB L gDiv s1 then 8 else 7 := by rw [if_neg (by simp [h20])]; exact hop1
    refine W.skip (qs (W.seq ?_))
    have hI2 : leftGo L one opsMul n' (mk2 op e (one (adv s1)).1) (one (adv s1)).2 = leftP L one opsMul st := by
     rw [hop]
     rcases hgo with q | q | q
     ·
      rw [if_pos q] at hI
      rw [if_neg (by simp [skB_one q (show gMul ≠ gMod by decide)]), if_neg (by simp [skB_one q (show gMul ≠ gDiv by decide)])]
      exact hI
     ·
      rw [if_neg (by simp [skB_one q (show gDiv ≠ gMul by decide)]), if_pos q] at hI
      rw [if_neg (by simp [skB_one q (show gDiv ≠ gMod by decide)]), if_pos q]
      exact hI
     ·
      rw [if_neg (by simp [skB_one q (show gMod ≠ gMul by decide)]), if_neg (by simp [skB_one q (show gMod ≠ gDiv by decide)]), if_pos q] at hI
      rw [if_pos q]
      exact hI
    refine W.region ?_
    iterate 4 refine pE rfl rfl ?_
    first | refine pE rfl rfl ?_ | refine pR rfl rfl rfl rfl rfl ?_ | refine pB rfl rfl rfl rfl rfl rfl ?_
    refine pu (puI (ev tab rfl) (y := ((s1.1 + 1 : Nat) : Int)) (by rw [wrap64 (by omega)]; rfl)) rfl ?_
    iterate 2 refine pE rfl rfl ?_
    refine storeR tab rfl rfl rfl rfl rfl rfl rfl rfl ?_
    refine WO.nil (qs ?_)
    apply W.regionC tab 4 3; (case hB => kernel_rfl); (case h1 => rfl); (case h2 => rfl)
    refine' ccPu ?p1_5 (ev tab rfl) rfl rfl rfl rfl rfl ?h_5
    case' h_5 => skip
    first | (refine' ccPu ?p1_6 (ev tab rfl) rfl rfl rfl rfl rfl ?h_6) | (refine' ccPu ?p1_6 (loadRow tab rfl rfl rfl rfl) rfl rfl rfl rfl rfl ?h_6) | (refine' ccPu ?p1_6 (loadBox tab rfl rfl rfl rfl rfl) rfl rfl rfl rfl rfl ?h_6)
    case' h_6 => skip
    refine' ccPu0 (ev tab rfl) rfl rfl rfl rfl rfl ?h_7
    case' h_7 => skip
    refine' ccX (fun g => ?e_8) rfl rfl rfl ?h_8
    case e_8 =>
     refine callB [0] [] rfl rfl rfl rfl rfl ((hone (adv s1) l2 (by show L.length - (s1.1 + 1) ≤ d; omega))) rfl rfl (by rfl) (by rfl) rfl rfl rfl rfl ?_
     refine WO.nil ?_
     exact ⟨rfl, rfl⟩
    case' h_8 => skip
    case p1_5 => exact (ev tab rfl)
    case p1_6 => first | (exact (ev tab rfl)) | (exact (loadRow tab rfl rfl rfl rfl)) | (exact (loadBox tab rfl rfl rfl rfl rfl))
    refine CC.nil ?_
    refine pu (puCall rfl rfl rfl ((rtwo_fn _ _ _)) rfl) rfl ?_
    refine storeR tab rfl rfl rfl rfl rfl rfl rfl rfl ?_
    refine WO.nil (qbN ?_)
    refine W.endR [0, 1, 2] ⟨(n', mk2 op e (one (adv s1)).1, (one (adv s1)).2), ?_⟩ ?_ rfl ?_ trivial ?_ ⟨rfl, rfl, trivial⟩ rfl
    · exact ⟨l3, by omega, by omega, hI2⟩
    · dsimp only; omega
    · repeat' first | exact trivial | refine ⟨rfl, ?_⟩ | refine ⟨step_nat (by assumption) (by assumption), ?_⟩
    · repeat' first | exact trivial | refine ⟨rfl, ?_⟩ | refine ⟨step_nat (by assumption) (by assumption), ?_⟩
  ·
   let op1 : Int := 7
   have hop1 : op1 = if skB L gDiv s1 then 8 else 7 := by rw [if_neg (by simp [h18])]
   refine W.skip (qs ?_)
   iterate 2 refine W.seq ?_
   refine W.region ?_
   refine pE rfl rfl ?_
   refine callB [0] [] rfl rfl rfl rfl rfl ((ris_sg L hw gMod rfl s1 hk hL)) rfl rfl (by rfl) (by rfl) rfl rfl rfl rfl ?_
   refine WO.nil (qs ?_)
   refine condK rfl (fun h20 => ?_) (fun h20 => ?_)
   ·
    let op : Int := 9
    have hop : op = if skB L gMod s1 then 9 else if skB L gDiv s1 then 8 else 7 := by rw [if_pos h20]
    refine W.region ?_
    refine pE rfl rfl ?_
    refine WO.nil (qs (W.seq ?_))
    have hI2 : leftGo L one opsMul n' (mk2 op e (one (adv s1)).1) (one (adv s1)).2 = leftP L one opsMul st := by
     rw [hop]
     rcases hgo with q | q | q
     ·
      rw [if_pos q] at hI
      rw [if_neg (by simp [skB_one q (show gMul ≠ gMod by decide)]), if_neg (by simp [skB_one q (show gMul ≠ gDiv by decide)])]
      exact hI
     ·
      rw [if_neg (by simp [skB_one q (show gDiv ≠ gMul by decide)]), if_pos q] at hI
      rw [if_neg (by simp [skB_one q (show gDiv ≠ gMod by decide)]), if_pos q]
      exact hI
     ·
      rw [if_neg (by simp [skB_one q (show gMod ≠ gMul by decide)]), if_neg (by simp [skB_one q (show gMod ≠ gDiv by decide)]), if_pos q] at hI
      rw [if_pos q]
      exact hI
    refine W.region ?_
    iterate 4 refine pE rfl rfl ?_
    first | refine pE rfl rfl ?_ | refine pR rfl rfl rfl rfl rfl ?_ | refine pB rfl rfl rfl rfl rfl rfl ?_
    refine pu (puI (ev tab rfl) (y := ((s1.1 + 1 : Nat) : Int)) (by rw [wrap64 (by omega)]; rfl)) rfl ?_
    iterate 2 refine pE rfl rfl ?_
    refine storeR tab rfl rfl rfl rfl rfl rfl rfl rfl ?_
    refine WO.nil (qs ?_)
    apply W.regionC tab 4 3; (case hB => kernel_rfl); (case h1 => rfl); (case h2 => rfl)
    refine' ccPu ?p1_9 (ev tab rfl) rfl rfl rfl rfl rfl ?h_9
    case' h_9 => skip
    first | (refine' ccPu ?p1_10 (ev tab rfl) rfl rfl rfl rfl rfl ?h_10) | (refine' ccPu ?p1_10 (loadRow tab rfl rfl rfl rfl) rfl rfl rfl rfl rfl ?h_10) | (refine' ccPu ?p1_10 (loadBox tab rfl rfl rfl rfl rfl) rfl rfl rfl rfl rfl ?h_10)
    case' h_10 => skip
    refine' ccPu0 (ev tab rfl) rfl rfl rfl rfl rfl ?h_11
    case' h_11 => skip
    refine' ccX (fun g => ?e_12) rfl rfl rfl ?h_12
    case e_12 =>
     refine callB [0] [] rfl rfl rfl rfl rfl ((hone (adv s1) l2 (by show L.length - (s1.1 + 1) ≤ d; omega))) rfl rfl (by rfl) (by rfl) rfl rfl rfl rfl ?_
     refine WO.nil ?_
     exact ⟨rfl, rfl⟩
    case' h_12 => skip
    case p1_9 => exact (ev tab rfl)
    case p1_10 => first | (exact (ev tab rfl)) | (exact (loadRow tab rfl rfl rfl rfl)) | (exact (loadBox tab rfl rfl rfl rfl rfl))
    refine CC.nil ?_
    refine pu (puCall rfl rfl rfl ((rtwo_fn _ _ _)) rfl) rfl ?_
    refine storeR tab rfl rfl rfl rfl rfl rfl rfl rfl ?_
    refine WO.nil (qbN ?_)
    refine W.endR [0, 1, 2] ⟨(n', mk2 op e (one (adv s1)).1, (one (adv s1)).2), ?_⟩ ?_ rfl ?_ trivial ?_ ⟨rfl, rfl, trivial⟩ rfl
    · exact ⟨l3, by omega, by omega, hI2⟩
    · dsimp only; omega
    · repeat' first | exact trivial | refine ⟨rfl, ?_⟩ | refine ⟨step_nat (by assumption) (by assumption), ?_⟩
    · repeat' first | exact trivial | refine ⟨rfl, ?_⟩ | refine ⟨step_nat (by assumption) (by assumption), ?_⟩
   ·
    let op : Int := op1
    have hop : op = if skB L gMod s1 then 9 else if skB L gDiv s1 then 8 else 7 := by rw [if_neg (by simp [h20])]; exact hop1
    refine W.skip (qs (W.seq ?_))
    have hI2 : leftGo L one opsMul n' (mk2 op e (one (adv s1)).1) (one (adv s1)).2 = leftP L one opsMul st := by
     rw [hop]
     rcases hgo with q | q | q
     ·
      rw [if_pos q] at hI
      rw [if_neg (by simp [skB_one q (show gMul ≠ gMod by decide)]), if_neg (by simp [skB_one q (show gMul ≠ gDiv by decide)])]
      exact hI
     ·
      rw [if_neg (by simp [skB_one q (show gDiv ≠ gMul by decide)]), if_pos q] at hI
      rw [if_neg (by simp [skB_one q (show gDiv ≠ gMod by decide)]), if_pos q]
      exact hI
     ·
      rw [if_neg (by simp [skB_one q (show gMod ≠ gMul by decide)]), if_neg (by simp [skB_one q (show gMod ≠ gDiv by decide)]), if_pos q] at hI
      rw [if_pos q]
      exact hI
    refine W.region ?_
    iterate 4 refine pE rfl rfl ?_
    first | refine pE rfl rfl ?_ | refine pR rfl rfl rfl rfl rfl ?_ | refine pB rfl rfl rfl rfl rfl rfl ?_
    refine pu (puI (ev tab rfl) (y := ((s1.1 + 1 : Nat) : Int)) (by rw [wrap64 (by omega)]; rfl)) rfl ?_
    iterate 2 refine pE rfl rfl ?_
    refine storeR tab rfl rfl rfl rfl rfl rfl rfl rfl ?_
    refine WO.nil (qs ?_)
    apply W.regionC tab 4 3; (case hB => kernel_rfl); (case h1 => rfl); (case h2 => rfl)
    refine' ccPu ?p1_13 (ev tab rfl) rfl rfl rfl rfl rfl ?h_13
    case' h_13 => skip
    first | (refine' ccPu ?p1_14 (ev tab rfl) rfl rfl rfl rfl rfl ?h_14) | (refine' ccPu ?p1_14 (loadRow tab rfl rfl rfl rfl) rfl rfl rfl rfl rfl ?h_14) | (refine' ccPu ?p1_14 (loadBox tab rfl rfl rfl rfl rfl) rfl rfl rfl rfl rfl ?h_14)
    case' h_14 => skip
    refine' ccPu0 (ev tab rfl) rfl rfl rfl rfl rfl ?h_15
    case' h_15 => skip
    refine' ccX (fun g => ?e_16) rfl rfl rfl ?h_16
    case e_16 =>
     refine callB [0] [] rfl rfl rfl rfl rfl ((hone (adv s1) l2 (by show L.length - (s1.1 + 1) ≤ d; omega))) rfl rfl (by rfl) (by rfl) rfl rfl rfl rfl ?_
     refine WO.nil ?_
     exact ⟨rfl, rfl⟩
    case' h_16 => skip
    case p1_13 => exact (ev tab rfl)
    case p1_14 => first | (exact (ev tab rfl)) | (exact (loadRow tab rfl rfl rfl rfl)) | (exact (loadBox tab rfl rfl rfl rfl rfl))
    refine CC.nil ?_
    refine pu (puCall rfl rfl rfl ((rtwo_fn _ _ _)) rfl) rfl ?_
    refine storeR tab rfl rfl rfl rfl rfl rfl rfl rfl ?_
    refine WO.nil (qbN ?_)
    refine W.endR [0, 1, 2] ⟨(n', mk2 op e (one (adv s1)).1, (one (adv s1)).2), ?_⟩ ?_ rfl ?_ trivial ?_ ⟨rfl, rfl, trivial⟩ rfl
    · exact ⟨l3, by omega, by omega, hI2⟩
    · dsimp only; omega
    · repeat' first | exact trivial | refine ⟨rfl, ?_⟩ | refine ⟨step_nat (by assumption) (by assumption), ?_⟩
    · repeat' first | exact trivial | refine ⟨rfl, ?_⟩ | refine ⟨step_nat (by assumption) (by assumption), ?_⟩
 ·
  refine goG rfl rfl ?_
  refine pE rfl rfl ?_
  refine goG rfl rfl ?_
  refine callB [0] [] rfl rfl rfl rfl rfl ((ris_sg L hw gDiv rfl s1 hk hL)) rfl rfl (by rfl) (by rfl) rfl rfl rfl rfl ?_
  iterate 2 refine pE rfl rfl ?_
  refine splitG rfl rfl (fun g13 => ?_) (fun g13 => ?_)
  ·
   iterate 2 refine skipT rfl rfl rfl rfl ?_
   refine pE rfl rfl ?_
   refine WO.nil (qs ?_)
   refine W.condT rfl ?_
   refine W.skip (qs (W.block (W.seq ?_)))
   have hgo : skB L gMul s1 = true ∨ skB L gDiv s1 = true ∨ skB L gMod s1 = true := by first | exact .inl g9 | exact .inr (.inr h16) | exact .inr (.inl (by simpa using g13)) | exact .inr (.inl g13)
   have l2 : s1.1 + 1 < L.length := hgo.elim (fun q => skB_more hw q hk) fun q => q.elim (fun q => skB_more hw q hk) fun q => skB_more hw q hk
   have l3 := ho.lt (adv s1) l2
   have m3 : s1.1 + 1 ≤ (one (adv s1)).2.1 := ho.mono (adv s1)
   refine W.region ?_
   refine pE rfl rfl ?_
   refine WO.nil (qs ?_)
   iterate 2 refine W.seq ?_
   refine W.region ?_
   refine pE rfl rfl ?_
   refine callB [0] [] rfl rfl rfl rfl rfl ((ris_sg L hw gDiv rfl s1 hk hL)) rfl rfl (by rfl) (by rfl) rfl rfl rfl rfl ?_
   refine WO.nil (qs ?_)
   refine condK rfl (fun h18 => ?_) (fun h18 => ?_)
   ·
    let op1 : Int := 8
    have hop1 : op1 = if skB L gDiv s1 then 8 else 7 := by rw [if_pos h18]
    refine W.region ?_
    refine pE rfl rfl ?_
    refine WO.nil (qs ?_)
    iterate 2 refine W.seq ?_
    refine W.region ?_
    refine pE rfl rfl ?_
    refine callB [0] [] rfl rfl rfl rfl rfl ((ris_sg L hw gMod rfl s1 hk hL)) rfl rfl (by rfl) (by rfl) rfl rfl rfl rfl ?_
    refine WO.nil (qs ?_)
    refine condK rfl (fun h20 => ?_) (fun h20 => ?_)
    ·
     let op : Int := 9
     have hop : op = if skB L gMod s1 then 9 else if skB L gDiv s1 then 8 else 7 := by rw [if_pos h20]
     refine W.region ?_
     refine pE rfl rfl ?_
     refine WO.nil (qs (W.seq ?_))
     have hI2 : leftGo L one opsMul n' (mk2 op e (one (adv s1)).1) (one (adv s1)).2 = leftP L one opsMul st := by
      rw [hop]
      rcases hgo with q | q | q
      ·
       rw [if_pos q] at hI
       rw [if_neg (by simp [skB_one q (show gMul ≠ gMod by decide)]), if_neg (by simp [skB_one q (show gMul ≠ gDiv by decide)])]
       exact hI
      ·
       rw [if_neg (by simp [skB_one q (show gDiv ≠ gMul by decide)]), if_pos q] at hI
       rw [if_neg (by simp [skB_one q (show gDiv ≠ gMod by decide)]), if_pos q]
       exact hI
      ·
       rw [if_neg (by simp [skB_one q (show gMod ≠ gMul by decide)]), if_neg (by simp [skB_one q (show gMod ≠ gDiv by decide)]), if_pos q] at hI
       rw [if_pos q]
       exact hI
     refine W.region ?_
     iterate 4 refine pE rfl rfl ?_
     first | refine pE rfl rfl ?_ | refine pR rfl rfl rfl rfl rfl ?_ | refine pB rfl rfl rfl rfl rfl rfl ?_
     refine pu (puI (ev tab rfl) (y := ((s1.1 + 1 : Nat) : Int)) (by rw [wrap64 (by omega)]; rfl)) rfl ?_
     iterate 2 refine pE rfl rfl ?_
     refine storeR tab rfl rfl rfl rfl rfl rfl rfl rfl ?_
     refine WO.nil (qs ?_)
     apply W.regionC tab 4 3; (case hB => kernel_rfl); (case h1 => rfl); (case h2 => rfl)
     refine' ccPu ?p1_17 (ev tab rfl) rfl rfl rfl rfl rfl ?h_17
     case' h_17 => skip
     first | (refine' ccPu ?p1_18 (ev tab rfl) rfl rfl rfl rfl rfl ?h_18) | (refine' ccPu ?p1_18 (loadRow tab rfl rfl rfl rfl) rfl rfl rfl rfl rfl ?h_18) | (refine' ccPu ?p1_18 (loadBox tab rfl rfl rfl rfl rfl) rfl rfl rfl rfl rfl ?h_18)
     case' h_18 => skip
     refine' ccPu0 (ev tab rfl) rfl rfl rfl rfl rfl ?h_19
     case' h_19 => skip
     refine' ccX (fun g => ?e_20) rfl rfl rfl ?h_20
     case e_20 =>
      refine callB [0] [] rfl rfl rfl rfl rfl ((hone (adv s1) l2 (by show L.length - (s1.1 + 1) ≤ d; omega))) rfl rfl (by rfl) (by rfl) rfl rfl rfl rfl ?_
      refine WO.nil ?_
      exact ⟨rfl, rfl⟩
     case' h_20 => skip
     case p1_17 => exact (ev tab rfl)
     case p1_18 => first | (exact (ev tab rfl)) | (exact (loadRow tab rfl rfl rfl rfl)) | (exact (loadBox tab rfl rfl rfl rfl rfl))
     refine CC.nil ?_
     refine pu (puCall rfl rfl rfl ((rtwo_fn _ _ _)) rfl) rfl ?_
     refine storeR tab rfl rfl rfl rfl rfl rfl rfl rfl ?_
     refine WO.nil (qbN ?_)
     refine W.endR [0, 1, 2] ⟨(n', mk2 op e (one (adv s1)).1, (one (adv s1)).2), ?_⟩ ?_ rfl ?_ trivial ?_ ⟨rfl, rfl, trivial⟩ rfl
     · exact ⟨l3, by omega, by omega, hI2⟩
     · dsimp only; omega
     · repeat' first | exact trivial | refine ⟨rfl, ?_⟩ | refine ⟨step_nat (by assumption) (by assumption), ?_⟩
     · repeat' first | exact trivial | refine ⟨rfl, ?_⟩ | refine ⟨step_nat (by assumption) (by assumption), ?_⟩
    ·
     let op : Int := op1
     have hop : op = if skB L gMod s1 then 9 else if skB L gDiv s1 then 8 else 7 := by rw [if_neg (by simp [h20])]; exact hop1
     refine W.skip (qs (W.seq ?_))
     have hI2 : leftGo L one opsMul n' (mk2 op e (one (adv s1)).1) (one (adv s1)).2 = leftP L one opsMul st := by
      rw [hop]
      rcases hgo with q | q | q
      ·
       rw [if_pos q] at hI
       rw [if_neg (by simp [skB_one q (show gMul ≠ gMod by decide)]), if_neg (by simp [skB_one q (show gMul ≠ gDiv by decide)])]
       exact hI
      ·
       rw [if_neg (by simp [skB_one q (show gDiv ≠ gMul by decide)]), if_pos q] at hI
       rw [if_neg (by simp [skB_one q (show gDiv ≠ gMod by decide)]), if_pos q]
       exact hI
      ·
       rw [if_neg (by simp [skB_one q (show gMod ≠ gMul by decide)]), if_neg (by simp [skB_one q (show gMod ≠ gDiv by decide)]), if_pos q] at hI
       rw [if_pos q]
       exact hI
     refine W.region ?_
     iterate 4 refine pE rfl rfl ?_
     first | refine pE rfl rfl ?_ | refine pR rfl rfl rfl rfl rfl ?_ | refine pB rfl rfl rfl rfl rfl rfl ?_
     refine pu (puI (ev tab rfl) (y := ((s1.1 + 1 : Nat) : Int)) (by rw [wrap64 (by omega)]; rfl)) rfl ?_
     iterate 2 refine pE rfl rfl ?_
     refine storeR tab rfl rfl rfl rfl rfl rfl rfl rfl ?_
     refine WO.nil (qs ?_)
     apply W.regionC tab 4 3; (case hB => kernel_rfl); (case h1 => rfl); (case h2 => rfl)
     refine' ccPu ?p1_21 (ev tab rfl) rfl rfl rfl rfl rfl ?h_21
     case' h_21 => skip
     first | (refine' ccPu ?p1_22 (ev tab rfl) rfl rfl rfl rfl rfl ?h_22) | (refine' ccPu ?p1_22 (loadRow tab rfl rfl rfl rfl) rfl rfl rfl rfl rfl ?h_22) | (refine' ccPu ?p1_22 (loadBox tab rfl rfl rfl rfl rfl) rfl rfl rfl rfl rfl ?h_22)
     case' h_22 => skip
     refine' ccPu0 (ev tab rfl) rfl rfl rfl rfl rfl ?h_23
     case' h_23 => skip
     refine' ccX (fun g => ?e_24) rfl rfl rfl ?h_24
     case e_24 =>
      refine callB [0] [] rfl rfl rfl rfl rfl ((hone (adv s1) l2 (by show L.length - (s1.1 + 1) ≤ d; omega))) rfl rfl (by rfl) (by rfl) rfl rfl rfl rfl ?_
      refine WO.nil ?_
      exact ⟨rfl, rfl⟩
     case' h_24 => skip
     case p1_21 => exact (ev tab rfl)
     case p1_22 => first | (exact (ev tab rfl)) | (exact (loadRow tab rfl rfl rfl rfl)) | (exact (loadBox tab rfl rfl rfl rfl rfl))
     refine CC.nil ?_
     refine pu (puCall rfl rfl rfl ((rtwo_fn _ _ _)) rfl) rfl ?_
     refine storeR tab rfl rfl rfl rfl rfl rfl rfl rfl ?_
     refine WO.nil (qbN ?_)
     refine W.endR [0, 1, 2] ⟨(n', mk2 op e (one (adv s1)).1, (one (adv s1)).2), ?_⟩ ?_ rfl ?_ trivial ?_ ⟨rfl, rfl, trivial⟩ rfl
     · exact ⟨l3, by omega, by omega, hI2⟩
     · dsimp only; omega
     · repeat' first | exact trivial | refine ⟨rfl, ?_⟩ | refine ⟨step_nat (by assumption) (by assumption), ?_⟩
     · repeat' first | exact trivial | refine ⟨rfl, ?_⟩ | refine ⟨step_nat (by assumption) (by assumption), ?_⟩
   ·
    let op1 : Int := 7
    have hop1 : op1 = if skB L gDiv s1 then 8 else 7 := by rw [if_neg (by simp [h18])]
    refine W.skip (qs ?_)
    iterate 2 refine W.seq ?_
    refine W.region ?_
    refine pE rfl rfl ?_
    refine callB [0] [] rfl rfl rfl rfl rfl ((ris_sg L hw gMod rfl s1 hk hL)) rfl rfl (by rfl) (by rfl) rfl rfl rfl rfl ?_
    refine WO.nil (qs ?_)
    refine condK rfl (fun h20 => ?_) (fun h20 => ?_)
    ·
     let op : Int := 9
     have hop : op = if skB L gMod s1 then 9 else if skB L gDiv s1 then 8 else 7 := by rw [if_pos h20]
     refine W.region ?_
     refine pE rfl rfl ?_
     refine WO.nil (qs (W.seq ?_))
     have hI2 : leftGo L one opsMul n' (mk2 op e (one (adv s1)).1) (one (adv s1)).2 = leftP L one opsMul st := by
      rw [hop]
      rcases hgo with q | q | q
      ·
       rw [if_pos q] at hI
       rw [if_neg (by simp [skB_one q (show gMul ≠ gMod by decide)]), if_neg (by simp [skB_one q (show gMul ≠ gDiv by decide)])]
       exact hI
      ·
       rw [if_neg (by simp [skB_one q (show gDiv ≠ gMul by decide)]), if_pos q] at hI
       rw [if_neg (by simp [skB_one q (show gDiv ≠ gMod by decide)]), if_pos q]
       exact hI
      ·
       rw [if_neg (by simp [skB_one q (show gMod ≠ gMul by decide)]), if_neg (by simp [skB_one q (show gMod ≠ gDiv by decide)]), if_pos q] at hI
       rw [if_pos q]
       exact hI
     refine W.region ?_
     iterate 4 refine pE rfl rfl ?_
     first | refine pE rfl rfl ?_ | refine pR rfl rfl rfl rfl rfl ?_ | refine pB rfl rfl rfl rfl rfl rfl ?_
     refine pu (puI (ev tab rfl) (y := ((s1.1 + 1 : Nat) : Int)) (by rw [wrap64 (by omega)]; rfl)) rfl ?_
     iterate 2 refine pE rfl rfl ?_
     refine storeR tab rfl rfl rfl rfl rfl rfl rfl rfl ?_
     refine WO.nil (qs ?_)
     apply W.regionC tab 4 3; (case hB => kernel_rfl); (case h1 => rfl); (case h2 => rfl)
     refine' ccPu ?p1_25 (ev tab rfl) rfl rfl rfl rfl rfl ?h_25
     case' h_25 => skip
     first | (refine' ccPu ?p1_26 (ev tab rfl) rfl rfl rfl rfl rfl ?h_26) | (refine' ccPu ?p1_26 (loadRow tab rfl rfl rfl rfl) rfl rfl rfl rfl rfl ?h_26) | (refine' ccPu ?p1_26 (loadBox tab rfl rfl rfl rfl rfl) rfl rfl rfl rfl rfl ?h_26)
     case' h_26 => skip
     refine' ccPu0 (ev tab rfl) rfl rfl rfl rfl rfl ?h_27
     case' h_27 => skip
     refine' ccX (fun g => ?e_28) rfl rfl rfl ?h_28
     case e_28 =>
      refine callB [0] [] rfl rfl rfl rfl rfl ((hone (adv s1) l2 (by show L.length - (s1.1 + 1) ≤ d; omega))) rfl rfl (by rfl) (by rfl) rfl rfl rfl rfl ?_
      refine WO.nil ?_
      exact ⟨rfl, rfl⟩
     case' h_28 => skip
     case p1_25 => exact (ev tab rfl)
     case p1_26 => first | (exact (ev tab rfl)) | (exact (loadRow tab rfl rfl rfl rfl)) | (exact (loadBox tab rfl rfl rfl rfl rfl))
     refine CC.nil ?_
     refine pu (puCall rfl rfl rfl ((rtwo_fn _ _ _)) rfl) rfl ?_
     refine storeR tab rfl rfl rfl rfl rfl rfl rfl rfl ?_
     refine WO.nil (qbN ?_)
     refine W.endR [0, 1, 2] ⟨(n', mk2 op e (one (adv s1)).1, (one (adv s1)).2), ?_⟩ ?_ rfl ?_ trivial ?_ ⟨rfl, rfl, trivial⟩ rfl
     · exact ⟨l3, by omega, by omega, hI2⟩
     · dsimp only; omega
     · repeat' first | exact trivial | refine ⟨rfl, ?_⟩ | refine ⟨step_nat (by assumption) (by assumption), ?_⟩
     · repeat' first | exact trivial | refine ⟨rfl, ?_⟩ | refine ⟨step_nat (by assumption) (by assumption), ?_⟩
    ·
     let op : Int := op1
     have hop : op = if skB L gMod s1 then 9 else if skB L gDiv s1 then 8 else 7 := by rw [if_neg (by simp [h20])]; exact hop1
     refine W.skip (qs (W.seq ?_))
     have hI2 : leftGo L one opsMul n' (mk2 op e (one (adv s1)).1) (one (adv s1)).2 = leftP L one opsMul st := by
      rw [hop]
      rcases hgo with q | q | q
      ·
       rw [if_pos q] at hI
       rw [if_neg (by simp [skB_one q (show gMul ≠ gMod by decide)]), if_neg (by simp [skB_one q (show gMul ≠ gDiv by decide)])]
       exact hI
      ·
       rw [if_neg (by simp [skB_one q (show gDiv ≠ gMul by decide)]), if_pos q] at hI
       rw [if_neg (by simp [skB_one q (show gDiv ≠ gMod by decide)]), if_pos q]
       exact hI
      ·
       rw [if_neg (by simp [skB_one q (show gMod ≠ gMul by decide)]), if_neg (by simp [skB_one q (show gMod ≠ gDiv by decide)]), if_pos q] at hI
       rw [if_pos q]
       exact hI
     refine W.region ?_
     iterate 4 refine pE rfl rfl ?_
     first | refine pE rfl rfl ?_ | refine pR rfl rfl rfl rfl rfl ?_ | refine pB rfl rfl rfl rfl rfl rfl ?_
     refine pu (puI (ev tab rfl) (y := ((s1.1 + 1 : Nat) : Int)) (by rw [wrap64 (by omega)]; rfl)) rfl ?_
     iterate 2 refine pE rfl rfl ?_
     refine storeR tab rfl rfl rfl rfl rfl rfl rfl rfl ?_
     refine WO.nil (qs ?_)
     apply W.regionC tab 4 3; (case hB => kernel_rfl); (case h1 => rfl); (case h2 => rfl)
     refine' ccPu ?p1_29 (ev tab rfl) rfl rfl rfl rfl rfl ?h_29
     case' h_29 => skip
     first | (refine' ccPu ?p1_30 (ev tab rfl) rfl rfl rfl rfl rfl ?h_30) | (refine' ccPu ?p1_30 (loadRow tab rfl rfl rfl rfl) rfl rfl rfl rfl rfl ?h_30) | (refine' ccPu ?p1_30 (loadBox tab rfl rfl rfl rfl rfl) rfl rfl rfl rfl rfl ?h_30)
     case' h_30 => skip
     refine' ccPu0 (ev tab rfl) rfl rfl rfl rfl rfl ?h_31
     case' h_31 => skip
     refine' ccX (fun g => ?e_32) rfl rfl rfl ?h_32
     case e_32 =>
      refine callB [0] [] rfl rfl rfl rfl rfl ((hone (adv s1) l2 (by show L.length - (s1.1 + 1) ≤ d; omega))) rfl rfl (by rfl) (by rfl) rfl rfl rfl rfl ?_
      refine WO.nil ?_
      exact ⟨rfl, rfl⟩
     case' h_32 => skip
     case p1_29 => exact (ev tab rfl)
     case p1_30 => first | (exact (ev tab rfl)) | (exact (loadRow tab rfl rfl rfl rfl)) | (exact (loadBox tab rfl rfl rfl rfl rfl))
     refine CC.nil ?_
     refine pu (puCall rfl rfl rfl ((rtwo_fn _ _ _)) rfl) rfl ?_
     refine storeR tab rfl rfl rfl rfl rfl rfl rfl rfl ?_
     refine WO.nil (qbN ?_)
     refine W.endR [0, 1, 2] ⟨(n', mk2 op e (one (adv s1)).1, (one (adv s1)).2), ?_⟩ ?_ rfl ?_ trivial ?_ ⟨rfl, rfl, trivial⟩ rfl
     · exact ⟨l3, by omega, by omega, hI2⟩
     · dsimp only; omega
     · repeat' first | exact trivial | refine ⟨rfl, ?_⟩ | refine ⟨step_nat (by assumption) (by assumption), ?_⟩
     · repeat' first | exact trivial | refine ⟨rfl, ?_⟩ | refine ⟨step_nat (by assumption) (by assumption), ?_⟩
  ·
   refine goG rfl rfl ?_
   refine pE rfl rfl ?_
   refine goG rfl rfl ?_
   refine callB [0] [] rfl rfl rfl rfl rfl ((ris_sg L hw gMod rfl s1 hk hL)) rfl rfl (by rfl) (by rfl) rfl rfl rfl rfl ?_
   refine pE rfl rfl ?_
   refine WO.nil (qs ?_)
   refine condK rfl (fun h16 => ?_) (fun h16 => ?_)
   ·
    refine W.skip (qs (W.block (W.seq ?_)))
    have hgo : skB L gMul s1 = true ∨ skB L gDiv s1 = true ∨ skB L gMod s1 = true := by first | exact .inl g9 | exact .inr (.inr h16) | exact .inr (.inl (by simpa using g13)) | exact .inr (.inl g13)
    have l2 : s1.1 + 1 < L.length := hgo.elim (fun q => skB_more hw q hk) fun q => q.elim (fun q => skB_more hw q hk) fun q => skB_more hw q hk
    have l3 := ho.lt (adv s1) l2
    have m3 : s1.1 + 1 ≤ (one (adv s1)).2.1 := ho.mono (adv s1)
    refine W.region ?_
    refine pE rfl rfl ?_
    refine WO.nil (qs ?_)
    iterate 2 refine W.seq ?_
    refine W.region ?_
    refine pE rfl rfl ?_
    refine callB [0] [] rfl rfl rfl rfl rfl ((ris_sg L hw gDiv rfl s1 hk hL)) rfl rfl (by rfl) (by rfl) rfl rfl rfl rfl ?_
    refine WO.nil (qs ?_)
    refine condK rfl (fun h18 => ?_) (fun h18 => ?_)
    ·
     let op1 : Int := 8
     have hop1 : op1 = if skB L gDiv s1 then 8 else 7 := by rw [if_pos h18]
     refine W.region ?_
     refine pE rfl rfl ?_
     refine WO.nil (qs ?_)
     iterate 2 refine W.seq ?_
     refine W.region ?_
     refine pE rfl rfl ?_
     refine callB [0] [] rfl rfl rfl rfl rfl ((ris_sg L hw gMod rfl s1 hk hL)) rfl rfl (by rfl) (by rfl) rfl rfl rfl rfl ?_
     refine WO.nil (qs ?_)
     refine condK rfl (fun h20 => ?_) (fun h20 => ?_)
     ·
      let op : Int := 9
      have hop : op = if skB L gMod s1 then 9 else if skB L gDiv s1 then 8 else 7 := by rw [if_pos h20]
      refine W.region ?_
      refine pE rfl rfl ?_
      refine WO.nil (qs (W.seq ?_))
      have hI2 : leftGo L one opsMul n' (mk2 op e (one (adv s1)).1) (one (adv s1)).2 = leftP L one opsMul st := by
       rw [hop]
       rcases hgo with q | q | q
       ·
        rw [if_pos q] at hI
        rw [if_neg (by simp [skB_one q (show gMul ≠ gMod by decide)]), if_neg (by simp [skB_one q (show gMul ≠ gDiv by decide)])]
        exact hI
       ·
        rw [if_neg (by simp [skB_one q (show gDiv ≠ gMul by decide)]), if_pos q] at hI
        rw [if_neg (by simp [skB_one q (show gDiv ≠ gMod by decide)]), if_pos q]
        exact hI
       ·
        rw [if_neg (by simp [skB_one q (show gMod ≠ gMul by decide)]), if_neg (by simp [skB_one q (show gMod ≠ gDiv by decide)]), if_pos q] at hI
        rw [if_pos q]
        exact hI
      refine W.region ?_
      iterate 4 refine pE rfl rfl ?_
      first | refine pE rfl rfl ?_ | refine pR rfl rfl rfl rfl rfl ?_ | refine pB rfl rfl rfl rfl rfl rfl ?_
      refine pu (puI (ev tab rfl) (y := ((s1.1 + 1 : Nat) : Int)) (by rw [wrap64 (by omega)]; rfl)) rfl ?_
      iterate 2 refine pE rfl rfl ?_
      refine storeR tab rfl rfl rfl rfl rfl rfl rfl rfl ?_
      refine WO.nil (qs ?_)
      apply W.regionC tab 4 3; (case hB => kernel_rfl); (case h1 => rfl); (case h2 => rfl)
      refine' ccPu ?p1_33 (ev tab rfl) rfl rfl rfl rfl rfl ?h_33
      case' h_33 => skip
      first | (refine' ccPu ?p1_34 (ev tab rfl) rfl rfl rfl rfl rfl ?h_34) | (refine' ccPu ?p1_34 (loadRow tab rfl rfl rfl rfl) rfl rfl rfl rfl rfl ?h_34) | (refine' ccPu ?p1_34 (loadBox tab rfl rfl rfl rfl rfl) rfl rfl rfl rfl rfl ?h_34)
      case' h_34 => skip
      refine' ccPu0 (ev tab rfl) rfl rfl rfl rfl rfl ?h_35
      case' h_35 => skip
      refine' ccX (fun g => ?e_36) rfl rfl rfl ?h_36
      case e_36 =>
       refine callB [0] [] rfl rfl rfl rfl rfl ((hone (adv s1) l2 (by show L.length - (s1.1 + 1) ≤ d; omega))) rfl rfl (by rfl) (by rfl) rfl rfl rfl rfl ?_
       refine WO.nil ?_
       exact ⟨rfl, rfl⟩
      case' h_36 => skip
      case p1_33 => exact (ev tab rfl)
      case p1_34 => first | (exact (ev tab rfl)) | (exact (loadRow tab rfl rfl rfl rfl)) | (exact (loadBox tab rfl rfl rfl rfl rfl))
      refine CC.nil ?_
      refine pu (puCall rfl rfl rfl ((rtwo_fn _ _ _)) rfl) rfl ?_
      refine storeR tab rfl rfl rfl rfl rfl rfl rfl rfl ?_
      refine WO.nil (qbN ?_)
      refine W.endR [0, 1, 2] ⟨(n', mk2 op e (one (adv s1)).1, (one (adv s1)).2), ?_⟩ ?_ rfl ?_ trivial ?_ ⟨rfl, rfl, trivial⟩ rfl
      · exact ⟨l3, by omega, by omega, hI2⟩
      · dsimp only; omega
      · repeat' first | exact trivial | refine ⟨rfl, ?_⟩ | refine ⟨step_nat (by assumption) (by assumption), ?_⟩
      · repeat' first | exact trivial | refine ⟨rfl, ?_⟩ | refine ⟨step_nat (by assumption) (by assumption), ?_⟩
     ·
      let op : Int := op1
      have hop : op = if skB L gMod s1 then 9 else if skB L gDiv s1 then 8 else 7 := by rw [if_neg (by simp [h20])]; exact hop1
      refine W.skip (qs (W.seq ?_))
      have hI2 : leftGo L one opsMul n' (mk2 op e (one (adv s1)).1) (one (adv s1)).2 = leftP L one opsMul st := by
       rw [hop]
       rcases hgo with q | q | q
       ·
        rw [if_pos q] at hI
        rw [if_neg (by simp [skB_one q (show gMul ≠ gMod by decide)]), if_neg (by simp [skB_one q (show gMul ≠ gDiv by decide)])]
        exact hI
       ·
        rw [if_neg (by simp [skB_one q (show gDiv ≠ gMul by decide)]), if_pos q] at hI
        rw [if_neg (by simp [skB_one q (show gDiv ≠ gMod by decide)]), if_pos q]
        exact hI
       ·
        rw [if_neg (by simp [skB_one q (show gMod ≠ gMul by decide)]), if_neg (by simp [skB_one q (show gMod ≠ gDiv by decide)]), if_pos q] at hI
        rw [if_pos q]
        exact hI
      refine W.region ?_
      iterate 4 refine pE rfl rfl ?_
      first | refine pE rfl rfl ?_ | refine pR rfl rfl rfl rfl rfl ?_ | refine pB rfl rfl rfl rfl rfl rfl ?_
      refine pu (puI (ev tab rfl) (y := ((s1.1 + 1 : Nat) : Int)) (by rw [wrap64 (by omega)]; rfl)) rfl ?_
      iterate 2 refine pE rfl rfl ?_
      refine storeR tab rfl rfl rfl rfl rfl rfl rfl rfl ?_
      refine WO.nil (qs ?_)
      apply W.regionC tab 4 3; (case hB => kernel_rfl); (case h1 => rfl); (case h2 => rfl)
      refine' ccPu ?p1_37 (ev tab rfl) rfl rfl rfl rfl rfl ?h_37
      case' h_37 => skip
      first | (refine' ccPu ?p1_38 (ev tab rfl) rfl rfl rfl rfl rfl ?h_38) | (refine' ccPu ?p1_38 (loadRow tab rfl rfl rfl rfl) rfl rfl rfl rfl rfl ?h_38) | (refine' ccPu ?p1_38 (loadBox tab rfl rfl rfl rfl rfl) rfl rfl rfl rfl rfl ?h_38)
      case' h_38 => skip
      refine' ccPu0 (ev tab rfl) rfl rfl rfl rfl rfl ?h_39
      case' h_39 => skip
      refine' ccX (fun g => ?e_40) rfl rfl rfl ?h_40
      case e_40 =>
       refine callB [0] [] rfl rfl rfl rfl rfl ((hone (adv s1) l2 (by show L.length - (s1.1 + 1) ≤ d; omega))) rfl rfl (by rfl) (by rfl) rfl rfl rfl rfl ?_
       refine WO.nil ?_
       exact ⟨rfl, rfl⟩
      case' h_40 => skip
      case p1_37 => exact (ev tab rfl)
      case p1_38 => first | (exact (ev tab rfl)) | (exact (loadRow tab rfl rfl rfl rfl)) | (exact (loadBox tab rfl rfl rfl rfl rfl))
      refine CC.nil ?_
      refine pu (puCall rfl rfl rfl ((rtwo_fn _ _ _)) rfl) rfl ?_
      refine storeR tab rfl rfl rfl rfl rfl rfl rfl rfl ?_
      refine WO.nil (qbN ?_)
      refine W.endR [0, 1, 2] ⟨(n', mk2 op e (one (adv s1)).1, (one (adv s1)).2), ?_⟩ ?_ rfl ?_ trivial ?_ ⟨rfl, rfl, trivial⟩ rfl
      · exact ⟨l3, by omega, by omega, hI2⟩
      · dsimp only; omega
      · repeat' first | exact trivial | refine ⟨rfl, ?_⟩ | refine ⟨step_nat (by assumption) (by assumption), ?_⟩
      · repeat' first | exact trivial | refine ⟨rfl, ?_⟩ | refine ⟨step_nat (by assumption) (by assumption), ?_⟩
    ·
     let op1 : Int := 7
     have hop1 : op1 = if skB L gDiv s1 then 8 else 7 := by rw [if_neg (by simp [h18])]
     refine W.skip (qs ?_)
     iterate 2 refine W.seq ?_
     refine W.region ?_
     refine pE rfl rfl ?_
     refine callB [0] [] rfl rfl rfl rfl rfl ((ris_sg L hw gMod rfl s1 hk hL)) rfl rfl (by rfl) (by rfl) rfl rfl rfl rfl ?_
     refine WO.nil (qs ?_)
     refine condK rfl (fun h20 => ?_) (fun h20 => ?_)
     ·
      let op : Int := 9
      have hop : op = if skB L gMod s1 then 9 else if skB L gDiv s1 then 8 else 7 := by rw [if_pos h20]
      refine W.region ?_
      refine pE rfl rfl ?_
      refine WO.nil (qs (W.seq ?_))
      have hI2 : leftGo L one opsMul n' (mk2 op e (one (adv s1)).1) (one (adv s1)).2 = leftP L one opsMul st := by
       rw [hop]
       rcases hgo with q | q | q
       ·
        rw [if_pos q] at hI
        rw [if_neg (by simp [skB_one q (show gMul ≠ gMod by decide)]), if_neg (by simp [skB_one q (show gMul ≠ gDiv by decide)])]
        exact hI
       ·
        rw [if_neg (by simp [skB_one q (show gDiv ≠ gMul by decide)]), if_pos q] at hI
        rw [if_neg (by simp [skB_one q (show gDiv ≠ gMod by decide)]), if_pos q]
        exact hI
       ·
        rw [if_neg (by simp [skB_one q (show gMod ≠ gMul by decide)]), if_neg (by simp [skB_one q (show gMod ≠ gDiv by decide)]), if_pos q] at hI
        rw [if_pos q]
        exact hI
      refine W.region ?_
      iterate 4 refine pE rfl rfl ?_
      first | refine pE rfl rfl ?_ | refine pR rfl rfl rfl rfl rfl ?_ | refine pB rfl rfl rfl rfl rfl rfl ?_
      refine pu (puI (ev tab rfl) (y := ((s1.1 + 1 : Nat) : Int)) (by rw [wrap64 (by omega)]; rfl)) rfl ?_
      iterate 2 refine pE rfl rfl ?_
      refine storeR tab rfl rfl rfl rfl rfl rfl rfl rfl ?_
      refine WO.nil (qs ?_)
      apply W.regionC tab 4 3; (case hB => kernel_rfl); (case h1 => rfl); (case h2 => rfl)
      refine' ccPu ?p1_41 (ev tab rfl) rfl rfl rfl rfl rfl ?h_41
      case' h_41 => skip
      first | (refine' ccPu ?p1_42 (ev tab rfl) rfl rfl rfl rfl rfl ?h_42) | (refine' ccPu ?p1_42 (loadRow tab rfl rfl rfl rfl) rfl rfl rfl rfl rfl ?h_42) | (refine' ccPu ?p1_42 (loadBox tab rfl rfl rfl rfl rfl) rfl rfl rfl rfl rfl ?h_42)
      case' h_42 => skip
      refine' ccPu0 (ev tab rfl) rfl rfl rfl rfl rfl ?h_43
      case' h_43 => skip
      refine' ccX (fun g => ?e_44) rfl rfl rfl ?h_44
      case e_44 =>
       refine callB [0] [] rfl rfl rfl rfl rfl ((hone (adv s1) l2 (by show L.length - (s1.1 + 1) ≤ d; omega))) rfl rfl (by rfl) (by rfl) rfl rfl rfl rfl ?_
       refine WO.nil ?_
       exact ⟨rfl, rfl⟩
      case' h_44 => skip
      case p1_41 => exact (ev tab rfl)
      case p1_42 => first | (exact (ev tab rfl)) | (exact (loadRow tab rfl rfl rfl rfl)) | (exact (loadBox tab rfl rfl rfl rfl rfl))
      refine CC.nil ?_
      refine pu (puCall rfl rfl rfl ((rtwo_fn _ _ _)) rfl) rfl ?_
      refine storeR tab rfl rfl rfl rfl rfl rfl rfl rfl ?_
      refine WO.nil (qbN ?_)
      refine W.endR [0, 1, 2] ⟨(n', mk2 op e (one (adv s1)).1, (one (adv s1)).2), ?_⟩ ?_ rfl ?_ trivial ?_ ⟨rfl, rfl, trivial⟩ rfl
      · exact ⟨l3, by omega, by omega, hI2⟩
      · dsimp only; omega
      · repeat' first | exact trivial | refine ⟨rfl, ?_⟩ | refine ⟨step_nat (by assumption) (by assumption), ?_⟩
      · repeat' first | exact trivial | refine ⟨rfl, ?_⟩ | refine ⟨step_nat (by assumption) (by assumption), ?_⟩
     ·
      let op : Int := op1
      have hop : op = if skB L gMod s1 then 9 else if skB L gDiv s1 then 8 else 7 := by rw [if_neg (by simp [h20])]; exact hop1
      refine W.skip (qs (W.seq ?_))
      have hI2 : leftGo L one opsMul n' (mk2 op e (one (adv s1)).1) (one (adv s1)).2 = leftP L one opsMul st := by
       rw [hop]
       rcases hgo with q | q | q
       ·
        rw [if_pos q] at hI
        rw [if_neg (by simp [skB_one q (show gMul ≠ gMod by decide)]), if_neg (by simp [skB_one q (show gMul ≠ gDiv by decide)])]
        exact hI
       ·
        rw [if_neg (by simp [skB_one q (show gDiv ≠ gMul by decide)]), if_pos q] at hI
        rw [if_neg (by simp [skB_one q (show gDiv ≠ gMod by decide)]), if_pos q]
        exact hI
       ·
        rw [if_neg (by simp [skB_one q (show gMod ≠ gMul by decide)]), if_neg (by simp [skB_one q (show gMod ≠ gDiv by decide)]), if_pos q] at hI
        rw [if_pos q]
        exact hI
      refine W.region ?_
      iterate 4 refine pE rfl rfl ?_
      first | refine pE rfl rfl ?_ | refine pR rfl rfl rfl rfl rfl ?_ | refine pB rfl rfl rfl rfl rfl rfl ?_
      refine pu (puI (ev tab rfl) (y := ((s1.1 + 1 : Nat) : Int)) (by rw [wrap64 (by omega)]; rfl)) rfl ?_
      iterate 2 refine pE rfl rfl ?_
      refine storeR tab rfl rfl rfl rfl rfl rfl rfl rfl ?_
      refine WO.nil (qs ?_)
      apply W.regionC tab 4 3; (case hB => kernel_rfl); (case h1 => rfl); (case h2 => rfl)
      refine' ccPu ?p1_45 (ev tab rfl) rfl rfl rfl rfl rfl ?h_45
      case' h_45 => skip
      first | (refine' ccPu ?p1_46 (ev tab rfl) rfl rfl rfl rfl rfl ?h_46) | (refine' ccPu ?p1_46 (loadRow tab rfl rfl rfl rfl) rfl rfl rfl rfl rfl ?h_46) | (refine' ccPu ?p1_46 (loadBox tab rfl rfl rfl rfl rfl) rfl rfl rfl rfl rfl ?h_46)
      case' h_46 => skip
      refine' ccPu0 (ev tab rfl) rfl rfl rfl rfl rfl ?h_47
      case' h_47 => skip
      refine' ccX (fun g => ?e_48) rfl rfl rfl ?h_48
      case e_48 =>
       refine callB [0] [] rfl rfl rfl rfl rfl ((hone (adv s1) l2 (by show L.length - (s1.1 + 1) ≤ d; omega))) rfl rfl (by rfl) (by rfl) rfl rfl rfl rfl ?_
       refine WO.nil ?_
       exact ⟨rfl, rfl⟩
      case' h_48 => skip
      case p1_45 => exact (ev tab rfl)
      case p1_46 => first | (exact (ev tab rfl)) | (exact (loadRow tab rfl rfl rfl rfl)) | (exact (loadBox tab rfl rfl rfl rfl rfl))
      refine CC.nil ?_
      refine pu (puCall rfl rfl rfl ((rtwo_fn _ _ _)) rfl) rfl ?_
      refine storeR tab rfl rfl rfl rfl rfl rfl rfl rfl ?_
      refine WO.nil (qbN ?_)
      refine W.endR [0, 1, 2] ⟨(n', mk2 op e (one (adv s1)).1, (one (adv s1)).2), ?_⟩ ?_ rfl ?_ trivial ?_ ⟨rfl, rfl, trivial⟩ rfl
      · exact ⟨l3, by omega, by omega, hI2⟩
      · dsimp only; omega
      · repeat' first | exact trivial | refine ⟨rfl, ?_⟩ | refine ⟨step_nat (by assumption) (by assumption), ?_⟩
      · repeat' first | exact trivial | refine ⟨rfl, ?_⟩ | refine ⟨step_nat (by assumption) (by assumption), ?_⟩
   ·
    rw [if_neg (by simp [g9]), if_neg (by simpa using g13), if_neg (by simp [h16])] at hI
    refine W.exit (qsExit (qlExit (qbExit (qs (W.seq (W.region ?_))))))
    first | refine pE rfl rfl ?_ | refine pR rfl rfl rfl rfl rfl ?_ | refine pB rfl rfl rfl rfl rfl rfl ?_
    refine storeR tab rfl rfl rfl rfl rfl rfl rfl rfl ?_
    refine WO.nil (qs (W.ret ?_))
    refine QB1.end tab [] trivial rfl rfl rfl rfl ?_ ?_
    ·
     rw [← hI]
     exact ⟨rfl, trivial⟩
    rw [← hI]
    rfl
end Go.Proofs.YtifeonoehfffmaaGreatDoor
namespace Go.Proofs.YtifeonoehfffmaaGreatDoor
open Go.Ab Go.Tb
set_option maxRecDepth 10000
attribute [local irreducible] W WO Pu QS QB QL QF QV QV1 CH QE
theorem cmp_op {L : List Tk} {sum : Pr Ex} {st : PS} {op : Int} (h : findOp L opsCmp (sum st).2 = some op) : compP L sum st = (mk2 op (sum st).1 (sum (adv (sum st).2)).1, (sum (adv (sum st).2)).2) := by unfold compP; rw [h]
theorem cmp_rev {L : List Tk} {sum : Pr Ex} {st : PS} {op : Int} (h0 : findOp L opsCmp (sum st).2 = none) (h : findOp L opsRev (sum st).2 = some op) : compP L sum st = (mk2 op (sum (adv (sum st).2)).1 (sum st).1, (sum (adv (sum st).2)).2) := by unfold compP; rw [h0, h]
theorem cmp_none {L : List Tk} {sum : Pr Ex} {st : PS} (h0 : findOp L opsCmp (sum st).2 = none) (h : findOp L opsRev (sum st).2 = none) : compP L sum st = sum st := by unfold compP; rw [h0, h]
set_option maxHeartbeats 4000000 in
theorem rnot_fn (L : List Tk) (hw : Wf L) (hL : L.length ≤ 3000000) (sum : Pr Ex) (ho : Goes L sum) (d : Nat) (hsum : RdR L 136 sum d) : ∀ n st, st.1 < L.length → L.length - st.1 ≤ d → L.length - st.1 ≤ n → DoesB Tryz.prog 115 [.ptr 0 0] [bxR L st] 0 (.ag (notP L (compP L sum) n st).1.c) [bxR L (notP L (compP L sum) n st).2] 0
 | 0, st, h, _, hn => by omega
 | n + 1, st, h, hd0, hn => by
  cases q : skB L kwNot st with
  | true =>
   have l1 := skB_more hw q h
   have ih := rnot_fn L hw hL sum ho d hsum n (adv st) l1 (by show L.length - (st.1 + 1) ≤ d; omega) (by show L.length - (st.1 + 1) ≤ n; omega)
   rw [show notP L (compP L sum) (n + 1) st = (mk1 3 (notP L (compP L sum) n (adv st)).1, (notP L (compP L sum) n (adv st)).2) by simp only [notP]; rw [q]; rfl]
   have hs := rwd_fn L hw kwNot rfl st h hL
   rw [skS_yes q, q] at hs
   refine DoesB.of_V tab (n := 55) (rs := [.cell 2 37]) Tryz.func115 (by kernel_rfl) rfl Tryz.ntmps115 Tryz.results115 rfl rfl fun C hC hG => ?_
   refine W.seq (W.region ?_)
   refine allocR tab rfl rfl rfl ?_
   refine WO.nil (qs ?_)
   iterate 2 refine W.seq ?_
   refine W.region ?_
   refine pE rfl rfl ?_
   refine callB [0] [] rfl rfl rfl rfl rfl (hs ..) rfl rfl (by rfl) (by rfl) rfl rfl rfl rfl ?_
   refine WO.nil (qs ?_)
   refine condK rfl (fun h5 => ?_) (fun h5 => ?_)
   ·
    refine W.seq (W.region ?_)
    refine pE rfl rfl ?_
    refine callB [0] [] rfl rfl rfl rfl rfl (ih ..) rfl rfl (by rfl) (by rfl) rfl rfl rfl rfl ?_
    refine pu (buildV tab rfl rfl rfl rfl rfl rfl rfl rfl rfl) rfl ?_
    refine pu (build tab rfl rfl rfl rfl) rfl ?_
    refine storeR tab rfl rfl rfl rfl rfl rfl rfl rfl ?_
    refine WO.nil (qs (W.ret (qsRet ?_)))
    refine QB1.end tab [] trivial rfl rfl rfl rfl ?_ ?_
    · exact ⟨rfl, trivial⟩
    rfl
   ·
    exfalso
    simp at h5
  | false =>
   rw [show notP L (compP L sum) (n + 1) st = compP L sum st by simp only [notP]; rw [q]; rfl]
   have hs := rwd_fn L hw kwNot rfl st h hL
   rw [skS_no q, q] at hs
   have l1 := ho.lt st h
   have m1 := ho.mono st
   have nx : ∀ {x}, skB L x (sum st).2 = true → (adv (sum st).2).1 < L.length ∧ L.length - (adv (sum st).2).1 ≤ d := fun hx => ⟨skB_more hw hx l1, by show L.length - ((sum st).2.1 + 1) ≤ d; omega⟩
   refine DoesB.of_V tab (n := 55) (rs := [.cell 2 37]) Tryz.func115 (by kernel_rfl) rfl Tryz.ntmps115 Tryz.results115 rfl rfl fun C hC hG => ?_
   refine W.seq (W.region ?_)
   refine allocR tab rfl rfl rfl ?_
   refine WO.nil (qs ?_)
   iterate 2 refine W.seq ?_
   refine W.region ?_
   refine pE rfl rfl ?_
   refine callB [0] [] rfl rfl rfl rfl rfl (hs ..) rfl rfl (by rfl) (by rfl) rfl rfl rfl rfl ?_
   refine WO.nil (qs ?_)
   refine condK rfl (fun h5 => ?_) (fun h5 => ?_)
   ·
    exfalso
    simp at h5
   ·
    refine W.skip (qs (W.seq (W.region ?_)))
    refine pE rfl rfl ?_
    refine callB [0] [] rfl rfl rfl rfl rfl ((hsum st h hd0)) rfl rfl (by rfl) (by rfl) rfl rfl rfl rfl ?_
    refine allocR tab rfl rfl rfl ?_
    refine storeR tab rfl rfl rfl rfl rfl rfl rfl rfl ?_
    refine WO.nil (qs (W.seq (W.block (W.seq (W.region ?_)))))
    refine pE rfl rfl ?_
    refine callB [0] [] rfl rfl rfl rfl rfl ((rsg_fn L hw gEq rfl _ l1 hL)) rfl rfl (by rfl) (by rfl) rfl rfl rfl rfl ?_
    refine pE rfl rfl ?_
    refine WO.nil (qs ?_)
    refine condK rfl (fun h12 => ?_) (fun h12 => ?_)
    ·
     rw [skS_yes h12]
     rw [cmp_op (op := 10) (by simp only [find_cons]; rw [if_pos h12])]
     refine W.seq ?_
     apply W.regionC tab 3 2; (case hB => kernel_rfl); (case h1 => rfl); (case h2 => rfl)
     first | (refine' ccPu ?p1_1 (ev tab rfl) rfl rfl rfl rfl rfl ?h_1) | (refine' ccPu ?p1_1 (loadRow tab rfl rfl rfl rfl) rfl rfl rfl rfl rfl ?h_1) | (refine' ccPu ?p1_1 (loadBox tab rfl rfl rfl rfl rfl) rfl rfl rfl rfl rfl ?h_1)
     case' h_1 => skip
     refine' ccPu0 (ev tab rfl) rfl rfl rfl rfl rfl ?h_2
     case' h_2 => skip
     refine' ccX (fun g => ?e_3) rfl rfl rfl ?h_3
     case e_3 =>
      refine callB [0] [] rfl rfl rfl rfl rfl ((hsum _ (nx h12).1 (nx h12).2)) rfl rfl (by rfl) (by rfl) rfl rfl rfl rfl ?_
      refine WO.nil ?_
      exact ⟨rfl, rfl⟩
     case' h_3 => skip
     case p1_1 => first | (exact (ev tab rfl)) | (exact (loadRow tab rfl rfl rfl rfl)) | (exact (loadBox tab rfl rfl rfl rfl rfl))
     refine CC.nil ?_
     refine pu (puCall rfl rfl rfl ((rtwo_fn _ _ _)) rfl) rfl ?_
     refine storeR tab rfl rfl rfl rfl rfl rfl rfl rfl ?_
     refine WO.nil (qs (W.ret (qbRet (qsRet ?_))))
     refine QB1.end tab [] trivial rfl rfl rfl rfl ?_ ?_
     · exact ⟨rfl, trivial⟩
     rfl
    ·
     rw [skS_no h12]
     refine W.seq (W.region ?_)
     refine pE rfl rfl ?_
     refine callB [0] [] rfl rfl rfl rfl rfl ((rsg_fn L hw gNe rfl _ l1 hL)) rfl rfl (by rfl) (by rfl) rfl rfl rfl rfl ?_
     refine pE rfl rfl ?_
     refine WO.nil (qs ?_)
     refine condK rfl (fun h19 => ?_) (fun h19 => ?_)
     ·
      rw [skS_yes h19]
      rw [cmp_op (op := 11) (by simp only [find_cons]; rw [if_neg (by simp [h12]), if_pos h19])]
      refine W.seq ?_
      apply W.regionC tab 3 2; (case hB => kernel_rfl); (case h1 => rfl); (case h2 => rfl)
      first | (refine' ccPu ?p1_4 (ev tab rfl) rfl rfl rfl rfl rfl ?h_4) | (refine' ccPu ?p1_4 (loadRow tab rfl rfl rfl rfl) rfl rfl rfl rfl rfl ?h_4) | (refine' ccPu ?p1_4 (loadBox tab rfl rfl rfl rfl rfl) rfl rfl rfl rfl rfl ?h_4)
      case' h_4 => skip
      refine' ccPu0 (ev tab rfl) rfl rfl rfl rfl rfl ?h_5
      case' h_5 => skip
      refine' ccX (fun g => ?e_6) rfl rfl rfl ?h_6
      case e_6 =>
       refine callB [0] [] rfl rfl rfl rfl rfl ((hsum _ (nx h19).1 (nx h19).2)) rfl rfl (by rfl) (by rfl) rfl rfl rfl rfl ?_
       refine WO.nil ?_
       exact ⟨rfl, rfl⟩
      case' h_6 => skip
      case p1_4 => first | (exact (ev tab rfl)) | (exact (loadRow tab rfl rfl rfl rfl)) | (exact (loadBox tab rfl rfl rfl rfl rfl))
      refine CC.nil ?_
      refine pu (puCall rfl rfl rfl ((rtwo_fn _ _ _)) rfl) rfl ?_
      refine storeR tab rfl rfl rfl rfl rfl rfl rfl rfl ?_
      refine WO.nil (qs (W.ret (qbRet (qsRet ?_))))
      refine QB1.end tab [] trivial rfl rfl rfl rfl ?_ ?_
      · exact ⟨rfl, trivial⟩
      rfl
     ·
      rw [skS_no h19]
      refine W.seq (W.region ?_)
      refine pE rfl rfl ?_
      refine callB [0] [] rfl rfl rfl rfl rfl ((rsg_fn L hw gLt rfl _ l1 hL)) rfl rfl (by rfl) (by rfl) rfl rfl rfl rfl ?_
      refine pE rfl rfl ?_
      refine WO.nil (qs ?_)
      refine condK rfl (fun h26 => ?_) (fun h26 => ?_)
      ·
       rw [skS_yes h26]
       rw [cmp_op (op := 12) (by simp only [find_cons]; rw [if_neg (by simp [h12]), if_neg (by simp [h19]), if_pos h26])]
       refine W.seq ?_
       apply W.regionC tab 3 2; (case hB => kernel_rfl); (case h1 => rfl); (case h2 => rfl)
       first | (refine' ccPu ?p1_7 (ev tab rfl) rfl rfl rfl rfl rfl ?h_7) | (refine' ccPu ?p1_7 (loadRow tab rfl rfl rfl rfl) rfl rfl rfl rfl rfl ?h_7) | (refine' ccPu ?p1_7 (loadBox tab rfl rfl rfl rfl rfl) rfl rfl rfl rfl rfl ?h_7)
       case' h_7 => skip
       refine' ccPu0 (ev tab rfl) rfl rfl rfl rfl rfl ?h_8
       case' h_8 => skip
       refine' ccX (fun g => ?e_9) rfl rfl rfl ?h_9
       case e_9 =>
        refine callB [0] [] rfl rfl rfl rfl rfl ((hsum _ (nx h26).1 (nx h26).2)) rfl rfl (by rfl) (by rfl) rfl rfl rfl rfl ?_
        refine WO.nil ?_
        exact ⟨rfl, rfl⟩
       case' h_9 => skip
       case p1_7 => first | (exact (ev tab rfl)) | (exact (loadRow tab rfl rfl rfl rfl)) | (exact (loadBox tab rfl rfl rfl rfl rfl))
       refine CC.nil ?_
       refine pu (puCall rfl rfl rfl ((rtwo_fn _ _ _)) rfl) rfl ?_
       refine storeR tab rfl rfl rfl rfl rfl rfl rfl rfl ?_
       refine WO.nil (qs (W.ret (qbRet (qsRet ?_))))
       refine QB1.end tab [] trivial rfl rfl rfl rfl ?_ ?_
       · exact ⟨rfl, trivial⟩
       rfl
      ·
       rw [skS_no h26]
       refine W.seq (W.region ?_)
       refine pE rfl rfl ?_
       refine callB [0] [] rfl rfl rfl rfl rfl ((rsg_fn L hw gLe rfl _ l1 hL)) rfl rfl (by rfl) (by rfl) rfl rfl rfl rfl ?_
       refine pE rfl rfl ?_
       refine WO.nil (qs ?_)
       refine condK rfl (fun h33 => ?_) (fun h33 => ?_)
       ·
        rw [skS_yes h33]
        rw [cmp_op (op := 13) (by simp only [find_cons]; rw [if_neg (by simp [h12]), if_neg (by simp [h19]), if_neg (by simp [h26]), if_pos h33])]
        refine W.seq ?_
        apply W.regionC tab 3 2; (case hB => kernel_rfl); (case h1 => rfl); (case h2 => rfl)
        first | (refine' ccPu ?p1_10 (ev tab rfl) rfl rfl rfl rfl rfl ?h_10) | (refine' ccPu ?p1_10 (loadRow tab rfl rfl rfl rfl) rfl rfl rfl rfl rfl ?h_10) | (refine' ccPu ?p1_10 (loadBox tab rfl rfl rfl rfl rfl) rfl rfl rfl rfl rfl ?h_10)
        case' h_10 => skip
        refine' ccPu0 (ev tab rfl) rfl rfl rfl rfl rfl ?h_11
        case' h_11 => skip
        refine' ccX (fun g => ?e_12) rfl rfl rfl ?h_12
        case e_12 =>
         refine callB [0] [] rfl rfl rfl rfl rfl ((hsum _ (nx h33).1 (nx h33).2)) rfl rfl (by rfl) (by rfl) rfl rfl rfl rfl ?_
         refine WO.nil ?_
         exact ⟨rfl, rfl⟩
        case' h_12 => skip
        case p1_10 => first | (exact (ev tab rfl)) | (exact (loadRow tab rfl rfl rfl rfl)) | (exact (loadBox tab rfl rfl rfl rfl rfl))
        refine CC.nil ?_
        refine pu (puCall rfl rfl rfl ((rtwo_fn _ _ _)) rfl) rfl ?_
        refine storeR tab rfl rfl rfl rfl rfl rfl rfl rfl ?_
        refine WO.nil (qs (W.ret (qbRet (qsRet ?_))))
        refine QB1.end tab [] trivial rfl rfl rfl rfl ?_ ?_
        · exact ⟨rfl, trivial⟩
        rfl
       ·
        rw [skS_no h33]
        have hc0 : findOp L opsCmp (sum st).2 = none := by simp only [find_cons, find_nil]; rw [if_neg (by simp [h12]), if_neg (by simp [h19]), if_neg (by simp [h26]), if_neg (by simp [h33])]
        refine W.seq (W.region ?_)
        refine pE rfl rfl ?_
        refine callB [0] [] rfl rfl rfl rfl rfl ((rsg_fn L hw gGt rfl _ l1 hL)) rfl rfl (by rfl) (by rfl) rfl rfl rfl rfl ?_
        refine pE rfl rfl ?_
        refine WO.nil (qs ?_)
        refine condK rfl (fun h40 => ?_) (fun h40 => ?_)
        ·
         rw [skS_yes h40]
         rw [cmp_rev (op := 12) hc0 (by simp only [find_cons]; rw [if_pos h40])]
         refine W.seq ?_
         apply W.regionC tab 3 1; (case hB => kernel_rfl); (case h1 => rfl); (case h2 => rfl)
         refine' ccPu0 (ev tab rfl) rfl rfl rfl rfl rfl ?h_13
         case' h_13 => skip
         refine' ccX (fun g => ?e_14) rfl rfl rfl ?h_14
         case e_14 =>
          refine callB [0] [] rfl rfl rfl rfl rfl ((hsum _ (nx h40).1 (nx h40).2)) rfl rfl (by rfl) (by rfl) rfl rfl rfl rfl ?_
          refine WO.nil ?_
          exact ⟨rfl, rfl⟩
         case' h_14 => skip
         first | (refine ccPu (ev tab rfl) (ev tab rfl) rfl rfl rfl rfl rfl ?_) | (refine ccPu (loadRow tab rfl rfl rfl rfl) (loadRow tab rfl rfl rfl rfl) rfl rfl rfl rfl rfl ?_) | (refine ccPu (loadBox tab rfl rfl rfl rfl rfl) (loadBox tab rfl rfl rfl rfl rfl) rfl rfl rfl rfl rfl ?_)
         refine CC.nil ?_
         refine pu (puCall rfl rfl rfl ((rtwo_fn _ _ _)) rfl) rfl ?_
         refine storeR tab rfl rfl rfl rfl rfl rfl rfl rfl ?_
         refine WO.nil (qs (W.ret (qbRet (qsRet ?_))))
         refine QB1.end tab [] trivial rfl rfl rfl rfl ?_ ?_
         · exact ⟨rfl, trivial⟩
         rfl
        ·
         rw [skS_no h40]
         refine W.seq (W.region ?_)
         refine pE rfl rfl ?_
         refine callB [0] [] rfl rfl rfl rfl rfl ((rsg_fn L hw gGe rfl _ l1 hL)) rfl rfl (by rfl) (by rfl) rfl rfl rfl rfl ?_
         refine pE rfl rfl ?_
         refine WO.nil (qs ?_)
         refine condK rfl (fun h47 => ?_) (fun h47 => ?_)
         ·
          rw [skS_yes h47]
          rw [cmp_rev (op := 13) hc0 (by simp only [find_cons]; rw [if_neg (by simp [h40]), if_pos h47])]
          refine W.seq ?_
          apply W.regionC tab 3 1; (case hB => kernel_rfl); (case h1 => rfl); (case h2 => rfl)
          refine' ccPu0 (ev tab rfl) rfl rfl rfl rfl rfl ?h_16
          case' h_16 => skip
          refine' ccX (fun g => ?e_17) rfl rfl rfl ?h_17
          case e_17 =>
           refine callB [0] [] rfl rfl rfl rfl rfl ((hsum _ (nx h47).1 (nx h47).2)) rfl rfl (by rfl) (by rfl) rfl rfl rfl rfl ?_
           refine WO.nil ?_
           exact ⟨rfl, rfl⟩
          case' h_17 => skip
          first | (refine ccPu (ev tab rfl) (ev tab rfl) rfl rfl rfl rfl rfl ?_) | (refine ccPu (loadRow tab rfl rfl rfl rfl) (loadRow tab rfl rfl rfl rfl) rfl rfl rfl rfl rfl ?_) | (refine ccPu (loadBox tab rfl rfl rfl rfl rfl) (loadBox tab rfl rfl rfl rfl rfl) rfl rfl rfl rfl rfl ?_)
          refine CC.nil ?_
          refine pu (puCall rfl rfl rfl ((rtwo_fn _ _ _)) rfl) rfl ?_
          refine storeR tab rfl rfl rfl rfl rfl rfl rfl rfl ?_
          refine WO.nil (qs (W.ret (qbRet (qsRet ?_))))
          refine QB1.end tab [] trivial rfl rfl rfl rfl ?_ ?_
          · exact ⟨rfl, trivial⟩
          rfl
         ·
          rw [skS_no h47]
          rw [cmp_none hc0 (by simp only [find_cons, find_nil]; rw [if_neg (by simp [h40]), if_neg (by simp [h47])])]
          refine W.skip (qbN (qs (W.seq (W.region ?_))))
          first | refine pE rfl rfl ?_ | refine pR rfl rfl rfl rfl rfl ?_ | refine pB rfl rfl rfl rfl rfl rfl ?_
          refine storeR tab rfl rfl rfl rfl rfl rfl rfl rfl ?_
          refine WO.nil (qs (W.ret ?_))
          refine QB1.end tab [] trivial rfl rfl rfl rfl ?_ ?_
          · exact ⟨rfl, trivial⟩
          rfl
theorem runary_fn (L : List Tk) (hw : Wf L) (hL : L.length ≤ 3000000) (prim : Pr Ex) (d : Nat) (hprim : RdR L 160 prim d) : ∀ n st, st.1 < L.length → L.length - st.1 ≤ d → L.length - st.1 ≤ n → DoesB Tryz.prog 152 [.ptr 0 0] [bxR L st] 0 (.ag (unaryP L prim n st).1.c) [bxR L (unaryP L prim n st).2] 0
 | 0, st, h, _, hn => by omega
 | n + 1, st, h, hd0, hn => by
  cases q : skB L gSub st with
  | false =>
   rw [show unaryP L prim (n + 1) st = prim st by simp only [unaryP]; rw [q]; rfl]
   have hs := rsg_fn L hw gSub rfl st h hL
   rw [skS_no q, q] at hs
   refine DoesB.of_V tab (n := 11) (rs := [.cell 2 37]) Tryz.func152 (by kernel_rfl) rfl Tryz.ntmps152 Tryz.results152 rfl rfl fun C hC hG => ?_
   refine W.seq (W.region ?_)
   refine allocR tab rfl rfl rfl ?_
   refine WO.nil (qs ?_)
   iterate 2 refine W.seq ?_
   refine W.region ?_
   refine pE rfl rfl ?_
   refine callB [0] [] rfl rfl rfl rfl rfl (hs ..) rfl rfl (by rfl) (by rfl) rfl rfl rfl rfl ?_
   refine WO.nil (qs ?_)
   refine condK rfl (fun h4 => ?_) (fun h4 => ?_)
   ·
    exfalso
    simp at h4
   ·
    refine W.skip (qs (W.seq (W.region ?_)))
    refine pE rfl rfl ?_
    refine callB [0] [] rfl rfl rfl rfl rfl ((hprim st h hd0)) rfl rfl (by rfl) (by rfl) rfl rfl rfl rfl ?_
    refine storeR tab rfl rfl rfl rfl rfl rfl rfl rfl ?_
    refine WO.nil (qs (W.ret ?_))
    refine QB1.end tab [] trivial rfl rfl rfl rfl ?_ ?_
    · exact ⟨rfl, trivial⟩
    rfl
  | true =>
   have l1 := skB_more hw q h
   have ih := runary_fn L hw hL prim d hprim n (adv st) l1 (by show L.length - (st.1 + 1) ≤ d; omega) (by show L.length - (st.1 + 1) ≤ n; omega)
   rw [show unaryP L prim (n + 1) st = (mk1 4 (unaryP L prim n (adv st)).1, (unaryP L prim n (adv st)).2) by simp only [unaryP]; rw [q]; rfl]
   have hs := rsg_fn L hw gSub rfl st h hL
   rw [skS_yes q, q] at hs
   refine DoesB.of_V tab (n := 11) (rs := [.cell 2 37]) Tryz.func152 (by kernel_rfl) rfl Tryz.ntmps152 Tryz.results152 rfl rfl fun C hC hG => ?_
   refine W.seq (W.region ?_)
   refine allocR tab rfl rfl rfl ?_
   refine WO.nil (qs ?_)
   iterate 2 refine W.seq ?_
   refine W.region ?_
   refine pE rfl rfl ?_
   refine callB [0] [] rfl rfl rfl rfl rfl (hs ..) rfl rfl (by rfl) (by rfl) rfl rfl rfl rfl ?_
   refine WO.nil (qs ?_)
   refine condK rfl (fun h4 => ?_) (fun h4 => ?_)
   ·
    refine W.seq (W.region ?_)
    refine pE rfl rfl ?_
    refine callB [0] [] rfl rfl rfl rfl rfl (ih ..) rfl rfl (by rfl) (by rfl) rfl rfl rfl rfl ?_
    refine pu (buildV tab rfl rfl rfl rfl rfl rfl rfl rfl rfl) rfl ?_
    refine pu (build tab rfl rfl rfl rfl) rfl ?_
    refine storeR tab rfl rfl rfl rfl rfl rfl rfl rfl ?_
    refine WO.nil (qs (W.ret (qsRet ?_)))
    refine QB1.end tab [] trivial rfl rfl rfl rfl ?_ ?_
    · exact ⟨rfl, trivial⟩
    rfl
   ·
    exfalso
    simp at h4
end Go.Proofs.YtifeonoehfffmaaGreatDoor
namespace Go.Proofs.YtifeonoehfffmaaGreatDoor
open Go.Ab Go.Tb
set_option maxRecDepth 10000
attribute [local irreducible] W WO Pu QS QB QL QF QV QV1 CH QE
def negR (L : List Tk) (k : Nat) : Bool := decide (k + 2 < L.length) && (isT (tk0 L (k, false)) gSub && (decide ((tk0 L (k + 1, false)).kind = 3) && isT (tk0 L (k + 2, false)) gShut))
theorem tk_ok' {L : List Tk} (hw : Wf L) {k : Nat} (h : k < L.length) : (tk0 L (k, false)).ok = true := tk_ok hw (st := (k, false)) h
theorem rneg_fn (L : List Tk) (hw : Wf L) (hL : L.length ≤ 3000000) (st : PS) (h : st.1 < L.length) : DoesB Tryz.prog 168 [.ptr 0 0] [bxR L st] 0 (.d (.v (.bool (negR L st.1)))) [bxR L st] 0 := by
 obtain ⟨k, b⟩ := st
 have hk3 : k < L.length := h
 have len : (L.map Tk.r).length = L.length := by simp
 refine DoesB.of_V tab (n := 87) (rs := [.tmp 2]) Tryz.func168 (by kernel_rfl) rfl Tryz.ntmps168 Tryz.results168 rfl rfl fun C hC hG => ?_
 refine W.seq (W.region ?_)
 refine pE rfl rfl ?_
 refine WO.nil (qs (W.seq ?_))
 apply regionDB tab; (case hb => rfl); (case hB => kernel_rfl)
 ·
  iterate 3 refine chPu (ev tab rfl) rfl ?_
  first | refine chPu (ev tab rfl) rfl ?_ | refine chPu (loadRow tab rfl rfl rfl rfl) rfl ?_ | refine chPu (loadBox tab rfl rfl rfl rfl rfl) rfl ?_
  refine chPu (puI (ev tab rfl) (y := ((k + 2 : Nat) : Int)) (by rw [wrap64 (by omega)]; rfl)) rfl ?_
  iterate 3 refine chPu (ev tab rfl) rfl ?_
  first | refine chPu (ev tab rfl) rfl ?_ | refine chPu (loadRow tab rfl rfl rfl rfl) rfl ?_ | refine chPu (loadBox tab rfl rfl rfl rfl rfl) rfl ?_
  iterate 3 refine chPu (ev tab rfl) rfl ?_
  apply chSplitH; (case hj => rfl); (case hl => rfl)
  ·
   intro g14
   refine chGo rfl rfl (ev tab rfl) rfl ?_
   refine chGo rfl rfl (ev tab rfl) rfl ?_
   refine chGo rfl rfl (ev tab rfl) rfl ?_
   first | refine chGo rfl rfl (ev tab rfl) rfl ?_ | refine chGo rfl rfl (loadRow tab rfl rfl rfl rfl) rfl ?_ | refine chGo rfl rfl (loadBox tab rfl rfl rfl rfl rfl) rfl ?_
   refine chGo rfl rfl (ev tab rfl) rfl ?_
   refine chGo rfl rfl (ev tab rfl) rfl ?_
   refine chGo rfl rfl (ev tab rfl) rfl ?_
   first | refine chGo rfl rfl (ev tab rfl) rfl ?_ | refine chGo rfl rfl (loadRow tab rfl rfl rfl rfl) rfl ?_ | refine chGo rfl rfl (loadBox tab rfl rfl rfl rfl rfl) rfl ?_
   refine chGo rfl rfl (indexAddr (l := (tk0 L (k, false)).r) tab rfl rfl rfl rfl rfl rfl (Int.natCast_nonneg _) (idx_map (f := Tk.r) (tk_get (by simp [len] at g14; omega))) rfl) rfl ?_
   refine chGo rfl rfl (ev tab rfl) rfl ?_
   first | refine chGo rfl rfl (ev tab rfl) rfl ?_ | refine chGo rfl rfl (loadRow tab rfl rfl rfl rfl) rfl ?_ | refine chGo rfl rfl (loadBox tab rfl rfl rfl rfl rfl) rfl ?_
   refine chGo rfl rfl (ev tab rfl) rfl ?_
   iterate 2 refine chPu (ev tab rfl) rfl ?_
   apply chSplitH; (case hj => rfl); (case hl => rfl)
   ·
    intro g28
    refine chGo rfl rfl (ev tab rfl) rfl ?_
    refine chGo rfl rfl (ev tab rfl) rfl ?_
    refine chGo rfl rfl (ev tab rfl) rfl ?_
    first | refine chGo rfl rfl (ev tab rfl) rfl ?_ | refine chGo rfl rfl (loadRow tab rfl rfl rfl rfl) rfl ?_ | refine chGo rfl rfl (loadBox tab rfl rfl rfl rfl rfl) rfl ?_
    refine chGo rfl rfl (ev tab rfl) rfl ?_
    refine chGo rfl rfl (ev tab rfl) rfl ?_
    refine chGo rfl rfl (ev tab rfl) rfl ?_
    first | refine chGo rfl rfl (ev tab rfl) rfl ?_ | refine chGo rfl rfl (loadRow tab rfl rfl rfl rfl) rfl ?_ | refine chGo rfl rfl (loadBox tab rfl rfl rfl rfl rfl) rfl ?_
    refine chGo rfl rfl (indexAddr (l := (tk0 L (k, false)).r) tab rfl rfl rfl rfl rfl rfl (Int.natCast_nonneg _) (idx_map (f := Tk.r) (tk_get (by simp [len] at g14; omega))) rfl) rfl ?_
    refine chGo rfl rfl (ev tab rfl) rfl ?_
    first | refine chGo rfl rfl (ev tab rfl) rfl ?_ | refine chGo rfl rfl (loadRow tab rfl rfl rfl rfl) rfl ?_ | refine chGo rfl rfl (loadBox tab rfl rfl rfl rfl rfl) rfl ?_
    refine chGo rfl rfl (ev tab rfl) rfl ?_
    iterate 2 refine chPu (ev tab rfl) rfl ?_
    apply chSplitH; (case hj => rfl); (case hl => rfl)
    ·
     intro g42
     refine chGo rfl rfl (ev tab rfl) rfl ?_
     refine chGo rfl rfl (ev tab rfl) rfl ?_
     refine chGo rfl rfl (ev tab rfl) rfl ?_
     first | refine chGo rfl rfl (ev tab rfl) rfl ?_ | refine chGo rfl rfl (loadRow tab rfl rfl rfl rfl) rfl ?_ | refine chGo rfl rfl (loadBox tab rfl rfl rfl rfl rfl) rfl ?_
     refine chGo rfl rfl (ev tab rfl) rfl ?_
     refine chGo rfl rfl (ev tab rfl) rfl ?_
     refine chGo rfl rfl (ev tab rfl) rfl ?_
     first | refine chGo rfl rfl (ev tab rfl) rfl ?_ | refine chGo rfl rfl (loadRow tab rfl rfl rfl rfl) rfl ?_ | refine chGo rfl rfl (loadBox tab rfl rfl rfl rfl rfl) rfl ?_
     refine chGo rfl rfl (puI (ev tab rfl) (y := ((k + 1 : Nat) : Int)) (by rw [wrap64 (by omega)]; rfl)) rfl ?_
     refine chGo rfl rfl (indexAddr (l := (tk0 L (k + 1, false)).r) tab rfl rfl rfl rfl rfl rfl (Int.natCast_nonneg _) (idx_map (f := Tk.r) (tk_get (by simp [len] at g14; omega))) rfl) rfl ?_
     refine chGo rfl rfl (ev tab rfl) rfl ?_
     first | refine chGo rfl rfl (ev tab rfl) rfl ?_ | refine chGo rfl rfl (loadRow tab rfl rfl rfl rfl) rfl ?_ | refine chGo rfl rfl (loadBox tab rfl rfl rfl rfl rfl) rfl ?_
     refine chGo rfl rfl (ev tab rfl) rfl ?_
     iterate 2 refine chPu (ev tab rfl) rfl ?_
     apply chSplitH; (case hj => rfl); (case hl => rfl)
     ·
      intro g57
      refine chGo rfl rfl (ev tab rfl) rfl ?_
      refine chGo rfl rfl (ev tab rfl) rfl ?_
      refine chGo rfl rfl (ev tab rfl) rfl ?_
      first | refine chGo rfl rfl (ev tab rfl) rfl ?_ | refine chGo rfl rfl (loadRow tab rfl rfl rfl rfl) rfl ?_ | refine chGo rfl rfl (loadBox tab rfl rfl rfl rfl rfl) rfl ?_
      refine chGo rfl rfl (ev tab rfl) rfl ?_
      refine chGo rfl rfl (ev tab rfl) rfl ?_
      refine chGo rfl rfl (ev tab rfl) rfl ?_
      first | refine chGo rfl rfl (ev tab rfl) rfl ?_ | refine chGo rfl rfl (loadRow tab rfl rfl rfl rfl) rfl ?_ | refine chGo rfl rfl (loadBox tab rfl rfl rfl rfl rfl) rfl ?_
      refine chGo rfl rfl (puI (ev tab rfl) (y := ((k + 2 : Nat) : Int)) (by rw [wrap64 (by omega)]; rfl)) rfl ?_
      refine chGo rfl rfl (indexAddr (l := (tk0 L (k + 2, false)).r) tab rfl rfl rfl rfl rfl rfl (Int.natCast_nonneg _) (idx_map (f := Tk.r) (tk_get (by simp [len] at g14; omega))) rfl) rfl ?_
      refine chGo rfl rfl (ev tab rfl) rfl ?_
      first | refine chGo rfl rfl (ev tab rfl) rfl ?_ | refine chGo rfl rfl (loadRow tab rfl rfl rfl rfl) rfl ?_ | refine chGo rfl rfl (loadBox tab rfl rfl rfl rfl rfl) rfl ?_
      refine chGo rfl rfl (ev tab rfl) rfl ?_
      iterate 2 refine chPu (ev tab rfl) rfl ?_
      apply chSplitH; (case hj => rfl); (case hl => rfl)
      ·
       intro g72
       refine chGo rfl rfl (ev tab rfl) rfl ?_
       refine chGo rfl rfl (ev tab rfl) rfl ?_
       refine chGo rfl rfl (ev tab rfl) rfl ?_
       first | refine chGo rfl rfl (ev tab rfl) rfl ?_ | refine chGo rfl rfl (loadRow tab rfl rfl rfl rfl) rfl ?_ | refine chGo rfl rfl (loadBox tab rfl rfl rfl rfl rfl) rfl ?_
       refine chGo rfl rfl (ev tab rfl) rfl ?_
       refine chGo rfl rfl (ev tab rfl) rfl ?_
       refine chGo rfl rfl (ev tab rfl) rfl ?_
       first | refine chGo rfl rfl (ev tab rfl) rfl ?_ | refine chGo rfl rfl (loadRow tab rfl rfl rfl rfl) rfl ?_ | refine chGo rfl rfl (loadBox tab rfl rfl rfl rfl rfl) rfl ?_
       refine chGo rfl rfl (puI (ev tab rfl) (y := ((k + 2 : Nat) : Int)) (by rw [wrap64 (by omega)]; rfl)) rfl ?_
       refine chGo rfl rfl (indexAddr (l := (tk0 L (k + 2, false)).r) tab rfl rfl rfl rfl rfl rfl (Int.natCast_nonneg _) (idx_map (f := Tk.r) (tk_get (by simp [len] at g14; omega))) rfl) rfl ?_
       refine chGo rfl rfl (ev tab rfl) rfl ?_
       first | refine chGo rfl rfl (ev tab rfl) rfl ?_ | refine chGo rfl rfl (loadRow tab rfl rfl rfl rfl) rfl ?_ | refine chGo rfl rfl (loadBox tab rfl rfl rfl rfl rfl) rfl ?_
       refine chGo rfl rfl (ev tab rfl) rfl ?_
       iterate 2 refine chPu (ev tab rfl) rfl ?_
       refine CH.nil ?_
       refine qv1 rfl rfl rfl
      ·
       intro g72
       iterate 13 refine chSkip rfl rfl rfl rfl ?_
       iterate 2 refine chPu (ev tab rfl) rfl ?_
       refine CH.nil ?_
       refine qv1 rfl rfl rfl
     ·
      intro g57
      iterate 13 refine chSkip rfl rfl rfl rfl ?_
      iterate 2 refine chPu (ev tab rfl) rfl ?_
      iterate 13 refine chSkip rfl rfl rfl rfl ?_
      iterate 2 refine chPu (ev tab rfl) rfl ?_
      refine CH.nil ?_
      refine qv1 rfl rfl rfl
    ·
     intro g42
     iterate 13 refine chSkip rfl rfl rfl rfl ?_
     iterate 2 refine chPu (ev tab rfl) rfl ?_
     iterate 13 refine chSkip rfl rfl rfl rfl ?_
     iterate 2 refine chPu (ev tab rfl) rfl ?_
     iterate 13 refine chSkip rfl rfl rfl rfl ?_
     iterate 2 refine chPu (ev tab rfl) rfl ?_
     refine CH.nil ?_
     refine qv1 rfl rfl rfl
   ·
    intro g28
    iterate 12 refine chSkip rfl rfl rfl rfl ?_
    iterate 2 refine chPu (ev tab rfl) rfl ?_
    iterate 13 refine chSkip rfl rfl rfl rfl ?_
    iterate 2 refine chPu (ev tab rfl) rfl ?_
    iterate 13 refine chSkip rfl rfl rfl rfl ?_
    iterate 2 refine chPu (ev tab rfl) rfl ?_
    iterate 13 refine chSkip rfl rfl rfl rfl ?_
    iterate 2 refine chPu (ev tab rfl) rfl ?_
    refine CH.nil ?_
    refine qv1 rfl rfl rfl
  ·
   intro g14
   iterate 12 refine chSkip rfl rfl rfl rfl ?_
   iterate 2 refine chPu (ev tab rfl) rfl ?_
   iterate 12 refine chSkip rfl rfl rfl rfl ?_
   iterate 2 refine chPu (ev tab rfl) rfl ?_
   iterate 13 refine chSkip rfl rfl rfl rfl ?_
   iterate 2 refine chPu (ev tab rfl) rfl ?_
   iterate 13 refine chSkip rfl rfl rfl rfl ?_
   iterate 2 refine chPu (ev tab rfl) rfl ?_
   iterate 13 refine chSkip rfl rfl rfl rfl ?_
   iterate 2 refine chPu (ev tab rfl) rfl ?_
   refine CH.nil ?_
   refine qv1 rfl rfl rfl
 refine qs (W.ret ?_)
 refine QB1.end tab [] trivial rfl rfl rfl rfl ?_ ?_
 · exact ⟨rfl, trivial⟩
 refine bool_A ?_
 by_cases hlt : k + 2 < L.length
 ·
  have o0 := tk_ok' hw (k := k) (by omega)
  have o1 := tk_ok' hw (k := k + 1) (by omega)
  have o2 := tk_ok' hw (k := k + 2) (by omega)
  simp only [negR]
  rw [isT_sign o0 (x := gSub) rfl, isT_sign o2 (x := gShut) rfl]
  simp only [kindR_2 o1, len]
  have e : ((k + 2 : Nat) : Int) < (L.length : Int) := by omega
  simp [hlt, e]
  try grind
 ·
  have e : ¬ ((k + 2 : Nat) : Int) < (L.length : Int) := by omega
  simp only [negR, len]
  simp [hlt]
  intro q
  omega
end Go.Proofs.YtifeonoehfffmaaGreatDoor
namespace Go.Proofs.YtifeonoehfffmaaGreatDoor
open Go.Ab Go.Tb
set_option maxRecDepth 10000
attribute [local irreducible] W WO Pu QS QB QL QF QV QV1 CH QE
theorem rcall_fn (L : List Tk) (hw : Wf L) (hL : L.length ≤ 3000000) (o : Pr Ex) (ho : Goes L o) (d : Nat) (hor : RdR L 40 o d) (nm : ByteArray) (st : PS) (h : st.1 < L.length) (hd0 : L.length - st.1 ≤ d) :
  DoesB Tryz.prog 167 [.ptr 0 0, .d (.v (.string nm))] [bxR L st] 0 (.ag (callP L o nm st).1.c) [bxR L (callP L o nm st).2] 0 := by
 have l1 := ho.lt st h
 have m1 := ho.mono st
 refine DoesB.of_V tab (n := 30) (rs := [.cell 4 37]) Tryz.func167 (by kernel_rfl) rfl Tryz.ntmps167 Tryz.results167 rfl rfl fun C hC hG => ?_
 refine W.seq (W.region ?_)
 refine allocR tab rfl rfl rfl ?_
 refine WO.nil (qs (W.seq (W.region ?_)))
 refine pE rfl rfl ?_
 refine pu (build tab rfl rfl rfl rfl) rfl ?_
 refine allocR tab rfl rfl rfl ?_
 refine storeR tab rfl rfl rfl rfl rfl rfl rfl rfl ?_
 refine WO.nil (qs ?_)
 iterate 2 refine W.seq ?_
 refine W.region ?_
 refine pE rfl rfl ?_
 refine callB [0] [] rfl rfl rfl rfl rfl ((rsg_fn L hw gShut rfl st h hL)) rfl rfl (by rfl) (by rfl) rfl rfl rfl rfl ?_
 refine WO.nil (qs ?_)
 refine condK rfl (fun h9 => ?_) (fun h9 => ?_)
 ·
  rw [skS_yes h9]
  rw [show callP L o nm st = (exC nm [], adv st) by unfold callP; rw [if_pos h9]]
  refine W.seq (W.region ?_)
  first | refine pE rfl rfl ?_ | refine pR rfl rfl rfl rfl rfl ?_ | refine pB rfl rfl rfl rfl rfl rfl ?_
  refine storeR tab rfl rfl rfl rfl rfl rfl rfl rfl ?_
  refine WO.nil (qs ?_)
  try refine nilBox 1 5 rfl rfl rfl ?_
  refine W.ret (qsRet ?_)
  refine QB1.end tab [] trivial rfl rfl rfl rfl ?_ ?_
  · exact ⟨rfl, trivial⟩
  rfl
 ·
  rw [skS_no h9]
  rw [show callP L o nm st = (exC nm (listP L o st).1, needP L gShut (listP L o st).2) by unfold callP; rw [if_neg (by simp [h9])]]
  have l5 := (listP_goes hw ho).lt st h
  refine W.skip (qs (W.seq ?_))
  apply W.regionC tab 5 3; (case hB => kernel_rfl); (case h1 => rfl); (case h2 => rfl)
  refine' ccPu ?p1_1 (ev tab rfl) rfl rfl rfl rfl rfl ?h_1
  case' h_1 => skip
  first | (refine' ccPu ?p1_2 (ev tab rfl) rfl rfl rfl rfl rfl ?h_2) | (refine' ccPu ?p1_2 (loadRow tab rfl rfl rfl rfl) rfl rfl rfl rfl rfl ?h_2) | (refine' ccPu ?p1_2 (loadBox tab rfl rfl rfl rfl rfl) rfl rfl rfl rfl rfl ?h_2)
  case' h_2 => skip
  refine' ccPu0 (ev tab rfl) rfl rfl rfl rfl rfl ?h_3
  case' h_3 => skip
  refine' ccX (fun g => ?e_4) rfl rfl rfl ?h_4
  case e_4 =>
   refine callB [0] [] rfl rfl rfl rfl rfl ((hor st h hd0)) rfl rfl (by rfl) (by rfl) rfl rfl rfl rfl ?_
   refine WO.nil ?_
   exact ⟨rfl, rfl⟩
  case' h_4 => skip
  case p1_1 => exact (ev tab rfl)
  case p1_2 => first | (exact (ev tab rfl)) | (exact (loadRow tab rfl rfl rfl rfl)) | (exact (loadBox tab rfl rfl rfl rfl rfl))
  refine ccPu1 (buildV tab rfl rfl rfl rfl rfl rfl rfl rfl rfl) rfl rfl rfl rfl rfl ?_
  refine CC.nil ?_
  refine appendNilR tab rfl rfl rfl rfl rfl rfl rfl rfl rfl (es2 := [(o st).1].map Ex.c) (fun x hx => by obtain rfl := List.mem_singleton.1 hx; rfl) (by show 1 * 80 ≤ 140737488355328; decide) ?_
  refine pE rfl rfl ?_
  refine storeR tab rfl rfl rfl rfl rfl rfl rfl rfl ?_
  refine WO.nil (qs (W.seq (W.block ?_)))
  refine W.loopR (ι := {x : Nat × PS × List Ex // match x with | (n, s1, acc) => s1.1 < L.length ∧ L.length - s1.1 ≤ d ∧ L.length - s1.1 ≤ n ∧ acc ++ (listGo L gCom o n s1).1 = (listP L o st).1 ∧ (listGo L gCom o n s1).2 = (listP L o st).2 ∧ acc.length ≤ s1.1 + 1})
   (fun x => match x.1 with | (n, s1, acc) => [(0, .ptr 0 0), (4, .ptr 1 0), (5, .ptr 2 0)]) []
   (fun x => match x.1 with | (n, s1, acc) => [(0, bxR L s1), (2, [.d (ci 16), .d (cs nm), .d (ci 0), .d (ci 0), .d (cs E0), .own 3 (acc.map Ex.c)])]) [(1, _)] [3] 4 (fun x => match x.1 with | (n, s1, acc) => n)
   [0, 1, 2, 5] ⟨(L.length, (o st).2, [(o st).1]), ?_⟩ rfl ?_ trivial ?_ ⟨rfl, rfl, trivial⟩ rfl ?_
  · exact ⟨l1, by omega, by omega, rfl, rfl, by simp⟩
  · repeat' first | exact trivial | refine ⟨rfl, ?_⟩ | refine ⟨step_nat (by assumption) (by assumption), ?_⟩
  · repeat' first | exact trivial | refine ⟨rfl, ?_⟩ | refine ⟨step_nat (by assumption) (by assumption), ?_⟩
  rintro ⟨⟨n, s1, acc⟩, hk, hd, hn, hI, hJ, hA⟩
  show W _ _ _ _ _ ⟨[(0, .ptr 0 0), (4, .ptr 1 0), (5, .ptr 2 0)], [(0, bxR L s1), (2, [.d (ci 16), .d (cs nm), .d (ci 0), .d (ci 0), .d (cs E0), .own 3 (acc.map Ex.c)]), (1, _)], [3], 4⟩
  obtain ⟨n', rfl⟩ : ∃ n', n = n' + 1 := ⟨n - 1, by omega⟩
  simp only [listGo] at hI hJ
  iterate 2 refine W.seq ?_
  refine W.region ?_
  refine pE rfl rfl ?_
  refine callB [0] [] rfl rfl rfl rfl rfl ((rsg_fn L hw gCom rfl s1 hk hL)) rfl rfl (by rfl) (by rfl) rfl rfl rfl rfl ?_
  refine WO.nil (qs ?_)
  refine condK rfl (fun h19 => ?_) (fun h19 => ?_)
  ·
   have l2 := skB_more hw h19 hk
   have l3 := ho.lt (adv s1) l2
   have m3 : s1.1 + 1 ≤ (o (adv s1)).2.1 := ho.mono (adv s1)
   rw [if_pos h19] at hI hJ
   rw [skS_yes h19]
   refine W.skip (qs (W.block ?_))
   apply W.regionC tab 5 3; (case hB => kernel_rfl); (case h1 => rfl); (case h2 => rfl)
   refine' ccPu ?p1_6 (ev tab rfl) rfl rfl rfl rfl rfl ?h_6
   case' h_6 => skip
   first | (refine' ccPu ?p1_7 (ev tab rfl) rfl rfl rfl rfl rfl ?h_7) | (refine' ccPu ?p1_7 (loadRow tab rfl rfl rfl rfl) rfl rfl rfl rfl rfl ?h_7) | (refine' ccPu ?p1_7 (loadBox tab rfl rfl rfl rfl rfl) rfl rfl rfl rfl rfl ?h_7)
   case' h_7 => skip
   refine' ccPu0 (ev tab rfl) rfl rfl rfl rfl rfl ?h_8
   case' h_8 => skip
   refine' ccX (fun g => ?e_9) rfl rfl rfl ?h_9
   case e_9 =>
    refine callB [0] [] rfl rfl rfl rfl rfl ((hor (adv s1) l2 (by show L.length - (s1.1 + 1) ≤ d; omega))) rfl rfl (by rfl) (by rfl) rfl rfl rfl rfl ?_
    refine WO.nil ?_
    exact ⟨rfl, rfl⟩
   case' h_9 => skip
   case p1_6 => exact (ev tab rfl)
   case p1_7 => first | (exact (ev tab rfl)) | (exact (loadRow tab rfl rfl rfl rfl)) | (exact (loadBox tab rfl rfl rfl rfl rfl))
   refine ccPu1 (buildV tab rfl rfl rfl rfl rfl rfl rfl rfl rfl) rfl rfl rfl rfl rfl ?_
   refine CC.nil ?_
   refine appendM (fn := Ex.c) (a := (o (adv s1)).1) tab rfl rfl rfl rfl rfl rfl rfl rfl rfl rfl (fun _ => rfl) (by show (acc.length + 1) * 80 ≤ _; omega) ?_
   refine pE rfl rfl ?_
   refine storeR tab rfl rfl rfl rfl rfl rfl rfl rfl ?_
   refine WO.nil (qbN ?_)
   first | (refine W.endR [0, 1, 2, 6] ⟨(n', (o (adv s1)).2, acc ++ [(o (adv s1)).1]), ?_⟩ ?_ rfl ?_ trivial ?_ ⟨rfl, rfl, trivial⟩ rfl) | (refine W.endR [0, 1, 2, 5] ⟨(n', (o (adv s1)).2, acc ++ [(o (adv s1)).1]), ?_⟩ ?_ rfl ?_ trivial ?_ ⟨rfl, rfl, trivial⟩ rfl) | (refine W.endR [0, 1, 2, 4] ⟨(n', (o (adv s1)).2, acc ++ [(o (adv s1)).1]), ?_⟩ ?_ rfl ?_ trivial ?_ ⟨rfl, rfl, trivial⟩ rfl)
   · exact ⟨l3, by omega, by omega, by rw [← hI]; simp, hJ, by simp; omega⟩
   · dsimp only; omega
   · repeat' first | exact trivial | refine ⟨rfl, ?_⟩ | refine ⟨step_nat (by assumption) (by assumption), ?_⟩
   · repeat' first | exact trivial | refine ⟨rfl, ?_⟩ | refine ⟨step_nat (by assumption) (by assumption), ?_⟩
  ·
   rw [if_neg (by simp [h19])] at hI hJ
   rw [skS_no h19]
   simp only [List.append_nil] at hI hJ
   refine W.exit (qsExit (qlExit (qbExit (qs (W.seq (W.region ?_))))))
   refine pE rfl rfl ?_
   refine callB [0] [] rfl rfl rfl rfl rfl ((rneed_fn L hw gShut (.inl rfl) s1 hk hL)) rfl rfl (by rfl) (by rfl) rfl rfl rfl rfl ?_
   refine WO.nil (qs (W.seq (W.region ?_)))
   first | refine pE rfl rfl ?_ | refine pR rfl rfl rfl rfl rfl ?_ | refine pB rfl rfl rfl rfl rfl rfl ?_
   refine storeR tab rfl rfl rfl rfl rfl rfl rfl rfl ?_
   refine WO.nil (qs ?_)
   try refine nilBox 1 5 rfl rfl rfl ?_
   refine W.ret ?_
   refine QB1.end tab [] trivial rfl rfl rfl rfl ?_ ?_
   ·
    rw [show needP L gShut (listP L o st).2 = needP L gShut s1 by rw [hJ]]
    exact ⟨rfl, trivial⟩
   rw [← hI]
   show _ = A.ag (exC nm acc).c
   rw [exC_c]
   rfl
end Go.Proofs.YtifeonoehfffmaaGreatDoor
namespace Go.Proofs.YtifeonoehfffmaaGreatDoor
open Go.Ab Go.Tb
set_option maxRecDepth 10000
attribute [local irreducible] W WO Pu QS QB QL QF QV QV1 CH QE
theorem negR_negB {L : List Tk} (hw : Wf L) {st : PS} (h : st.1 < L.length) (ho : isT (tk0 L st) gOpen = true) : negR L (st.1 + 1) = negB L st := by
 unfold negR negB
 rw [ho, Bool.true_and]
 by_cases hlt : st.1 + 3 < L.length
 ·
  have e1 : pkT L st.1 1 = tk0 L (st.1 + 1, false) := by unfold pkT tk0; rw [Nat.min_eq_left (by omega)]
  have e2 : pkT L st.1 2 = tk0 L (st.1 + 1 + 1, false) := by unfold pkT tk0; rw [Nat.min_eq_left (by omega)]
  have e3 : pkT L st.1 3 = tk0 L (st.1 + 1 + 2, false) := by unfold pkT tk0; rw [Nat.min_eq_left (by omega)]
  rw [e1, e2, e3, show decide (st.1 + 1 + 2 < L.length) = true by simp; omega, Bool.true_and]
 ·
  rw [show decide (st.1 + 1 + 2 < L.length) = false by simp; omega, Bool.false_and]
  have hp : (pkT L st.1 3).stops = true := by
   have hl : L[L.length - 1]? = some (pkT L st.1 3) := by
    unfold pkT
    rw [Nat.min_eq_right (by omega), List.getElem?_eq_getElem (by omega)]
    rfl
   exact (hw.last _ _ hl).2 (by omega)
  have : isT (pkT L st.1 3) gShut = false := by
   cases q : isT (pkT L st.1 3) gShut with
   | false => rfl
   | true => rw [isT_go q] at hp; cases hp
  rw [this]
  simp
set_option maxHeartbeats 8000000 in
theorem rprim_fn (L : List Tk) (hw : Wf L) (hd : Dg L) (hL : L.length ≤ 3000000) (o : Pr Ex) (ho : Goes L o) (d : Nat) (hor : RdR L 40 o d) : RdR L 160 (primP L false o) (d + 1) := by
 intro st h hd0
 obtain ⟨k, b⟩ := st
 have hx := tk_get (L := L) (k := k) (b := b) h
 have hok := tk_ok hw (st := (k, b)) h
 have hk2 := kindR_2 hok
 have hk3 := kindR_3 hok
 refine DoesB.of_V tab (n := 122) (rs := [.cell 2 37]) Tryz.func160 (by kernel_rfl) rfl Tryz.ntmps160 Tryz.results160 rfl rfl fun C hC hG => ?_
 refine W.seq (W.region ?_)
 refine allocR tab rfl rfl rfl ?_
 refine WO.nil (qs (W.seq (W.block (W.seq (W.region ?_)))))
 iterate 3 refine pE rfl rfl ?_
 first | refine pE rfl rfl ?_ | refine pR rfl rfl rfl rfl rfl ?_ | refine pB rfl rfl rfl rfl rfl rfl ?_
 refine pE rfl rfl ?_
 refine WO.nil (qs ?_)
 refine condK rfl (fun h5 => ?_) (fun h5 => ?_)
 ·
  rw [show primP L false o (k, b) = (exZ, (k, b)) by unfold primP; rw [if_pos h5]]
  refine W.seq (W.region ?_)
  refine pu (build tab rfl rfl rfl rfl) rfl ?_
  refine storeR tab rfl rfl rfl rfl rfl rfl rfl rfl ?_
  refine WO.nil (qs ?_)
  try refine nilBox 1 5 rfl rfl rfl ?_
  refine W.ret (qbRet (qsRet ?_))
  refine QB1.end tab [] trivial rfl rfl rfl rfl ?_ ?_
  · exact ⟨rfl, trivial⟩
  rfl
 ·
  have hb : b = false := h5
  subst hb
  have hp0 : ¬ (k, false).2 = true := by simp
  refine W.seq ?_
  refine W.regionD tab (by kernel_rfl) ?_
  iterate 3 refine chPu (ev tab rfl) rfl ?_
  first | refine chPu (ev tab rfl) rfl ?_ | refine chPu (loadRow tab rfl rfl rfl rfl) rfl ?_ | refine chPu (loadBox tab rfl rfl rfl rfl rfl) rfl ?_
  iterate 3 refine chPu (ev tab rfl) rfl ?_
  first | refine chPu (ev tab rfl) rfl ?_ | refine chPu (loadRow tab rfl rfl rfl rfl) rfl ?_ | refine chPu (loadBox tab rfl rfl rfl rfl rfl) rfl ?_
  refine chPu (indexAddr (l := (tk0 L (k, false)).r) tab rfl rfl rfl rfl rfl rfl (Int.natCast_nonneg _) (idx_map (f := Tk.r) hx) rfl) rfl ?_
  refine chPu (ev tab rfl) rfl ?_
  first | refine chPu (ev tab rfl) rfl ?_ | refine chPu (loadRow tab rfl rfl rfl rfl) rfl ?_ | refine chPu (loadBox tab rfl rfl rfl rfl rfl) rfl ?_
  iterate 2 refine chPu (ev tab rfl) rfl ?_
  refine CH.nil ?_
  refine qs ?_
  refine condK rfl (fun h11 => ?_) (fun h11 => ?_)
  ·
   have e3 : (tk0 L (k, false)).kind = 3 := hk2.1 (by simpa using h11)
   rw [show primP L false o (k, false) = (exK ⟨2, (tk0 L (k, false)).n, E0⟩, adv (k, false)) by unfold primP; rw [if_neg hp0, if_pos e3]]
   have hn := rnum_fn L hw hd (k, false) h hL
   rw [show limP L (k, false) = ((tk0 L (k, false)).n, adv (k, false)) by unfold limP; rw [if_neg (by simp [e3])]] at hn
   refine W.seq (W.region ?_)
   refine pE rfl rfl ?_
   refine callB [0] [] rfl rfl rfl rfl rfl (hn ..) rfl rfl (by rfl) (by rfl) rfl rfl rfl rfl ?_
   refine pu (puCall rfl rfl rfl ((rconst_fn _ _ _)) rfl) rfl ?_
   refine storeR tab rfl rfl rfl rfl rfl rfl rfl rfl ?_
   refine WO.nil (qs ?_)
   try refine nilBox 1 5 rfl rfl rfl ?_
   refine W.ret (qbRet (qsRet ?_))
   refine QB1.end tab [] trivial rfl rfl rfl rfl ?_ ?_
   · exact ⟨rfl, trivial⟩
   rfl
  ·
   have e3 : ¬ (tk0 L (k, false)).kind = 3 := fun q => by have := hk2.2 q; simp [this] at h11
   refine W.seq ?_
   refine W.regionD tab (by kernel_rfl) ?_
   iterate 3 refine chPu (ev tab rfl) rfl ?_
   first | refine chPu (ev tab rfl) rfl ?_ | refine chPu (loadRow tab rfl rfl rfl rfl) rfl ?_ | refine chPu (loadBox tab rfl rfl rfl rfl rfl) rfl ?_
   iterate 3 refine chPu (ev tab rfl) rfl ?_
   first | refine chPu (ev tab rfl) rfl ?_ | refine chPu (loadRow tab rfl rfl rfl rfl) rfl ?_ | refine chPu (loadBox tab rfl rfl rfl rfl rfl) rfl ?_
   refine chPu (indexAddr (l := (tk0 L (k, false)).r) tab rfl rfl rfl rfl rfl rfl (Int.natCast_nonneg _) (idx_map (f := Tk.r) hx) rfl) rfl ?_
   refine chPu (ev tab rfl) rfl ?_
   first | refine chPu (ev tab rfl) rfl ?_ | refine chPu (loadRow tab rfl rfl rfl rfl) rfl ?_ | refine chPu (loadBox tab rfl rfl rfl rfl rfl) rfl ?_
   iterate 2 refine chPu (ev tab rfl) rfl ?_
   refine CH.nil ?_
   refine qs ?_
   refine condK rfl (fun h27 => ?_) (fun h27 => ?_)
   ·
    have e4 : (tk0 L (k, false)).kind = 4 := hk3.1 (by simpa using h27)
    rw [show primP L false o (k, false) = (exK ⟨3, 0, (tk0 L (k, false)).s⟩, adv (k, false)) by unfold primP; rw [if_neg hp0, if_neg e3, if_pos e4]]
    refine W.seq (W.region ?_)
    iterate 4 refine pE rfl rfl ?_
    first | refine pE rfl rfl ?_ | refine pR rfl rfl rfl rfl rfl ?_ | refine pB rfl rfl rfl rfl rfl rfl ?_
    refine pu (puI (ev tab rfl) (y := ((k + 1 : Nat) : Int)) (by rw [wrap64 (by omega)]; rfl)) rfl ?_
    iterate 2 refine pE rfl rfl ?_
    refine storeR tab rfl rfl rfl rfl rfl rfl rfl rfl ?_
    refine WO.nil (qs (W.seq ?_))
    refine W.regionE tab 13 0 (by kernel_rfl) rfl rfl ?_
    refine cePu rfl (ev tab rfl) rfl ?_
    refine cePu rfl (ev tab rfl) rfl ?_
    refine cePu rfl (ev tab rfl) rfl ?_
    first | refine cePu rfl (ev tab rfl) rfl ?_ | refine cePu rfl (loadRow tab rfl rfl rfl rfl) rfl ?_ | refine cePu rfl (loadBox tab rfl rfl rfl rfl rfl) rfl ?_
    refine cePu rfl (ev tab rfl) rfl ?_
    refine cePu rfl (ev tab rfl) rfl ?_
    refine cePu rfl (ev tab rfl) rfl ?_
    first | refine cePu rfl (ev tab rfl) rfl ?_ | refine cePu rfl (loadRow tab rfl rfl rfl rfl) rfl ?_ | refine cePu rfl (loadBox tab rfl rfl rfl rfl rfl) rfl ?_
    refine cePu rfl (puI (ev tab rfl) (y := ((k : Nat) : Int)) (by rw [wrap64 (by omega)]; omega)) rfl ?_
    refine cePu rfl (indexAddr (l := (tk0 L (k, false)).r) tab rfl rfl rfl rfl rfl rfl (Int.natCast_nonneg _) (idx_map (f := Tk.r) hx) rfl) rfl ?_
    refine cePu rfl (ev tab rfl) rfl ?_
    first | refine cePu rfl (ev tab rfl) rfl ?_ | refine cePu rfl (loadRow tab rfl rfl rfl rfl) rfl ?_ | refine cePu rfl (loadBox tab rfl rfl rfl rfl rfl) rfl ?_
    refine cePu rfl (puCall rfl rfl rfl ((rconst_fn _ _ _)) rfl) rfl ?_
    refine CE.nil ?_
    refine storeR tab rfl rfl rfl rfl rfl rfl rfl rfl ?_
    refine WO.nil (qs ?_)
    try refine nilBox 1 5 rfl rfl rfl ?_
    refine W.ret (qbRet (qsRet ?_))
    refine QB1.end tab [] trivial rfl rfl rfl rfl ?_ ?_
    · exact ⟨rfl, trivial⟩
    rfl
   ·
    have e4 : ¬ (tk0 L (k, false)).kind = 4 := fun q => by have := hk3.2 q; simp [this] at h27
    refine W.seq (W.region ?_)
    refine pE rfl rfl ?_
    refine callB [0] [] rfl rfl rfl rfl rfl ((rwd_fn L hw kwNull rfl (k, false) h hL)) rfl rfl (by rfl) (by rfl) rfl rfl rfl rfl ?_
    refine pE rfl rfl ?_
    refine WO.nil (qs ?_)
    refine condK rfl (fun h61 => ?_) (fun h61 => ?_)
    ·
     rw [skS_yes h61]
     rw [show primP L false o (k, false) = (exK Tb.v0, adv (k, false)) by unfold primP; rw [if_neg hp0, if_neg e3, if_neg e4, if_pos h61]]
     refine W.seq (W.region ?_)
     refine pu (puCall rfl rfl rfl ((rconst_fn _ _ _)) rfl) rfl ?_
     refine storeR tab rfl rfl rfl rfl rfl rfl rfl rfl ?_
     refine WO.nil (qs ?_)
     try refine nilBox 1 5 rfl rfl rfl ?_
     refine W.ret (qbRet (qsRet ?_))
     refine QB1.end tab [] trivial rfl rfl rfl rfl ?_ ?_
     · exact ⟨rfl, trivial⟩
     rfl
    ·
     rw [skS_no h61]
     refine W.seq (W.region ?_)
     refine pE rfl rfl ?_
     refine callB [0] [] rfl rfl rfl rfl rfl ((rwd_fn L hw kwTrue rfl (k, false) h hL)) rfl rfl (by rfl) (by rfl) rfl rfl rfl rfl ?_
     refine pE rfl rfl ?_
     refine WO.nil (qs ?_)
     refine condK rfl (fun h65 => ?_) (fun h65 => ?_)
     ·
      rw [skS_yes h65]
      rw [show primP L false o (k, false) = (exK ⟨1, 1, E0⟩, adv (k, false)) by unfold primP; rw [if_neg hp0, if_neg e3, if_neg e4, if_neg (by simp [h61]), if_pos h65]]
      refine W.seq (W.region ?_)
      refine pu (puCall rfl rfl rfl ((rconst_fn _ _ _)) rfl) rfl ?_
      refine storeR tab rfl rfl rfl rfl rfl rfl rfl rfl ?_
      refine WO.nil (qs ?_)
      try refine nilBox 1 5 rfl rfl rfl ?_
      refine W.ret (qbRet (qsRet ?_))
      refine QB1.end tab [] trivial rfl rfl rfl rfl ?_ ?_
      · exact ⟨rfl, trivial⟩
      rfl
     ·
      rw [skS_no h65]
      refine W.seq (W.region ?_)
      refine pE rfl rfl ?_
      refine callB [0] [] rfl rfl rfl rfl rfl ((rwd_fn L hw kwFalse rfl (k, false) h hL)) rfl rfl (by rfl) (by rfl) rfl rfl rfl rfl ?_
      refine pE rfl rfl ?_
      refine WO.nil (qs ?_)
      refine condK rfl (fun h69 => ?_) (fun h69 => ?_)
      ·
       rw [skS_yes h69]
       rw [show primP L false o (k, false) = (exK ⟨1, 0, E0⟩, adv (k, false)) by unfold primP; rw [if_neg hp0, if_neg e3, if_neg e4, if_neg (by simp [h61]), if_neg (by simp [h65]), if_pos h69]]
       refine W.seq (W.region ?_)
       refine pu (puCall rfl rfl rfl ((rconst_fn _ _ _)) rfl) rfl ?_
       refine storeR tab rfl rfl rfl rfl rfl rfl rfl rfl ?_
       refine WO.nil (qs ?_)
       try refine nilBox 1 5 rfl rfl rfl ?_
       refine W.ret (qbRet (qsRet ?_))
       refine QB1.end tab [] trivial rfl rfl rfl rfl ?_ ?_
       · exact ⟨rfl, trivial⟩
       rfl
      ·
       rw [skS_no h69]
       have hp : primP L false o (k, false) = if negB L (k, false) then (exK ⟨2, -(pkT L k 2).n, E0⟩, (k + 4, false)) else if skB L gOpen (k, false) then ((o (adv (k, false))).1, needP L gShut (o (adv (k, false))).2) else if nameB L (k, false) then (if skB L gOpen (adv (k, false)) then callP L o (tk0 L (k, false)).s (adv (adv (k, false))) else (exF (tk0 L (k, false)).s, adv (k, false))) else (exZ, failS (k, false)) := by unfold primP; rw [if_neg hp0, if_neg e3, if_neg e4, if_neg (by simp [h61]), if_neg (by simp [h65]), if_neg (by simp [h69])]; rfl
       have no_open : nameB L (k, false) = true → skB L gOpen (k, false) = false := fun q => by
        unfold nameB at q
        simp only [Bool.and_eq_true, decide_eq_true_eq] at q
        rw [skB_sign hw h (x := gOpen) rfl]
        unfold isR
        have e2 := (kindR_1 hok).2 q.2.1
        rw [e2]
        simp
       have no_neg : skB L gOpen (k, false) = false → negB L (k, false) = false := fun q => by
        unfold negB
        have : isT (tk0 L (k, false)) gOpen = false := by simpa [skB] using q
        rw [this]
        rfl
       refine W.seq (W.region ?_)
       refine pE rfl rfl ?_
       refine callB [0] [] rfl rfl rfl rfl rfl ((rnamed_fn L hw (k, false) h hL)) rfl rfl (by rfl) (by rfl) rfl rfl rfl rfl ?_
       refine pE rfl rfl ?_
       refine WO.nil (qs ?_)
       refine condK rfl (fun h73 => ?_) (fun h73 => ?_)
       ·
        rw [no_neg (no_open h73), no_open h73, h73, if_neg (by simp), if_neg (by simp), if_pos rfl] at hp
        have hnm := rname_fn L hw (k, false) h hL
        rw [show nameP L (k, false) = ((tk0 L (k, false)).s, adv (k, false)) by unfold nameP; rw [h73]; rfl] at hnm
        have l2 := nameB_more hw h73 h
        refine W.seq (W.region ?_)
        refine pE rfl rfl ?_
        refine callB [0] [] rfl rfl rfl rfl rfl (hnm ..) rfl rfl (by rfl) (by rfl) rfl rfl rfl rfl ?_
        refine pE rfl rfl ?_
        refine WO.nil (qs ?_)
        iterate 2 refine W.seq ?_
        refine W.region ?_
        refine pE rfl rfl ?_
        refine callB [0] [] rfl rfl rfl rfl rfl ((rsg_fn L hw gOpen rfl (adv (k, false)) l2 hL)) rfl rfl (by rfl) (by rfl) rfl rfl rfl rfl ?_
        refine WO.nil (qs ?_)
        refine condK rfl (fun h79 => ?_) (fun h79 => ?_)
        ·
         rw [skS_yes h79]
         rw [if_pos h79] at hp
         rw [hp]
         have l3 := skB_more hw h79 l2
         refine W.seq (W.region ?_)
         iterate 2 refine pE rfl rfl ?_
         refine callB [0] [] rfl rfl rfl rfl rfl ((rcall_fn L hw hL o ho d hor (tk0 L (k, false)).s (adv (adv (k, false))) l3 (by show L.length - (k + 1 + 1) ≤ d; simp only at hd0; omega))) rfl rfl (by rfl) (by rfl) rfl rfl rfl rfl ?_
         refine storeR tab rfl rfl rfl rfl rfl rfl rfl rfl ?_
         refine WO.nil (qs ?_)
         try refine nilBox 1 5 rfl rfl rfl ?_
         refine W.ret (qsRet (qbRet (qsRet ?_)))
         refine QB1.end tab [] trivial rfl rfl rfl rfl ?_ ?_
         · exact ⟨rfl, trivial⟩
         rfl
        ·
         rw [skS_no h79]
         rw [if_neg (by simp [h79])] at hp
         rw [hp]
         refine W.skip (qs (W.seq (W.region ?_)))
         refine pE rfl rfl ?_
         refine pu (build tab rfl rfl rfl rfl) rfl ?_
         refine storeR tab rfl rfl rfl rfl rfl rfl rfl rfl ?_
         refine WO.nil (qs ?_)
         try refine nilBox 1 5 rfl rfl rfl ?_
         refine W.ret (qbRet (qsRet ?_))
         refine QB1.end tab [] trivial rfl rfl rfl rfl ?_ ?_
         · exact ⟨rfl, trivial⟩
         rfl
       ·
        refine W.seq (W.region ?_)
        refine pE rfl rfl ?_
        refine callB [0] [] rfl rfl rfl rfl rfl ((rsg_fn L hw gOpen rfl (k, false) h hL)) rfl rfl (by rfl) (by rfl) rfl rfl rfl rfl ?_
        refine pE rfl rfl ?_
        refine WO.nil (qs ?_)
        refine condK rfl (fun h85 => ?_) (fun h85 => ?_)
        ·
         rw [skS_yes h85]
         have l2 := skB_more hw h85 h
         have hng := rneg_fn L hw hL (adv (k, false)) l2
         rw [show negR L (adv (k, false)).1 = negB L (k, false) from negR_negB hw h (by simpa [skB] using h85)] at hng
         iterate 2 refine W.seq ?_
         refine W.region ?_
         refine pE rfl rfl ?_
         refine callB [0] [] rfl rfl rfl rfl rfl (hng ..) rfl rfl (by rfl) (by rfl) rfl rfl rfl rfl ?_
         refine WO.nil (qs ?_)
         refine condK rfl (fun h89 => ?_) (fun h89 => ?_)
         ·
          rw [if_pos h89] at hp
          rw [hp]
          have l4 := negB_more hw h89
          simp only at l4
          have hx2 := tk_get (L := L) (k := k + 2) (b := false) (by omega)
          have e2 : pkT L k 2 = tk0 L (k + 2, false) := by unfold pkT tk0; rw [Nat.min_eq_left (by omega)]
          have hk2' : (tk0 L (k + 2, false)).kind = 3 := by
           rw [← e2]
           simp only [negB, Bool.and_eq_true, decide_eq_true_eq] at h89
           exact h89.2.2.1
          have hm2 := List.mem_of_getElem? hx2
          have hn2 := num_tok hw hm2 hk2'
          obtain ⟨d1, d2⟩ := hd _ hm2 hk2'
          have hv := vdig_fn _ d1 d2
          rw [valR_tok (hw.ok _ hm2) hk2'] at hv
          rw [e2]
          refine W.seq (W.region ?_)
          iterate 4 refine pE rfl rfl ?_
          first | refine pE rfl rfl ?_ | refine pR rfl rfl rfl rfl rfl ?_ | refine pB rfl rfl rfl rfl rfl rfl ?_
          refine pu (puI (ev tab rfl) (y := ((k + 4 : Nat) : Int)) (by rw [show (((adv (k, false)).1 : Nat) : Int) + 3 = ((k + 4 : Nat) : Int) by show ((k + 1 : Nat) : Int) + 3 = _; omega]; exact wrap64 (by omega))) rfl ?_
          iterate 2 refine pE rfl rfl ?_
          refine storeR tab rfl rfl rfl rfl rfl rfl rfl rfl ?_
          refine WO.nil (qs (W.seq ?_))
          refine W.regionE tab 15 0 (by kernel_rfl) rfl rfl ?_
          refine cePu rfl (ev tab rfl) rfl ?_
          refine cePu rfl (ev tab rfl) rfl ?_
          refine cePu rfl (ev tab rfl) rfl ?_
          first | refine cePu rfl (ev tab rfl) rfl ?_ | refine cePu rfl (loadRow tab rfl rfl rfl rfl) rfl ?_ | refine cePu rfl (loadBox tab rfl rfl rfl rfl rfl) rfl ?_
          refine cePu rfl (ev tab rfl) rfl ?_
          refine cePu rfl (ev tab rfl) rfl ?_
          refine cePu rfl (ev tab rfl) rfl ?_
          first | refine cePu rfl (ev tab rfl) rfl ?_ | refine cePu rfl (loadRow tab rfl rfl rfl rfl) rfl ?_ | refine cePu rfl (loadBox tab rfl rfl rfl rfl rfl) rfl ?_
          refine cePu rfl (puI (ev tab rfl) (y := ((k + 2 : Nat) : Int)) (by rw [wrap64 (by omega)]; omega)) rfl ?_
          refine cePu rfl (indexAddr (l := (tk0 L (k + 2, false)).r) tab rfl rfl rfl rfl rfl rfl (Int.natCast_nonneg _) (idx_map (f := Tk.r) hx2) rfl) rfl ?_
          refine cePu rfl (ev tab rfl) rfl ?_
          first | refine cePu rfl (ev tab rfl) rfl ?_ | refine cePu rfl (loadRow tab rfl rfl rfl rfl) rfl ?_ | refine cePu rfl (loadBox tab rfl rfl rfl rfl rfl) rfl ?_
          refine cePu rfl (puCall rfl rfl rfl hv rfl) rfl ?_
          refine cePu rfl (puI (ev tab rfl) (show IntKind.i64.wrap (0 - (tk0 L (k + 2, false)).n) = -(tk0 L (k + 2, false)).n from by rw [Int.zero_sub]; exact wrap64 (by omega))) rfl ?_
          refine cePu rfl (puCall rfl rfl rfl ((rconst_fn _ _ _)) rfl) rfl ?_
          refine CE.nil ?_
          refine storeR tab rfl rfl rfl rfl rfl rfl rfl rfl ?_
          refine WO.nil (qs ?_)
          try refine nilBox 1 5 rfl rfl rfl ?_
          refine W.ret (qsRet (qbRet (qsRet ?_)))
          refine QB1.end tab [] trivial rfl rfl rfl rfl ?_ ?_
          · exact ⟨rfl, trivial⟩
          rfl
         ·
          rw [if_neg (by simp [h89]), if_pos h85] at hp
          rw [hp]
          have l5 := ho.lt (adv (k, false)) l2
          refine W.skip (qs (W.seq (W.region ?_)))
          refine pE rfl rfl ?_
          refine callB [0] [] rfl rfl rfl rfl rfl ((hor (adv (k, false)) l2 (by show L.length - (k + 1) ≤ d; simp only at hd0; omega))) rfl rfl (by rfl) (by rfl) rfl rfl rfl rfl ?_
          refine allocR tab rfl rfl rfl ?_
          refine storeR tab rfl rfl rfl rfl rfl rfl rfl rfl ?_
          refine WO.nil (qs (W.seq (W.region ?_)))
          refine pE rfl rfl ?_
          refine callB [0] [] rfl rfl rfl rfl rfl ((rneed_fn L hw gShut (.inl rfl) _ l5 hL)) rfl rfl (by rfl) (by rfl) rfl rfl rfl rfl ?_
          refine WO.nil (qs (W.seq (W.region ?_)))
          first | refine pE rfl rfl ?_ | refine pR rfl rfl rfl rfl rfl ?_ | refine pB rfl rfl rfl rfl rfl rfl ?_
          refine storeR tab rfl rfl rfl rfl rfl rfl rfl rfl ?_
          refine WO.nil (qs ?_)
          try refine nilBox 1 5 rfl rfl rfl ?_
          refine W.ret (qbRet (qsRet ?_))
          refine QB1.end tab [] trivial rfl rfl rfl rfl ?_ ?_
          · exact ⟨rfl, trivial⟩
          rfl
        ·
         rw [skS_no h85]
         rw [no_neg h85, h85, if_neg (by simp), if_neg (by simp), show nameB L (k, false) = false from h73, if_neg (by simp)] at hp
         rw [hp]
         refine W.skip (qbN (qs (W.seq (W.region ?_))))
         iterate 3 refine pE rfl rfl ?_
         refine storeR tab rfl rfl rfl rfl rfl rfl rfl rfl ?_
         refine WO.nil (qs (W.seq (W.region ?_)))
         refine pu (build tab rfl rfl rfl rfl) rfl ?_
         refine storeR tab rfl rfl rfl rfl rfl rfl rfl rfl ?_
         refine WO.nil (qs ?_)
         try refine nilBox 1 5 rfl rfl rfl ?_
         refine W.ret ?_
         refine QB1.end tab [] trivial rfl rfl rfl rfl ?_ ?_
         · exact ⟨rfl, trivial⟩
         rfl
end Go.Proofs.YtifeonoehfffmaaGreatDoor
namespace Go.Proofs.YtifeonoehfffmaaGreatDoor
open Go.Ab Go.Tb
set_option maxRecDepth 10000
attribute [local irreducible] W WO Pu QS QB QL QF QV QV1 CH QE
theorem ror_all (L : List Tk) (hw : Wf L) (hd : Dg L) (hL : L.length ≤ 3000000) : ∀ d, RdR L 40 (orP L false d) d
 | 0 => fun st h hd => by omega
 | d + 1 => by
  have g0 := orP_goes hw false d
  have h0 := ror_all L hw hd hL d
  have g1 := primP_goes hw g0 false
  have h1 : RdR L 160 (primP L false (orP L false d)) (d + 1) := rprim_fn L hw hd hL _ g0 d h0
  have g2 := unaryP_goes hw g1 L.length
  have h2 : RdR L 152 (unaryP L (primP L false (orP L false d)) L.length) (d + 1) := fun st h hd => runary_fn L hw hL _ (d + 1) h1 L.length st h hd (by omega)
  have g3 := leftP_goes hw g2 opsMul
  have h3 := rprod_fn L hw hL _ g2 (d + 1) h2
  have g4 := leftP_goes hw g3 opsSum
  have h4 := rsum_fn L hw hL _ g3 (d + 1) h3
  have g5 := compP_goes hw g4
  have g6 := notP_goes hw g5 L.length
  have h6 : RdR L 115 (notP L (compP L (sumP L false (orP L false d))) L.length) (d + 1) := fun st h hd => rnot_fn L hw hL _ g4 (d + 1) h4 L.length st h hd (by omega)
  have g7 := leftP_goes hw g6 opsAnd
  have h7 := rand_fn L hw hL _ g6 (d + 1) h6
  exact ror_fn L hw hL _ g7 (d + 1) h7
theorem ror_fn' (L : List Tk) (hw : Wf L) (hd : Dg L) (hL : L.length ≤ 3000000) (st : PS) (h : st.1 < L.length) : DoesB Tryz.prog 40 [.ptr 0 0] [bxR L st] 0 (.ag (orT false L st).1.c) [bxR L (orT false L st).2] 0 := ror_all L hw hd hL L.length st h (by omega)
theorem rfault_fn (L : List Tk) (hw : Wf L) (st : PS) (h : st.1 < L.length) (hL : L.length ≤ 3000000) : DoesB Tryz.prog 35 [.ptr 0 0] [bxR L st] 0 (.tup [.d (.v (.int .i64 (if badB L st then ((tk0 L st).at_ : Int) else 0))), .d (.v (.bool (badB L st)))]) [bxR L st] 0 := by
 obtain ⟨k, b⟩ := st
 have hx := tk_get (L := L) (k := k) (b := b) h
 have hk := kindR_0 (tk_ok hw (st := (k, b)) h)
 refine DoesB.of_V tab (n := 34) (rs := [.tmp 2, .tmp 3]) Tryz.func35 (by kernel_rfl) rfl Tryz.ntmps35 Tryz.results35 rfl rfl fun C hC hG => ?_
 refine W.seq (W.region ?_)
 iterate 2 refine pE rfl rfl ?_
 refine WO.nil (qs ?_)
 iterate 2 refine W.seq ?_
 apply regionDB tab; (case hb => rfl); (case hB => kernel_rfl)
 ·
  iterate 3 refine chPu (ev tab rfl) rfl ?_
  first | refine chPu (ev tab rfl) rfl ?_ | refine chPu (loadRow tab rfl rfl rfl rfl) rfl ?_ | refine chPu (loadBox tab rfl rfl rfl rfl rfl) rfl ?_
  iterate 2 refine chPu (ev tab rfl) rfl ?_
  apply chSplitJ; (case hj => rfl); (case hl => rfl)
  ·
   refine chGo rfl rfl (ev tab rfl) rfl ?_
   refine chGo rfl rfl (ev tab rfl) rfl ?_
   refine chGo rfl rfl (ev tab rfl) rfl ?_
   first | refine chGo rfl rfl (ev tab rfl) rfl ?_ | refine chGo rfl rfl (loadRow tab rfl rfl rfl rfl) rfl ?_ | refine chGo rfl rfl (loadBox tab rfl rfl rfl rfl rfl) rfl ?_
   refine chGo rfl rfl (ev tab rfl) rfl ?_
   refine chGo rfl rfl (ev tab rfl) rfl ?_
   refine chGo rfl rfl (ev tab rfl) rfl ?_
   first | refine chGo rfl rfl (ev tab rfl) rfl ?_ | refine chGo rfl rfl (loadRow tab rfl rfl rfl rfl) rfl ?_ | refine chGo rfl rfl (loadBox tab rfl rfl rfl rfl rfl) rfl ?_
   refine chGo rfl rfl (indexAddr (l := (tk0 L (k, b)).r) tab rfl rfl rfl rfl rfl rfl (Int.natCast_nonneg _) (idx_map (f := Tk.r) hx) rfl) rfl ?_
   refine chGo rfl rfl (ev tab rfl) rfl ?_
   first | refine chGo rfl rfl (ev tab rfl) rfl ?_ | refine chGo rfl rfl (loadRow tab rfl rfl rfl rfl) rfl ?_ | refine chGo rfl rfl (loadBox tab rfl rfl rfl rfl rfl) rfl ?_
   refine chGo rfl rfl (ev tab rfl) rfl ?_
   refine chPu (ev tab rfl) rfl ?_
   refine CH.nil ?_
   refine qv1 rfl rfl rfl
  ·
   iterate 12 refine chSkip rfl rfl rfl rfl ?_
   refine chPu (ev tab rfl) rfl ?_
   refine CH.nil ?_
   refine qv1 rfl rfl rfl
 refine qs ?_
 refine condK rfl (fun h22 => ?_) (fun h22 => ?_)
 ·
  have e : badB L (k, b) = false := by
   cases b with
   | true => simp at h22
   | false => simp at h22; simp [badB, hk.1 h22]
  rw [e]
  refine W.seq (W.region ?_)
  iterate 2 refine pE rfl rfl ?_
  refine WO.nil (qs (W.ret (qsRet ?_)))
  refine QB1.end tab [] trivial rfl rfl rfl rfl ?_ ?_
  · exact ⟨rfl, trivial⟩
  rfl
 ·
  have e : badB L (k, b) = true := by
   cases b with
   | true => rfl
   | false => simp at h22; simp only [badB, Bool.false_or, Bool.not_eq_true', decide_eq_false_iff_not]; exact fun q => h22 (hk.2 q)
  rw [e]
  refine W.skip (qs (W.seq ?_))
  refine W.regionD tab (by kernel_rfl) ?_
  iterate 3 refine chPu (ev tab rfl) rfl ?_
  first | refine chPu (ev tab rfl) rfl ?_ | refine chPu (loadRow tab rfl rfl rfl rfl) rfl ?_ | refine chPu (loadBox tab rfl rfl rfl rfl rfl) rfl ?_
  iterate 3 refine chPu (ev tab rfl) rfl ?_
  first | refine chPu (ev tab rfl) rfl ?_ | refine chPu (loadRow tab rfl rfl rfl rfl) rfl ?_ | refine chPu (loadBox tab rfl rfl rfl rfl rfl) rfl ?_
  refine chPu (indexAddr (l := (tk0 L (k, b)).r) tab rfl rfl rfl rfl rfl rfl (Int.natCast_nonneg _) (idx_map (f := Tk.r) hx) rfl) rfl ?_
  refine chPu (ev tab rfl) rfl ?_
  first | refine chPu (ev tab rfl) rfl ?_ | refine chPu (loadRow tab rfl rfl rfl rfl) rfl ?_ | refine chPu (loadBox tab rfl rfl rfl rfl rfl) rfl ?_
  iterate 2 refine chPu (ev tab rfl) rfl ?_
  refine CH.nil ?_
  refine qs (W.ret ?_)
  refine QB1.end tab [] trivial rfl rfl rfl rfl ?_ ?_
  · exact ⟨rfl, trivial⟩
  rfl
theorem rxp_fn (s : ByteArray) (hs : s.size ≤ 1000000) : Does Tryz.prog 14 [.d (.v (.string s))] (.tup [.ag (exprF false s).1.c, .d (.v (.int .i64 (exprF false s).2.1)), .d (.v (.int .i64 (exprF false s).2.2))]) 0 := by
 have hw := toks_wf s 0
 have hl := toks_len s 0
 have hL : (toks s 0).length ≤ 3000000 := by omega
 have h0 : 0 < (toks s 0).length := List.length_pos_iff.2 hw.ne
 have h1 := (orP_goes hw false (toks s 0).length).lt (0, false) h0
 refine Does.of_V tab (n := 35) (rs := [.cell 2 37, .tmp 3, .tmp 4]) Tryz.func14 (by kernel_rfl) rfl Tryz.ntmps14 Tryz.results14 rfl fun C hC hG => ?_
 refine W.seq (W.region ?_)
 refine allocR tab rfl rfl rfl ?_
 iterate 2 refine pE rfl rfl ?_
 refine WO.nil (qs ?_)
 iterate 2 refine W.seq ?_
 refine W.region ?_
 iterate 3 refine pE rfl rfl ?_
 refine WO.nil (qs ?_)
 refine condK rfl (fun h12 => ?_) (fun h12 => ?_)
 ·
  have h12' : 2000 < s.size := by have := of_decide_eq_true h12; omega
  rw [show exprF false s = (exZ, 0, 7) by unfold exprF readP checkP; rw [if_pos h12']; rfl]
  refine W.seq (W.region ?_)
  refine pu (build tab rfl rfl rfl rfl) rfl ?_
  refine storeR tab rfl rfl rfl rfl rfl rfl rfl rfl ?_
  iterate 2 refine pE rfl rfl ?_
  refine WO.nil (qs ?_)
  try refine nilBox 0 5 rfl rfl rfl ?_
  refine W.ret (qsRet ?_)
  refine QV.ret0 tab trivial rfl ?_
  rfl
 ·
  have h12' : ¬ 2000 < s.size := by have := of_decide_eq_false h12; omega
  refine W.skip (qs (W.seq (W.region ?_)))
  refine pE rfl rfl ?_
  refine pu (puCall rfl rfl rfl (rtokens_fn s hs) rfl) rfl ?_
  refine pu (build tab rfl rfl rfl rfl) rfl ?_
  refine boxR rfl rfl rfl ?_
  refine pE rfl rfl ?_
  refine WO.nil (qs (W.seq (W.region ?_)))
  refine pE rfl rfl ?_
  refine callB [1] [] rfl rfl rfl rfl rfl ((ror_fn' (toks s 0) hw (toks_dg s 0) hL (0, false) h0)) rfl rfl (by rfl) (by rfl) rfl rfl rfl rfl ?_
  refine allocR tab rfl rfl rfl ?_
  refine storeR tab rfl rfl rfl rfl rfl rfl rfl rfl ?_
  refine WO.nil (qs (W.seq (W.region ?_)))
  refine pE rfl rfl ?_
  refine callB [1] [] rfl rfl rfl rfl rfl ((rfault_fn (toks s 0) hw (orT false (toks s 0) (0, false)).2 h1 hL)) rfl rfl (by rfl) (by rfl) rfl rfl rfl rfl ?_
  iterate 5 refine pE rfl rfl ?_
  refine WO.nil (qs ?_)
  iterate 2 refine W.seq ?_
  refine W.region ?_
  refine pE rfl rfl ?_
  refine WO.nil (qs ?_)
  refine condK rfl (fun h25 => ?_) (fun h25 => ?_)
  ·
   have hb : badB (toks s 0) (orT false (toks s 0) (0, false)).2 = true := h25
   rw [show exprF false s = (exZ, ((tk0 (toks s 0) (orT false (toks s 0) (0, false)).2).at_ : Int), 15) by unfold exprF readP checkP; rw [if_neg h12', if_pos hb]; rfl]
   rw [hb]
   refine W.seq (W.region ?_)
   refine pu (build tab rfl rfl rfl rfl) rfl ?_
   refine pE rfl rfl ?_
   refine storeR tab rfl rfl rfl rfl rfl rfl rfl rfl ?_
   iterate 2 refine pE rfl rfl ?_
   refine WO.nil (qs ?_)
   try refine nilBox 0 5 rfl rfl rfl ?_
   refine W.ret (qsRet ?_)
   refine QV.ret0 tab trivial rfl ?_
   rfl
  ·
   have hb : ¬ badB (toks s 0) (orT false (toks s 0) (0, false)).2 = true := by rw [h25]; decide
   have he : exprF false s = if exprErr (orT false (toks s 0) (0, false)).1 ≠ 0 then (exZ, 0, exprErr (orT false (toks s 0) (0, false)).1) else ((orT false (toks s 0) (0, false)).1, 0, 0) := by unfold exprF readP checkP; rw [if_neg h12', if_neg hb]; rfl
   refine W.skip (qs (W.seq (W.region ?_)))
   first | refine pE rfl rfl ?_ | refine pR rfl rfl rfl rfl rfl ?_ | refine pB rfl rfl rfl rfl rfl rfl ?_
   refine pu (puCall rfl rfl rfl (rexpr_fn ..) rfl) rfl ?_
   refine pE rfl rfl ?_
   refine WO.nil (qs ?_)
   iterate 2 refine W.seq ?_
   refine W.region ?_
   iterate 2 refine pE rfl rfl ?_
   refine WO.nil (qs ?_)
   refine condK rfl (fun h31 => ?_) (fun h31 => ?_)
   ·
    have q : exprErr (orT false (toks s 0) (0, false)).1 ≠ 0 := by simpa using h31
    rw [if_pos q] at he
    rw [he]
    refine W.seq (W.region ?_)
    refine pu (build tab rfl rfl rfl rfl) rfl ?_
    refine pE rfl rfl ?_
    refine storeR tab rfl rfl rfl rfl rfl rfl rfl rfl ?_
    iterate 2 refine pE rfl rfl ?_
    refine WO.nil (qs ?_)
    try refine nilBox 0 5 rfl rfl rfl ?_
    refine W.ret (qsRet ?_)
    refine QV.ret0 tab trivial rfl ?_
    rfl
   ·
    have q : ¬ exprErr (orT false (toks s 0) (0, false)).1 ≠ 0 := by simpa using h31
    rw [if_neg q] at he
    rw [he]
    refine W.skip (qs (W.seq (W.region ?_)))
    first | refine pE rfl rfl ?_ | refine pR rfl rfl rfl rfl rfl ?_ | refine pB rfl rfl rfl rfl rfl rfl ?_
    refine storeR tab rfl rfl rfl rfl rfl rfl rfl rfl ?_
    iterate 2 refine pE rfl rfl ?_
    refine WO.nil (qs ?_)
    try refine nilBox 0 5 rfl rfl rfl ?_
    refine W.ret ?_
    refine QV.ret0 tab trivial rfl ?_
    rfl
theorem lexprs_fn (s : ByteArray) : Does Tryz.prog 4 [.d (.v (.string s))] (.d (.v (.bool true))) 0 := by
 refine Does.of_W (n := 41) (ts := [2]) Tryz.func4 (by kernel_rfl) rfl Tryz.ntmps4 Tryz.results4 rfl rfl fun C hC hG => ?_
 refine W.seq (W.region ?_)
 refine pE rfl rfl ?_
 refine WO.nil (qs ?_)
 iterate 2 refine W.seq ?_
 refine W.region ?_
 iterate 3 refine pE rfl rfl ?_
 refine WO.nil (qs ?_)
 refine condK rfl (fun h11 => ?_) (fun h11 => ?_)
 ·
  refine W.seq (W.region ?_)
  refine pu (puCall rfl rfl rfl (lives37_fn ..) rfl) rfl ?_
  refine pE rfl rfl ?_
  refine WO.nil (qs (W.ret (qsRet ?_)))
  refine QF.ret0 trivial rfl ?_
  rfl
 ·
  have hs : s.size ≤ 2100 := by simp at h11; omega
  have hq1 := pexpr_fn s (by omega)
  have hq2 := rxp_fn s (by omega)
  rw [← exprF_eq] at hq2
  refine W.skip (qs (W.seq (W.region ?_)))
  refine pE rfl rfl ?_
  refine pu (puCall rfl rfl rfl hq1 rfl) rfl ?_
  iterate 4 refine pE rfl rfl ?_
  refine allocR tab rfl rfl rfl ?_
  refine storeR tab rfl rfl rfl rfl rfl rfl rfl rfl ?_
  iterate 2 refine pE rfl rfl ?_
  refine WO.nil (qs (W.seq (W.region ?_)))
  refine pE rfl rfl ?_
  refine pu (puCall rfl rfl rfl hq2 rfl) rfl ?_
  iterate 4 refine pE rfl rfl ?_
  refine allocR tab rfl rfl rfl ?_
  refine storeR tab rfl rfl rfl rfl rfl rfl rfl rfl ?_
  iterate 2 refine pE rfl rfl ?_
  refine WO.nil (qs (W.seq ?_))
  apply regionB; (case hb => rfl)
  ·
   first | refine pE rfl rfl ?_ | refine pR rfl rfl rfl rfl rfl ?_ | refine pB rfl rfl rfl rfl rfl rfl ?_
   first | refine pE rfl rfl ?_ | refine pR rfl rfl rfl rfl rfl ?_ | refine pB rfl rfl rfl rfl rfl rfl ?_
   refine pu (puCall rfl rfl rfl (sameX_fn (exprF true s).1) rfl) rfl ?_
   refine pE rfl rfl ?_
   apply splitJ; (case hj => rfl); (case hl => rfl)
   ·
    refine goG rfl rfl ?_
    refine pE rfl rfl ?_
    refine goG rfl rfl ?_
    refine pE rfl rfl ?_
    refine goG rfl rfl ?_
    iterate 3 refine pE rfl rfl ?_
    apply splitJ; (case hj => rfl); (case hl => rfl)
    ·
     refine goG rfl rfl ?_
     refine pE rfl rfl ?_
     refine goG rfl rfl ?_
     refine pE rfl rfl ?_
     refine goG rfl rfl ?_
     iterate 3 refine pE rfl rfl ?_
     apply splitJ; (case hj => rfl); (case hl => rfl)
     ·
      refine goG rfl rfl ?_
      refine pu (puCall rfl rfl rfl (lives37_fn ..) rfl) rfl ?_
      iterate 2 refine pE rfl rfl ?_
      refine WO.nil ?_
      refine qv1 rfl rfl rfl
     ·
      refine skipT rfl rfl rfl rfl ?_
      iterate 2 refine pE rfl rfl ?_
      refine WO.nil ?_
      refine qv1 rfl rfl rfl
    ·
     iterate 3 refine skipT rfl rfl rfl rfl ?_
     iterate 2 refine pE rfl rfl ?_
     refine skipT rfl rfl rfl rfl ?_
     iterate 2 refine pE rfl rfl ?_
     refine WO.nil ?_
     refine qv1 rfl rfl rfl
   ·
    iterate 3 refine skipT rfl rfl rfl rfl ?_
    iterate 2 refine pE rfl rfl ?_
    iterate 3 refine skipT rfl rfl rfl rfl ?_
    iterate 2 refine pE rfl rfl ?_
    refine skipT rfl rfl rfl rfl ?_
    iterate 2 refine pE rfl rfl ?_
    refine WO.nil ?_
    refine qv1 rfl rfl rfl
  refine qs (W.ret ?_)
  refine QF.ret0 trivial rfl ?_
  simp
  try rfl
end Go.Proofs.YtifeonoehfffmaaGreatDoor
