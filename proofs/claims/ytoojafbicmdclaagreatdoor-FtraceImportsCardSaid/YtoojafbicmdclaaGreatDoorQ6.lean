import Derived.Test.YtoojafbicmdclaaGreatDoorQ5
namespace Go.Proofs.YtoojafbicmdclaaGreatDoor
open Go.Ab Go.Tb
set_option maxRecDepth 10000
attribute [local irreducible] W WO Pu QS QB QL QF QV bU CH QE
def cP (th : Int) (ps : List aK) : D := match ps.filter fun p => decide (p.thread = th) with | [] => .v (.slice none 0 0) | l => .sl (l.map aK.c)
theorem lJ {th : Int} {ps : List aK} {k : Nat} {p : aK} (hx : ps[k]? = some p) : (ps.take (k + 1)).filter (fun p => decide (p.thread = th)) = (ps.take k).filter (fun p => decide (p.thread = th)) ++ (if p.thread = th then [p] else []) := by
 rw [List.take_add_one, hx, List.filter_append]
 congr 1
 by_cases h : p.thread = th <;> simp [h]
theorem filter_none {th : Int} {ps : List aK} {k : Nat} {p : aK} (hn : (ps.map aK.thread).Nodup) (hx : ps[k]? = some p) (h : p.thread = th) : (ps.take k).filter (fun p => decide (p.thread = th)) = [] := by
 rw [List.filter_eq_nil_iff]
 intro q hq
 simp only [decide_eq_true_eq]
 intro e
 exact eu hn hx (by rw [h, ← e]; exact List.mem_map.2 ⟨q, hq, rfl⟩)
theorem wc {th : Int} {ps : List aK} (h : ps.filter (fun p => decide (p.thread = th)) ≠ []) : cP th ps = .sl ((ps.filter fun p => decide (p.thread = th)).map aK.c) := by
 unfold cP
 split
 · rename_i q; exact absurd q h
 rfl
theorem tf (th : Int) (ps : List aK) (hf : ps.filter (fun p => decide (p.thread = th)) ≠ []) (hl : ps.length ≤ 1000) (hn : (ps.map aK.thread).Nodup) (hp : ∀ p ∈ ps, p.serial = 0 ∧ p.lost = 0 ∧ 0 < p.evs.length ∧ p.evs.length ≤ 1000) :
  ax Tryz.prog 97 [.d (ci th), .d (.sl (ps.map aK.c))] (.d (.sl ((ps.filter fun p => decide (p.thread = th)).map aK.c))) 0 := by
 have hml : ps.length ≤ maxLen := by simp only [maxLen]; omega
 refine ax.aV (n := 95) (ts := [4]) Tryz.func97 (by kernel_rfl) rfl Tryz.ntmps97 Tryz.results97 rfl rfl fun C hC hG => ?_
 refine W.seq (W.region (pE rfl (WO.nil (qs (W.seq (W.region (pE rfl (WO.nil (qs ?_)))))))))
 iterate 2 refine W.seq ?_
 refine W.region (pE rfl (WO.nil (qs (W.block ?_))))
 refine W.aW (ι := {x : Nat // match x with | k => k ≤ ps.length})
  (fun x => match x.1 with | k => [(5, .d (cP th (ps.take k))), (6, .d (.v (.int .i64 ((k : Nat) : Int))))]) [(0, _), (1, _)]
  (fun x => match x.1 with | k => []) [] [] 0 (fun x => match x.1 with | k => ps.length - k)
  [] ⟨0, ?_⟩ rfl ?_ ⟨rfl, rfl, rfl, rfl, trivial⟩ ?_ trivial rfl ?_
 · exact Nat.zero_le _
 · repeat' first | exact trivial | refine ⟨rfl, ?_⟩
 · repeat' exact trivial
 rintro ⟨k, hk⟩
 show W _ _ _ _ _ ⟨[(5, .d (cP th (ps.take k))), (6, .d (.v (.int .i64 ((k : Nat) : Int)))), (0, _), (1, _)], [], [], 0⟩
 iterate 2 refine W.seq ?_
 refine W.region ?_
 iterate 4 refine pE rfl ?_
 refine WO.nil (qs (ba (l := ps) (k := k) rfl (by simp [Ex.aJ, aE]) hk (fun p hx hd hlt => ?_) (fun he hd => ?_)))
 ·
  obtain ⟨hs0, hl0, he0, he1⟩ := hp p (List.mem_of_getElem? hx)
  have hst := lJ (th := th) hx
  refine W.skip (qs (W.seq (W.block ?_)))
  iterate 2 refine W.seq ?_
  refine W.region ?_
  iterate 2 refine pE rfl ?_
  refine pu (indexAddr aa rfl rfl rfl rfl rfl rfl (Int.natCast_nonneg _) (aq hx) rfl) rfl ?_
  refine pE rfl (pE rfl ?_)
  iterate 2 refine pE rfl ?_
  refine WO.nil (qs (au rfl (fun h22 => ?_) (fun h22 => ?_)))
  ·
   have hne : ¬ p.thread = th := by simpa using h22
   rw [if_neg hne, List.append_nil] at hst
   have hD : cP th (ps.take k) = cP th (ps.take (k + 1)) := by unfold cP; rw [hst]
   rw [hD]
   refine W.exit (aP (aM (qs (W.region ?_))))
   iterate 3 refine pE rfl ?_
   refine WO.nil (W.bb [] ⟨k + 1, ?_⟩ ?_ rfl ?_ ⟨rfl, rfl, rfl, rfl, trivial⟩ ?_ trivial rfl)
   · exact hlt
   · dsimp only; omega
   · repeat' first | exact trivial | refine ⟨rfl, ?_⟩ | refine ⟨aG (by assumption) (by assumption), ?_⟩
   repeat' exact trivial
  have hpt : p.thread = th := by simpa using h22
  have hnil := filter_none hn hx hpt
  have hD0 : cP th (ps.take k) = .v (.slice none 0 0) := by unfold cP; rw [hnil]
  have hD1 : cP th (ps.take (k + 1)) = .sl ([p].map aK.c) := by unfold cP; rw [hst, hnil, if_pos hpt]; rfl
  rw [hD0]
  obtain ⟨th2, se, lo, evs⟩ := p
  simp only at hs0 hl0 he0 he1 hpt
  subst hs0
  subst hl0
  subst hpt
  refine W.skip (qs (W.seq (W.region (pE rfl (WO.nil (qs (W.block (x3 4 rfl ?_))))))))
  refine W.aW (ι := {x : (Nat) ⊕ (Nat × Nat × Nat) // match x with | .inl (j) => j = 0 | .inr (j, cap, kk) => j ≤ evs.length ∧ 0 < j})
   (fun x => match x.1 with | .inl (j) => [(4, .ow 1 [] (.slice none 0 0)), (5, .d (.v (.slice none 0 0))), (7, .d (.v (.int .i64 ((0 : Nat) : Int))))] | .inr (j, cap, kk) => [(5, .sb 0 1 cap), (7, .d (.v (.int .i64 ((j : Nat) : Int))))]) [(0, _), (1, _), (6, _)]
   (fun x => match x.1 with | .inl (j) => [] | .inr (j, cap, kk) => [(0, mh th2 1 (evs.take j) kk)]) [] [1] 2 (fun x => match x.1 with | .inl (j) => evs.length | .inr (j, cap, kk) => evs.length - j)
   [9, 0] ⟨.inl 0, ?_⟩ rfl ?_ ⟨rfl, rfl, rfl, rfl, rfl, rfl, trivial⟩ ?_ trivial rfl ?_
  · rfl
  · repeat' first | exact trivial | refine ⟨rfl, ?_⟩
  · repeat' exact trivial
  rintro ⟨⟨j⟩ | ⟨j, cap, kk⟩, hinv⟩
  ·
   obtain ⟨hj0⟩ := hinv
   show W _ _ _ _ _ ⟨[(4, .ow 1 [] (.slice none 0 0)), (5, .d (.v (.slice none 0 0))), (7, .d (.v (.int .i64 ((0 : Nat) : Int)))), (0, _), (1, _), (6, _)], [], [1], 2⟩
   iterate 2 refine W.seq ?_
   refine W.region ?_
   iterate 3 refine pE rfl ?_
   refine pu (indexAddr (l := aK.c ⟨th2, 0, 0, evs⟩) aa rfl rfl rfl rfl rfl rfl (Int.natCast_nonneg _) (aq hx) rfl) rfl ?_
   refine pE rfl (pE rfl ?_)
   iterate 2 refine pE rfl ?_
   refine WO.nil (qs (au rfl (fun h30 => ?_) (fun h30 => ?_)))
   ·
    obtain ⟨e, he⟩ : ∃ e, evs[0]? = some e := ⟨evs[0], by simp⟩
    have htk : evs.take 1 = [e] := by rw [show (1 : Nat) = 0 + 1 from rfl, List.take_add_one, he]; rfl
    refine W.skip (qs (W.seq (W.block (W.seq (W.region (pE rfl (WO.nil (qs ?_))))))))
    iterate 2 refine W.seq ?_
    refine W.region ?_
    iterate 2 refine pE rfl ?_
    refine WO.nil (qs (au rfl (fun h34 => ?_) (fun h34 => ?_)))
    ·
     refine W.region ?_
     iterate 2 refine pE rfl ?_
     refine pu (indexAddr (l := aK.c ⟨th2, 0, 0, evs⟩) aa rfl rfl rfl rfl rfl rfl (Int.natCast_nonneg _) (aq hx) rfl) rfl ?_
     refine pE rfl (pE rfl (pE rfl (WO.nil (qs (W.seq (W.region ?_))))))
     iterate 3 refine pE rfl ?_
     refine WO.nil (qs ?_)
     iterate 2 refine W.seq ?_
     apply aI; (case hb => rfl)
     ·
      iterate 3 refine pE rfl ?_
      apply cI (y2 := true); (case hj => rfl); (case hl => rfl)
      ·
       intro g44
       iterate 2 refine ae rfl rfl rfl rfl ?_
       iterate 2 refine pE rfl ?_
       iterate 8 refine ae rfl rfl rfl rfl ?_
       refine pE rfl (WO.nil (ay rfl rfl rfl))
      intro g44
      exfalso; exact absurd g44 (by decide)
     refine qs (au rfl (fun h57 => ?_) (fun h57 => ?_))
     ·
      refine W.seq (W.sO (d := 5) rfl rfl ?_)
      refine W.region ?_
      iterate 4 refine pE rfl ?_
      refine pu (indexAddr (l := aK.c ⟨th2, 0, 0, evs⟩) aa rfl rfl rfl rfl rfl rfl (Int.natCast_nonneg _) (aq hx) rfl) rfl ?_
      refine pE rfl (pE rfl (pE rfl (pu (cf (ev aa rfl) (y := 0) (by rfl)) rfl ?_)))
      refine pE rfl (pu (build aa rfl rfl rfl rfl) rfl ?_)
      refine pu (bl aa rfl rfl rfl rfl rfl rfl rfl rfl rfl) rfl ?_
      refine l4 (es := []) aa rfl rfl rfl rfl rfl rfl rfl rfl rfl rfl rfl (fun x hx => by obtain rfl := List.mem_singleton.1 hx; rfl) (by show 1 * 48 ≤ 140737488355328; decide) rfl ?_
      refine pE rfl (WO.nil (qs (W.region (pE rfl (pu (cf (ev aa rfl) (y := 1) (by rfl)) rfl ?_)))))
      refine pE rfl (WO.nil (qs (yt 5 rfl rfl rfl (by show 0 < 1; decide) rfl (fun cap kk => ?_))))
      refine dy 4 3 rfl rfl rfl ?_
      apply W.ij aa 19 18; (case hB => kernel_rfl); (case h1 => rfl); (case h2 => rfl)
      refine' aX ?p1_1 (ev aa rfl) rfl rfl rfl rfl rfl ?h_1
      case' h_1 => skip
      refine' aX ?p1_2 (ev aa rfl) rfl rfl rfl rfl rfl ?h_2
      case' h_2 => skip
      refine' aX ?p1_3 (cf (ev aa rfl) (y := 0) (by rfl)) rfl rfl rfl rfl rfl ?h_3
      case' h_3 => skip
      refine' aX ?p1_4 (ev aa rfl) rfl rfl rfl rfl rfl ?h_4
      case' h_4 => skip
      refine' aX ?p1_5 (ev aa rfl) rfl rfl rfl rfl rfl ?h_5
      case' h_5 => skip
      refine' aX ?p1_6 (cf (ev aa rfl) (y := 0) (by rfl)) rfl rfl rfl rfl rfl ?h_6
      case' h_6 => skip
      refine' aX ?p1_7 (dz aa rfl rfl rfl rfl rfl (by decide) Nat.zero_lt_one rfl) rfl rfl rfl rfl rfl ?h_7
      case' h_7 => skip
      refine' aX ?p1_8 (ev aa rfl) rfl rfl rfl rfl rfl ?h_8
      case' h_8 => skip
      refine' fh (ev aa rfl) rfl rfl rfl rfl rfl ?h_9
      case' h_9 => skip
      refine' aX ?p1_10 (ev aa rfl) rfl rfl rfl rfl rfl ?h_10
      case' h_10 => skip
      refine' aX ?p1_11 (ev aa rfl) rfl rfl rfl rfl rfl ?h_11
      case' h_11 => skip
      refine' aX ?p1_12 (indexAddr (l := aK.c ⟨th2, 0, 0, evs⟩) aa rfl rfl rfl rfl rfl rfl (Int.natCast_nonneg _) (aq hx) rfl) rfl rfl rfl rfl rfl ?h_12
      case' h_12 => skip
      refine' aX ?p1_13 (ev aa rfl) rfl rfl rfl rfl rfl ?h_13
      case' h_13 => skip
      refine' aX ?p1_14 (ev aa rfl) rfl rfl rfl rfl rfl ?h_14
      case' h_14 => skip
      refine' aX ?p1_15 (ev aa rfl) rfl rfl rfl rfl rfl ?h_15
      case' h_15 => skip
      refine' aX ?p1_16 (indexAddr (l := e.c) aa rfl rfl rfl rfl rfl rfl (by decide) (aq he) rfl) rfl rfl rfl rfl rfl ?h_16
      case' h_16 => skip
      refine' aX ?p1_17 (ev aa rfl) rfl rfl rfl rfl rfl ?h_17
      case' h_17 => skip
      refine' fh (bl aa rfl rfl rfl rfl rfl rfl rfl rfl rfl) rfl rfl rfl rfl rfl ?h_18
      case' h_18 => skip
      refine' qR (fun g => ?e_19) rfl rfl rfl ?h_19
      case e_19 =>
       refine cr (fn := Ev.c) (l := []) (a := e) aa rfl rfl rfl rfl rfl rfl rfl rfl rfl rfl (fun _ => rfl) (by show 1 * 72 ≤ 140737488355328; decide) ?_
       refine WO.nil ?_
       exact ⟨rfl, rfl⟩
      case' h_19 => skip
      case p1_1 => exact (ev aa rfl)
      case p1_2 => exact (ev aa rfl)
      case p1_3 => exact (cf (ev aa rfl) (y := 0) (by rfl))
      case p1_4 => exact (ev aa rfl)
      case p1_5 => exact (ev aa rfl)
      case p1_6 => exact (cf (ev aa rfl) (y := 0) (by rfl))
      case p1_7 => exact (dz aa rfl rfl rfl rfl rfl (by decide) Nat.zero_lt_one rfl)
      case p1_8 => exact (ev aa rfl)
      case p1_10 => exact (ev aa rfl)
      case p1_11 => exact (ev aa rfl)
      case p1_12 => exact (indexAddr (l := aK.c ⟨th2, 0, 0, evs⟩) aa rfl rfl rfl rfl rfl rfl (Int.natCast_nonneg _) (aq hx) rfl)
      case p1_13 => exact (ev aa rfl)
      case p1_14 => exact (ev aa rfl)
      case p1_15 => exact (ev aa rfl)
      case p1_16 => exact (indexAddr (l := e.c) aa rfl rfl rfl rfl rfl rfl (by decide) (aq he) rfl)
      case p1_17 => exact (ev aa rfl)
      refine CC.nil ?_
      refine pu (dz aa rfl rfl rfl rfl rfl (by decide) Nat.zero_lt_one rfl) rfl ?_
      refine pE rfl (aO aa rfl rfl rfl rfl rfl rfl rfl rfl (WO.nil (bC (qs (W.region (pE rfl (pu (cf (ev aa rfl) (y := ((1 : Nat) : Int)) (by rfl)) rfl ?_)))))))
      refine pE rfl (WO.nil (W.bb [4, 6] ⟨.inr (1, cap, kk), ?_⟩ ?_ rfl ?_ ⟨rfl, rfl, rfl, rfl, rfl, rfl, trivial⟩ ?_ trivial rfl))
      · exact ⟨he0, Nat.zero_lt_one⟩
      · dsimp only; omega
      · repeat' first | exact trivial | refine ⟨rfl, ?_⟩
      dsimp only
      rw [htk]
      exact jC rfl rfl rfl rfl
     exfalso; exact absurd h57 (by decide)
    exfalso; exact absurd h34 (by decide)
   exfalso
   have h := of_decide_eq_false h30
   rw [List.length_map] at h
   exact h (Int.ofNat_lt.2 he0)
  obtain ⟨hj, hj0⟩ := hinv
  show W _ _ _ _ _ ⟨[(5, .sb 0 1 cap), (7, .d (.v (.int .i64 ((j : Nat) : Int)))), (0, _), (1, _), (6, _)], [(0, mh th2 1 (evs.take j) kk)], [1], 2⟩
  iterate 2 refine W.seq ?_
  refine W.region ?_
  iterate 3 refine pE rfl ?_
  refine pu (indexAddr (l := aK.c ⟨th2, 0, 0, evs⟩) aa rfl rfl rfl rfl rfl rfl (Int.natCast_nonneg _) (aq hx) rfl) rfl ?_
  refine pE rfl (pE rfl ?_)
  iterate 2 refine pE rfl ?_
  refine WO.nil (qs (au rfl (fun h30 => ?_) (fun h30 => ?_)))
  ·
   have hjl : j < evs.length := by have h := of_decide_eq_true h30; rw [List.length_map] at h; exact Int.ofNat_lt.1 h
   obtain ⟨e, he⟩ : ∃ e, evs[j]? = some e := ⟨evs[j], by simp⟩
   have htk : evs.take (j + 1) = evs.take j ++ [e] := by rw [List.take_add_one, he]; rfl
   have htl : (evs.take j).length = j := by rw [List.length_take]; omega
   refine W.skip (qs (W.seq (W.block (W.seq (W.region (pE rfl (WO.nil (qs ?_))))))))
   iterate 2 refine W.seq ?_
   refine W.region ?_
   iterate 2 refine pE rfl ?_
   refine WO.nil (qs (au rfl (fun h34 => ?_) (fun h34 => ?_)))
   ·
    exfalso; have := of_decide_eq_true h34; omega
   refine W.skip (qs (W.seq (W.region (pE rfl (pu (sy aa rfl rfl rfl) rfl ?_)))))
   refine pE rfl (WO.nil (qs ?_))
   iterate 2 refine W.seq ?_
   apply aI; (case hb => rfl)
   ·
    iterate 3 refine pE rfl ?_
    apply cI; (case hj => rfl); (case hl => rfl)
    ·
     intro g44
     iterate 2 refine ae rfl rfl rfl rfl ?_
     iterate 2 refine pE rfl ?_
     iterate 8 refine ae rfl rfl rfl rfl ?_
     refine pE rfl (WO.nil (ay rfl rfl rfl))
    intro g44
    refine ab rfl rfl (pE rfl (ab rfl rfl ?_))
    iterate 3 refine pE rfl ?_
    apply cI; (case hj => rfl); (case hl => rfl)
    ·
     intro g48
     iterate 8 refine ae rfl rfl rfl rfl ?_
     refine pE rfl (WO.nil (ay rfl rfl rfl))
    intro g48
    refine ab rfl rfl (pE rfl (ab rfl rfl (pE rfl (ab rfl rfl (pu (cf (ev aa rfl) (y := 0) (by rfl)) rfl ?_)))))
    refine ab rfl rfl (pu (dz aa rfl rfl rfl rfl rfl (by decide) Nat.zero_lt_one rfl) rfl ?_)
    refine ab rfl rfl (pE rfl (ab rfl rfl (pE rfl (ab rfl rfl (pE rfl (ab rfl rfl ?_))))))
    iterate 2 refine pE rfl ?_
    refine WO.nil (ay rfl rfl rfl)
   refine qs (au rfl (fun h57 => ?_) (fun h57 => ?_))
   ·
    exfalso
    have h1000 : ¬ ((((evs.take j).map Ev.c).length : Nat) : Int) = 1000 := by rw [List.length_map, htl]; omega
    simp [h1000] at h57
    omega
   refine W.skip (qs ?_)
   apply W.ij aa 19 18; (case hB => kernel_rfl); (case h1 => rfl); (case h2 => rfl)
   refine' aX ?p1_20 (ev aa rfl) rfl rfl rfl rfl rfl ?h_20
   case' h_20 => skip
   refine' aX ?p1_21 (ev aa rfl) rfl rfl rfl rfl rfl ?h_21
   case' h_21 => skip
   refine' aX ?p1_22 (cf (ev aa rfl) (y := 0) (by rfl)) rfl rfl rfl rfl rfl ?h_22
   case' h_22 => skip
   refine' aX ?p1_23 (ev aa rfl) rfl rfl rfl rfl rfl ?h_23
   case' h_23 => skip
   refine' aX ?p1_24 (ev aa rfl) rfl rfl rfl rfl rfl ?h_24
   case' h_24 => skip
   refine' aX ?p1_25 (cf (ev aa rfl) (y := 0) (by rfl)) rfl rfl rfl rfl rfl ?h_25
   case' h_25 => skip
   refine' aX ?p1_26 (dz aa rfl rfl rfl rfl rfl (by decide) Nat.zero_lt_one rfl) rfl rfl rfl rfl rfl ?h_26
   case' h_26 => skip
   refine' aX ?p1_27 (ev aa rfl) rfl rfl rfl rfl rfl ?h_27
   case' h_27 => skip
   refine' fh (ev aa rfl) rfl rfl rfl rfl rfl ?h_28
   case' h_28 => skip
   refine' aX ?p1_29 (ev aa rfl) rfl rfl rfl rfl rfl ?h_29
   case' h_29 => skip
   refine' aX ?p1_30 (ev aa rfl) rfl rfl rfl rfl rfl ?h_30
   case' h_30 => skip
   refine' aX ?p1_31 (indexAddr (l := aK.c ⟨th2, 0, 0, evs⟩) aa rfl rfl rfl rfl rfl rfl (Int.natCast_nonneg _) (aq hx) rfl) rfl rfl rfl rfl rfl ?h_31
   case' h_31 => skip
   refine' aX ?p1_32 (ev aa rfl) rfl rfl rfl rfl rfl ?h_32
   case' h_32 => skip
   refine' aX ?p1_33 (ev aa rfl) rfl rfl rfl rfl rfl ?h_33
   case' h_33 => skip
   refine' aX ?p1_34 (ev aa rfl) rfl rfl rfl rfl rfl ?h_34
   case' h_34 => skip
   refine' aX ?p1_35 (indexAddr (l := e.c) aa rfl rfl rfl rfl rfl rfl (Int.natCast_nonneg _) (aq he) rfl) rfl rfl rfl rfl rfl ?h_35
   case' h_35 => skip
   refine' aX ?p1_36 (ev aa rfl) rfl rfl rfl rfl rfl ?h_36
   case' h_36 => skip
   refine' fh (bl aa rfl rfl rfl rfl rfl rfl rfl rfl rfl) rfl rfl rfl rfl rfl ?h_37
   case' h_37 => skip
   refine' qR (fun g => ?e_38) rfl rfl rfl ?h_38
   case e_38 =>
    refine cr (fn := Ev.c) (l := evs.take j) (a := e) aa rfl rfl rfl rfl rfl rfl rfl rfl rfl rfl (fun _ => rfl) (by show ((evs.take j).length + 1) * 72 ≤ _; omega) ?_
    refine WO.nil ?_
    exact ⟨rfl, rfl⟩
   case' h_38 => skip
   case p1_20 => exact (ev aa rfl)
   case p1_21 => exact (ev aa rfl)
   case p1_22 => exact (cf (ev aa rfl) (y := 0) (by rfl))
   case p1_23 => exact (ev aa rfl)
   case p1_24 => exact (ev aa rfl)
   case p1_25 => exact (cf (ev aa rfl) (y := 0) (by rfl))
   case p1_26 => exact (dz aa rfl rfl rfl rfl rfl (by decide) Nat.zero_lt_one rfl)
   case p1_27 => exact (ev aa rfl)
   case p1_29 => exact (ev aa rfl)
   case p1_30 => exact (ev aa rfl)
   case p1_31 => exact (indexAddr (l := aK.c ⟨th2, 0, 0, evs⟩) aa rfl rfl rfl rfl rfl rfl (Int.natCast_nonneg _) (aq hx) rfl)
   case p1_32 => exact (ev aa rfl)
   case p1_33 => exact (ev aa rfl)
   case p1_34 => exact (ev aa rfl)
   case p1_35 => exact (indexAddr (l := e.c) aa rfl rfl rfl rfl rfl rfl (Int.natCast_nonneg _) (aq he) rfl)
   case p1_36 => exact (ev aa rfl)
   refine CC.nil ?_
   refine pu (dz aa rfl rfl rfl rfl rfl (by decide) Nat.zero_lt_one rfl) rfl ?_
   refine pE rfl (aO aa rfl rfl rfl rfl rfl rfl rfl rfl (WO.nil (bC (qs (W.region (pE rfl (pu (cf (ev aa rfl) (y := ((j + 1 : Nat) : Int)) ((wrap64 (by omega)).trans (by omega))) rfl ?_)))))))
   refine pE rfl (WO.nil (W.bb [0, 2] ⟨.inr (j + 1, cap, kk), ?_⟩ ?_ rfl ?_ ⟨rfl, rfl, rfl, rfl, rfl, rfl, trivial⟩ ?_ trivial rfl))
   · exact ⟨hjl, Nat.succ_pos _⟩
   · dsimp only; omega
   · repeat' first | exact trivial | refine ⟨rfl, ?_⟩
   dsimp only
   rw [htk]
   exact jC rfl rfl rfl rfl
  have hje : j = evs.length := by have h := of_decide_eq_false h30; rw [List.length_map] at h; exact Nat.le_antisymm hj (Nat.not_lt.1 fun q => h (Int.ofNat_lt.2 q))
  rw [show evs.take j = evs from List.take_of_length_le (by omega)]
  refine rz 0 3 rfl rfl rfl ?_
  refine qp 5 (es := [aK.c ⟨th2, 0, 0, evs⟩]) (k := kk) (sz := 4) rfl rfl rfl rfl (fun x hx => by obtain rfl := List.mem_singleton.1 hx; rfl) rfl rfl ?_
  rw [show (D.sl [aK.c ⟨th2, 0, 0, evs⟩]) = cP th2 (ps.take (k + 1)) from hD1.symm]
  refine W.exit (aP (aS (aM (bC (qs (W.region ?_))))))
  iterate 3 refine pE rfl ?_
  refine WO.nil (W.bb [] ⟨k + 1, ?_⟩ ?_ rfl ?_ ⟨rfl, rfl, rfl, rfl, trivial⟩ ?_ trivial rfl)
  · exact hlt
  · dsimp only; omega
  · repeat' first | exact trivial | refine ⟨rfl, ?_⟩ | refine ⟨aG (by assumption) (by assumption), ?_⟩
  repeat' exact trivial
 have hpt : ps.take k = ps := List.take_of_length_le (by omega)
 rw [hpt, wc hf]
 refine W.exit (aP (aS (aM (qs (W.seq (W.region ?_))))))
 iterate 2 refine pE rfl ?_
 refine WO.nil (qs (W.ret (QF.az trivial rfl ?_)))
 rfl
theorem uD {ps : List aK} (hn : (ps.map aK.thread).Nodup) {k : Nat} {p : aK} (hx : ps[k]? = some p) : ps.filter (fun q => decide (q.thread = p.thread)) = [p] := by
 have h1 := lJ (th := p.thread) hx
 rw [filter_none hn hx rfl, if_pos rfl] at h1
 have h2 : (ps.drop (k + 1)).filter (fun q => decide (q.thread = p.thread)) = [] := by
  rw [List.filter_eq_nil_iff]
  intro q hq
  simp only [decide_eq_true_eq]
  intro e
  obtain ⟨j, hj⟩ := List.mem_iff_getElem?.1 hq
  rw [List.getElem?_drop] at hj
  have := eu hn hj
  exact this (by rw [e]; exact List.mem_map.2 ⟨p, List.mem_of_getElem? (i := k) (by rw [List.getElem?_take_of_lt (by omega)]; exact hx), rfl⟩)
 have h3 : ps.filter (fun q => decide (q.thread = p.thread)) = (ps.take (k + 1)).filter (fun q => decide (q.thread = p.thread)) ++ (ps.drop (k + 1)).filter (fun q => decide (q.thread = p.thread)) := by
  rw [← List.filter_append, List.take_append_drop]
 rw [h3, h1, h2]; rfl
end Go.Proofs.YtoojafbicmdclaaGreatDoor
namespace Go.Proofs.YtoojafbicmdclaaGreatDoor
open Go.Ab Go.Tb
set_option maxRecDepth 10000
attribute [local irreducible] W WO Pu QS QB QL QF QV bU CH QE
def fX (s : ByteArray) (c : UInt8) (k : Nat) : List ByteArray := (cB c ((aQ s).take k)).map gL
theorem vv {s : ByteArray} {c : UInt8} {k : Nat} (h : (aQ s).length ≤ k) : fX s c k = Tb.aH s c := by unfold fX Tb.aH; rw [List.take_of_length_le h]; rfl
theorem uQ {s : ByteArray} {c : UInt8} {k : Nat} : (fX s c k).length ≤ k + 1 := by
 have h := lS c ((aQ s).take k)
 have h2 : ((aQ s).take k).length ≤ k := List.length_take_le _ _
 unfold fX
 rw [List.length_map]
 omega
theorem jX {s : ByteArray} {k : Nat} {b : UInt8} (h : (aQ s)[k]? = some b) : (aQ s).take (k + 1) = (aQ s).take k ++ [b] := by rw [List.take_add_one, h]; rfl
theorem xx {s : ByteArray} {c b : UInt8} {k : Nat} (h : (aQ s)[k]? = some b) (e : b = c) : fX s c k ++ [B #[]] = fX s c (k + 1) := by
 unfold fX
 rw [jX h, lN, if_pos e, List.map_append]
 rfl
theorem xf {s : ByteArray} {c b : UInt8} {k : Nat} {out : List ByteArray} {y : ByteArray} (h : (aQ s)[k]? = some b) (e : b ≠ c) (ho : fX s c k = out ++ [y]) : fX s c (k + 1) = out ++ [y ++ gL [b]] := by
 unfold fX at ho ⊢
 rw [jX h, lN, if_neg e, List.map_append, List.map_dropLast, ho, List.map_cons, List.map_nil]
 congr 1
 · simp
 congr 1
 have : gL ((cB c ((aQ s).take k)).getLastD []) = y := by
  have h2 : ((cB c ((aQ s).take k)).map gL).getLastD (B #[]) = y := by rw [ho]; simp
  rw [← h2, List.getLastD_eq_getLast?, List.getLastD_eq_getLast?, List.getLast?_map]
  cases (cB c ((aQ s).take k)).getLast? <;> rfl
 rw [← this]
 exact (sq _ _).symm
theorem xm {s : ByteArray} {a k : Nat} {b : UInt8} (h : (aQ s)[k]? = some b) (ha : a ≤ k) : s.extract a k ++ gL [b] = s.extract a (k + 1) := by
 refine data_inj ?_
 have hb : (aQ s)[k]? = some b := h
 have e1 : ∀ m, (s.extract a m).data.toList = ((aQ s).take m).drop a := fun m => by rw [ByteArray.data_extract, Array.toList_extract, List.extract_eq_take_drop, List.drop_take]; rfl
 rw [ByteArray.data_append, Array.toList_append, e1, e1, jX h, List.drop_append_of_le_length (by rw [List.length_take]; have := (List.getElem?_eq_some_iff.1 hb).1; omega)]
 rfl
theorem qS (s : ByteArray) (c : UInt8) (hs : s.size ≤ 1000000) : ax Tryz.prog 33 [.d (.v (.string s)), .d (.v (.int .u8 c.toNat))] (.d (.sl (qY (aH s c)))) 0 := by
 have hbl : (aQ s).length = s.size := Array.length_toList
 have hlenm : (aQ s).length ≤ maxLen := by simp only [maxLen]; omega
 have hlen1 : ∀ (l : List ByteArray), ∀ (x : List D), x ∈ l.map sc → x.length = 1 := by
  intro l x hx
  obtain ⟨y, _, rfl⟩ := List.mem_map.1 hx
  rfl
 refine ax.aV (n := 34) (ts := [4]) Tryz.func33 (by kernel_rfl) rfl Tryz.ntmps33 Tryz.results33 rfl rfl fun C hC hG => ?_
 refine W.seq (W.region (pE rfl (WO.nil (qs (W.seq (W.region (pE rfl (WO.nil (qs (W.seq (W.region (pE rfl (WO.nil (qs ?_))))))))))))))
 iterate 2 refine W.seq ?_
 refine W.region (pE rfl (WO.nil (qs (W.block (eC (d := 5) rfl rfl ?_)))))
 refine W.aW (ι := {x : Nat × Nat × List ByteArray // match x with | (k, a, out) => (k ≤ (aQ s).length ∧ a ≤ k) ∧ fX s c k = out ++ [s.extract a k]})
  (fun x => match x.1 with | (k, a, out) => [(5, .own 0 (out.map sc)), (6, .d (.v (.int .i64 ((a : Nat) : Int)))), (7, .d (.v (.int .i64 ((k : Nat) : Int))))]) [(0, _), (1, _)]
  (fun x => match x.1 with | (k, a, out) => []) [] [0] 1 (fun x => match x.1 with | (k, a, out) => (aQ s).length - k)
  [0] ⟨(0, 0, []), ?_⟩ rfl ?_ ⟨rfl, rfl, rfl, rfl, trivial⟩ ?_ trivial rfl ?_
 · exact ⟨⟨Nat.zero_le _, Nat.le_refl _⟩, by unfold fX; simp [cB]; exact data_inj (by simp [ByteArray.data_extract, wg])⟩
 · repeat' first | exact trivial | refine ⟨rfl, ?_⟩
 · repeat' exact trivial
 rintro ⟨⟨k, a, out⟩, hk0, hI⟩
 show W _ _ _ _ _ ⟨[(5, .own 0 (out.map sc)), (6, .d (.v (.int .i64 ((a : Nat) : Int)))), (7, .d (.v (.int .i64 ((k : Nat) : Int)))), (0, _), (1, _)], [], [0], 1⟩
 obtain ⟨hk, ha⟩ := hk0
 have hol : out.length ≤ k := by
  have h1 := uQ (s := s) (c := c) (k := k)
  rw [hI, List.length_append] at h1
  simp at h1
  omega
 iterate 2 refine W.seq ?_
 refine W.region ?_
 iterate 4 refine pE rfl ?_
 refine WO.nil (qs (ba (l := aQ s) (k := k) rfl (by simp [aE]) hk (fun b hx hd hlt => ?_) (fun he hd => ?_)))
 ·
  refine W.skip (qs (W.seq (W.block (W.seq (W.region ?_)))))
  iterate 2 refine pE rfl ?_
  refine pu (dM aa rfl rfl rfl rfl (Int.natCast_nonneg _) (eL hx)) rfl ?_
  iterate 2 refine pE rfl ?_
  refine WO.nil (qs (au rfl (fun h18 => ?_) (fun h18 => ?_)))
  ·
   have hbc : b = c := by simp at h18; exact UInt8.toNat_inj.1 (by omega)
   have hn := xx hx hbc
   rw [hI] at hn
   have hnx : fX s c (k + 1) = (out ++ [s.extract a k]) ++ [s.extract (k + 1) (k + 1)] := by rw [← hn]; congr 2; exact data_inj (by simp [ByteArray.data_extract])
   refine W.seq (W.region ?_)
   iterate 4 refine pE rfl ?_
   refine pu (rE (s := s) (l := (a : Int)) (h := (k : Int)) aa rfl rfl rfl rfl rfl (Int.natCast_nonneg _) (by omega) (by omega)) rfl ?_
   refine pu (bl aa rfl rfl rfl rfl rfl rfl rfl rfl rfl) rfl ?_
   refine cr (a := s.extract a k) aa rfl rfl rfl rfl rfl rfl rfl rfl rfl rfl (fun _ => rfl) (by show (out.length + 1) * 16 ≤ _; omega) ?_
   refine pE rfl (WO.nil (qs (W.region (pE rfl (pu (cf (ev aa rfl) (y := ((k + 1 : Nat) : Int)) (wrap64 (by omega))) rfl ?_)))))
   refine pE rfl (WO.nil (bC (qs (W.region ?_))))
   iterate 3 refine pE rfl ?_
   refine WO.nil (W.bb [1] ⟨(k + 1, k + 1, out ++ [s.extract a k]), ?_⟩ ?_ rfl ?_ ⟨rfl, rfl, rfl, rfl, trivial⟩ ?_ trivial rfl)
   · exact ⟨⟨hlt, Nat.le_refl _⟩, hnx⟩
   · dsimp only; omega
   · repeat' first | exact trivial | refine ⟨rfl, ?_⟩ | refine ⟨aG (by assumption) (by assumption), ?_⟩
   repeat' exact trivial
  have hbc : b ≠ c := by rintro rfl; simp at h18
  have hnx : fX s c (k + 1) = out ++ [s.extract a (k + 1)] := by rw [xf hx hbc hI, xm hx ha]
  refine W.skip (bC (qs (W.region ?_)))
  iterate 3 refine pE rfl ?_
  refine WO.nil (W.bb [0] ⟨(k + 1, a, out), ?_⟩ ?_ rfl ?_ ⟨rfl, rfl, rfl, rfl, trivial⟩ ?_ trivial rfl)
  · exact ⟨⟨hlt, by omega⟩, hnx⟩
  · dsimp only; omega
  · repeat' first | exact trivial | refine ⟨rfl, ?_⟩ | refine ⟨aG (by assumption) (by assumption), ?_⟩
  repeat' exact trivial
 have hfin : Tb.aH s c = out ++ [s.extract a s.size] := by rw [← vv (k := k) (by omega), hI, he, hbl]
 refine W.exit (aP (aS (aM (qs (W.seq (W.region ?_))))))
 iterate 3 refine pE rfl ?_
 refine pu (wZ (s := s) (l := (a : Int)) aa rfl rfl rfl rfl (Int.natCast_nonneg _) (by omega)) rfl ?_
 refine pu (bl aa rfl rfl rfl rfl rfl rfl rfl rfl rfl) rfl ?_
 refine cr (a := s.extract a ((s.size : Int)).toNat) aa rfl rfl rfl rfl rfl rfl rfl rfl rfl rfl (fun _ => rfl) (by show (out.length + 1) * 16 ≤ _; omega) ?_
 refine pE rfl (WO.nil (qs (W.ret (QF.az trivial rfl ?_))))
 rw [hfin]; rfl
theorem sU (k : ByteArray) : ax Tryz.prog 89 [.d (.v (.string k))] (.d (ci (lU k))) 0 := by
 refine ax.aV (n := 9) (ts := [2]) Tryz.func89 (by kernel_rfl) rfl Tryz.ntmps89 Tryz.results89 rfl rfl fun C hC hG => ?_
 refine W.seq (W.region (pE rfl (WO.nil (qs ?_))))
 iterate 2 refine W.seq ?_
 refine W.region (pE rfl (WO.nil (qs (W.block ?_))))
 iterate 2 refine W.seq ?_
 refine W.region ?_
 iterate 2 refine pE rfl ?_
 refine WO.nil (qs (au rfl (fun h4 => ?_) (fun h4 => ?_)))
 ·
  refine W.skip (qs (W.oC rfl (W.seq (W.region (pE rfl (WO.nil (qs (W.ret (aT (aB (QF.az trivial rfl ?_)))))))))))
  simp_all [norm, aL, lU, b8, fA, ey]
 refine W.region ?_
 iterate 2 refine pE rfl ?_
 refine WO.nil (qs (au rfl (fun h4 => ?_) (fun h4 => ?_)))
 ·
  refine W.seq (W.region (pE rfl (WO.nil (qs (W.ret (aT (aB (QF.az trivial rfl ?_))))))))
  simp_all [norm, aL, lU, b8, fA, ey]
 refine W.seq (W.region ?_)
 iterate 2 refine pE rfl ?_
 refine WO.nil (qs (au rfl (fun h7 => ?_) (fun h7 => ?_)))
 ·
  refine W.seq (W.region (pE rfl (WO.nil (qs (W.ret (aT (aB (QF.az trivial rfl ?_))))))))
  simp_all [norm, aL, lU, b8, fA, ey]
 refine W.skip (bC (qs (W.seq (W.region (pE rfl (WO.nil (qs (W.ret (QF.az trivial rfl ?_)))))))))
 simp_all [norm, aL, lU, b8, fA, ey]
theorem ud {l : List UInt8} {k : Nat} {b : UInt8} (h : l[k]? = some b) (hd : bH b = true) : b7 0 (l.take (k + 1)) = 10 * b7 0 (l.take k) + (b.toNat - 48) := by
 rw [List.take_add_one, h, Option.toList_some, jg]
 simp [b7, hd]
theorem sM {l : List UInt8} (h : l.length ≤ 16) : b7 0 l < 10000000000000000 := by
 have h1 := rF l 0 0 (by decide)
 rw [Nat.zero_add] at h1
 have h2 : (10 : Nat) ^ l.length ≤ 10 ^ 16 := Nat.pow_le_pow_right (by decide) h
 have h3 : (10 : Nat) ^ 16 = 10000000000000000 := by decide
 omega
theorem jS (s : ByteArray) (most : Int) : ax Tryz.prog 90 [.d (.v (.string s)), .d (.v (.int .i64 most))] (.d (ci (cW s most))) 0 := by
 have hbl : (aQ s).length = s.size := Array.length_toList
 obtain ⟨b0, hb0⟩ : ∃ b0, 1 < s.size → (aQ s)[0]? = some b0 := by
  by_cases q : 1 < s.size
  · exact ⟨(aQ s)[0], fun _ => by simp⟩
  exact ⟨0, fun h => absurd h q⟩
 have hh : 1 < s.size → (aQ s).head? = some b0 := fun h => by rw [List.head?_eq_getElem?]; exact hb0 h
 refine ax.aV (n := 52) (ts := [4]) Tryz.func90 (by kernel_rfl) rfl Tryz.ntmps90 Tryz.results90 rfl rfl fun C hC hG => ?_
 refine W.seq (W.region (pE rfl (WO.nil (qs ?_))))
 iterate 2 refine W.seq ?_
 apply aI; (case hb => rfl)
 ·
  iterate 3 refine pE rfl ?_
  apply cI; (case hj => rfl); (case hl => rfl)
  ·
   intro g9
   iterate 3 refine ae rfl rfl rfl rfl ?_
   iterate 2 refine pE rfl ?_
   iterate 4 refine ae rfl rfl rfl rfl ?_
   iterate 3 refine bh rfl rfl rfl ?_
   refine ae rfl rfl rfl rfl (pE rfl (WO.nil (ay rfl rfl rfl)))
  intro g9
  refine ab rfl rfl (pE rfl (ab rfl rfl (pE rfl (ab rfl rfl ?_))))
  iterate 3 refine pE rfl ?_
  apply cI; (case hj => rfl); (case hl => rfl)
  ·
   intro g14
   iterate 4 refine ae rfl rfl rfl rfl ?_
   iterate 3 refine bh rfl rfl rfl ?_
   refine ae rfl rfl rfl rfl (pE rfl (WO.nil (ay rfl rfl rfl)))
  intro g14
  refine ab rfl rfl (pE rfl (ab rfl rfl (pE rfl (ab rfl rfl (pE rfl (ab rfl rfl (pE rfl ?_)))))))
  apply cI; (case hj => rfl); (case hl => rfl)
  ·
   intro g18
   refine ab rfl rfl (pE rfl (ab rfl rfl (pu (dM aa rfl rfl rfl rfl (by decide) (eL (hb0 (by simp at g18; omega)))) rfl ?_)))
   refine ab rfl rfl (pE rfl (ab rfl rfl ?_))
   iterate 2 refine pE rfl ?_
   refine WO.nil (ay rfl rfl rfl)
  intro g18
  iterate 3 refine ae rfl rfl rfl rfl ?_
  refine ab rfl rfl ?_
  iterate 2 refine pE rfl ?_
  refine WO.nil (ay rfl rfl rfl)
 refine qs (au rfl (fun h23 => ?_) (fun h23 => ?_))
 ·
  have hg : cW s most = -1 := by
   unfold cW
   rw [if_pos]
   by_cases q1 : s = B #[]
   · exact .inl q1
   by_cases q2 : 16 < s.size
   · exact .inr (.inl q2)
   simp [q1, q2] at h23
   have h24 : 1 < s.size ∧ b0.toNat = 48 := by omega
   refine .inr (.inr ⟨h24.1, ?_⟩)
   rw [hh h24.1]
   congr 1
   exact UInt8.toNat_inj.1 h24.2
  refine W.seq (W.region (pE rfl (WO.nil (qs (W.ret (aB (QF.az trivial rfl ?_)))))))
  rw [hg]; rfl
 have hq : ¬ (s = B #[] ∨ 16 < s.size ∨ (1 < s.size ∧ (aQ s).head? = some 48)) := by
  rintro (q | q | ⟨q, q2⟩)
  · simp [q] at h23
  ·
   have q' : (16 : Int) < s.size := by omega
   simp [q'] at h23
  rw [hh q] at q2
  simp only [Option.some.injEq] at q2
  subst q2
  have q' : (1 : Int) < s.size := by omega
  simp [q'] at h23
 have hsz : s.size ≤ 16 := by omega
 have hbm : (aQ s).length ≤ maxLen := by simp only [maxLen]; omega
 refine W.skip (qs (W.seq (W.region (pE rfl (WO.nil (qs ?_))))))
 iterate 2 refine W.seq ?_
 refine W.region (pE rfl (WO.nil (qs (W.block ?_))))
 refine W.aW (ι := {x : Nat // match x with | k => k ≤ (aQ s).length ∧ ((aQ s).take k).all bH = true})
  (fun x => match x.1 with | k => [(5, .d (.v (.int .i64 ((b7 0 ((aQ s).take k) : Nat) : Int)))), (6, .d (.v (.int .i64 ((k : Nat) : Int))))]) [(0, _), (1, _)]
  (fun x => match x.1 with | k => []) [] [] 0 (fun x => match x.1 with | k => (aQ s).length - k)
  [] ⟨0, ?_⟩ rfl ?_ ⟨rfl, rfl, rfl, rfl, trivial⟩ ?_ trivial rfl ?_
 · exact ⟨Nat.zero_le _, rfl⟩
 · repeat' first | exact trivial | refine ⟨rfl, ?_⟩
 · repeat' exact trivial
 rintro ⟨k, hk, hI⟩
 show W _ _ _ _ _ ⟨[(5, .d (.v (.int .i64 ((b7 0 ((aQ s).take k) : Nat) : Int)))), (6, .d (.v (.int .i64 ((k : Nat) : Int)))), (0, _), (1, _)], [], [], 0⟩
 iterate 2 refine W.seq ?_
 refine W.region ?_
 iterate 4 refine pE rfl ?_
 refine WO.nil (qs (ba (l := aQ s) (k := k) rfl (by simp [aE]) hk (fun b hx hd hlt => ?_) (fun he hd => ?_)))
 ·
  have hbd := sM (l := (aQ s).take k) (by rw [List.length_take]; omega)
  refine W.skip (qs (W.seq (W.block ?_)))
  iterate 2 refine W.seq ?_
  apply aI; (case hb => rfl)
  ·
   iterate 2 refine pE rfl ?_
   refine pu (dM aa rfl rfl rfl rfl (Int.natCast_nonneg _) (eL hx)) rfl ?_
   iterate 2 refine pE rfl ?_
   apply cI; (case hj => rfl); (case hl => rfl)
   ·
    intro g34
    iterate 4 refine ae rfl rfl rfl rfl ?_
    refine pE rfl (WO.nil (ay rfl rfl rfl))
   intro g34
   refine ab rfl rfl (pE rfl (ab rfl rfl (pE rfl (ab rfl rfl (pu (dM aa rfl rfl rfl rfl (Int.natCast_nonneg _) (eL hx)) rfl ?_)))))
   refine ab rfl rfl ?_
   iterate 2 refine pE rfl ?_
   refine WO.nil (ay rfl rfl rfl)
  refine qs (au rfl (fun h39 => ?_) (fun h39 => ?_))
  ·
   have hnd : bH b = false := by
    unfold bH
    by_cases q : b.toNat < 48
    · simp; omega
    have q' : ¬ ((b.toNat : Int) < 48) := by omega
    simp [q'] at h39
    simp
    omega
   have hg : cW s most = -1 := by
    unfold cW
    rw [if_neg hq, if_pos]
    cases q : (aQ s).all bH with
    | false => rfl
    | true =>
     have := List.all_eq_true.1 q b (List.mem_of_getElem? hx)
     rw [hnd] at this
     cases this
   refine W.seq (W.region (pE rfl (WO.nil (qs (W.ret (aB (aT (aB (dc (aT (aB (QF.az trivial rfl ?_))))))))))))
   rw [hg]; rfl
  have hdg : 48 ≤ b.toNat ∧ b.toNat ≤ 57 := by
   by_cases q : b.toNat < 48
   ·
    have q' : (b.toNat : Int) < 48 := by omega
    simp [q'] at h39
   have q' : ¬ ((b.toNat : Int) < 48) := by omega
   simp [q'] at h39
   omega
  have hd1 : bH b = true := by unfold bH; simp; omega
  have hst := ud hx hd1
  refine W.skip (qs (W.region (pE rfl (pu (cf (ev aa rfl) (y := ((10 * b7 0 ((aQ s).take k) : Nat) : Int)) (wrap64 (by omega))) rfl ?_))))
  iterate 2 refine pE rfl ?_
  refine pu (dM aa rfl rfl rfl rfl (Int.natCast_nonneg _) (eL hx)) rfl ?_
  refine pu (cf (ev aa rfl) (y := ((b.toNat - 48 : Nat) : Int)) ((wrap_u8 (by omega)).trans (by omega))) rfl ?_
  refine pu (cf (ev aa rfl) (y := ((b.toNat - 48 : Nat) : Int)) (wrap64 (by omega))) rfl ?_
  refine pu (cf (ev aa rfl) (y := ((b7 0 ((aQ s).take (k + 1)) : Nat) : Int)) (by rw [hst]; exact (wrap64 (by omega)).trans (by omega))) rfl ?_
  refine pE rfl (WO.nil (bC (qs (W.region ?_))))
  iterate 3 refine pE rfl ?_
  refine WO.nil (W.bb [] ⟨k + 1, ?_⟩ ?_ rfl ?_ ⟨rfl, rfl, rfl, rfl, trivial⟩ ?_ trivial rfl)
  · exact ⟨hlt, by rw [List.take_add_one, hx, List.all_append, hI]; simp [hd1]⟩
  · dsimp only; omega
  · repeat' first | exact trivial | refine ⟨rfl, ?_⟩ | refine ⟨aG (by assumption) (by assumption), ?_⟩
  repeat' exact trivial
 have htk : (aQ s).take k = aQ s := List.take_of_length_le (by omega)
 rw [htk] at hI
 refine W.exit (aP (aS (aM (qs ?_))))
 iterate 2 refine W.seq ?_
 refine W.region ?_
 iterate 3 refine pE rfl ?_
 refine WO.nil (qs (au rfl (fun h50 => ?_) (fun h50 => ?_)))
 ·
  have hg : cW s most = -1 := by unfold cW; rw [if_neg hq, if_neg (by rw [hI]; decide), if_pos (by rw [htk] at h50; simpa using h50)]
  refine W.seq (W.region (pE rfl (WO.nil (qs (W.ret (aB (QF.az trivial rfl ?_)))))))
  rw [hg]; rfl
 have hg : cW s most = (b7 0 ((aQ s).take k) : Int) := by unfold cW; rw [if_neg hq, if_neg (by rw [hI]; decide), if_neg (by rw [htk] at h50; simpa using h50), htk]
 refine W.skip (qs (W.seq (W.region ?_)))
 iterate 2 refine pE rfl ?_
 refine WO.nil (qs (W.ret (QF.az trivial rfl ?_)))
 rw [hg]; rfl
end Go.Proofs.YtoojafbicmdclaaGreatDoor
namespace Go.Proofs.YtoojafbicmdclaaGreatDoor
open Go.Ab Go.Tb
set_option maxRecDepth 10000
attribute [local irreducible] W WO Pu QS QB QL QF QV bU CH QE
theorem xl {a b k : ByteArray} {r : List ByteArray} (h1 : cntF k ≠ 0) (h2 : (r.length : Int) = cntF k) {g : Bool} (hg : g = ((aZ a 1000000000000).2 && (aZ b 63).2 && r.all nl)) {y : Int} (hy : k = b8 → (r.map nq)[1]? = some y) :
  eh (a :: b :: k :: r) = if g = true ∧ ¬ (k = b8 ∧ y ≠ 0 ∧ y ≠ 1 ∧ y ≠ 3) then ⟨cW a 1000000000000, cW b 63, k, r.map nq, 0⟩ else cQ := by
 simp only [eh]
 rw [if_neg (by rintro (q | q); exact h1 q; exact q h2)]
 by_cases hgt : g = true
 ·
  subst hgt
  have hg := hg.symm
  simp only [Bool.and_eq_true] at hg
  obtain ⟨⟨ha, hb⟩, hr⟩ := hg
  have hm := oT hr
  rw [iQ, ha, hb, show (r.all fun w => (aZ w 1000000000000000).2) = true from hr, ← hm, iA (by decide) ha, iA (by decide) hb]
  by_cases hk : k = b8
  ·
   have hy := hy hk
   rw [← hm] at hy
   have hy2 : (r.map fun w => (aZ w 1000000000000000).1)[1]? = some y := hy
   rw [hy2]
   by_cases q : y ≠ 0 ∧ y ≠ 1 ∧ y ≠ 3
   · rw [if_pos (.inr (.inr ⟨hk, by simp; omega⟩)), if_neg (fun h => h.2 ⟨hk, q⟩)]
   rw [if_neg, if_pos ⟨rfl, fun h => q h.2⟩]
   rintro (e | e | ⟨_, e⟩)
   · cases e
   · cases e
   simp at e; omega
  rw [if_neg, if_pos ⟨rfl, fun h => hk h.1⟩]
  rintro (e | e | ⟨e, _⟩)
  · cases e
  · cases e
  exact hk e
 refine Eq.trans (if_pos ?_) (if_neg fun h => hgt h.1).symm
 have hgf : g = false := by simpa using hgt
 rw [iQ]
 cases ha : (aZ a 1000000000000).2 with
 | false => exact .inl rfl
 | true =>
  cases hb : (aZ b 63).2 with
  | false => exact .inr (.inl rfl)
  | true =>
   rw [hgf, ha, hb] at hg
   exact .inl hg.symm
theorem vt (s : ByteArray) (hs : s.size ≤ 1000000) : ax Tryz.prog 34 [.d (.v (.string s))] (bc s).res 0 := by
 obtain ⟨wa, wb, kw, r, hws⟩ : ∃ wa wb kw r, 3 ≤ (aH s 32).length → aH s 32 = wa :: wb :: kw :: r := by
  by_cases q : 3 ≤ (aH s 32).length
  ·
   match hc : aH s 32, q with
   | a :: b :: k :: r, _ => exact ⟨a, b, k, r, fun _ => rfl⟩
  exact ⟨B #[], B #[], B #[], [], fun h => absurd h q⟩
 have hkw : 3 ≤ (aH s 32).length → (aH s 32)[2]? = some kw := fun h => by rw [hws h]; rfl
 have hcl : (aH s 32).length ≤ 1000001 := by have := lW s 32; omega
 refine ax.aV (n := 93) (ts := [2, 3, 4, 5, 6]) Tryz.func34 (by kernel_rfl) rfl Tryz.ntmps34 Tryz.results34 rfl rfl fun C hC hG => ?_
 refine W.seq (W.region ?_)
 iterate 5 refine pE rfl ?_
 refine WO.nil (qs (W.seq (W.region (pE rfl (pu (aw rfl rfl rfl (qS s 32 hs) rfl) rfl ?_)))))
 refine pE rfl (WO.nil (qs ?_))
 iterate 2 refine W.seq ?_
 apply aI; (case hb => rfl)
 ·
  iterate 4 refine pE rfl ?_
  apply cI; (case hj => rfl); (case hl => rfl)
  ·
   intro g19
   iterate 8 refine ae rfl rfl rfl rfl ?_
   refine pE rfl (WO.nil (ay rfl rfl rfl))
  intro g19
  refine ab rfl rfl (pE rfl (ab rfl rfl (pE rfl (ab rfl rfl (pu (cf (ev aa rfl) (y := ((aH s 32).length : Int) - 3) (by rw [List.length_map]; exact wrap64 (by omega))) rfl ?_)))))
  refine ab rfl rfl (pE rfl (ab rfl rfl (pu (indexAddr (l := sc kw) aa rfl rfl rfl rfl rfl rfl (by decide) (aq (hkw (by simp at g19; omega))) rfl) rfl ?_)))
  refine ab rfl rfl (pE rfl (ab rfl rfl (pu (aw rfl rfl rfl (sU ..) rfl) rfl ?_)))
  refine ab rfl rfl ?_
  iterate 2 refine pE rfl ?_
  refine WO.nil (ay rfl rfl rfl)
 refine qs (au rfl (fun h28 => ?_) (fun h28 => ?_))
 ·
  have hbad : bc s = cQ := by
   unfold bc
   by_cases q : 3 ≤ (aH s 32).length
   ·
    rw [hws q] at h28 ⊢
    refine nZ ?_
    have q' : ¬ (((r.length + 1 + 1 + 1 : Nat) : Int) < 3) := by omega
    simp at h28
    rw [qq] at h28
    by_cases q2 : cntF kw = 0
    · exact .inl q2
    rw [if_neg q2] at h28
    exact .inr (by omega)
   exact ly (by omega)
  refine W.seq (W.region ?_)
  iterate 5 refine pE rfl ?_
  refine WO.nil (qs ?_)
  try refine ie (t := 5) rfl ?_
  refine W.ret (aB (QF.az trivial rfl ?_))
  rw [hbad]; rfl
 have hq : 3 ≤ (aH s 32).length := by
  by_cases q : (((aH s 32).length : Nat) : Int) < 3
  · simp [q] at h28
  omega
 have hw := hws hq
 have hrl : cntF kw ≠ 0 ∧ (r.length : Int) = cntF kw := by
  have q' : ¬ ((((aH s 32).length : Nat) : Int) < 3) := by omega
  simp [q'] at h28
  rw [hw, qq] at h28
  simp at h28
  by_cases q2 : cntF kw = 0
  · rw [if_pos q2] at h28; omega
  rw [if_neg q2] at h28
  exact ⟨q2, by omega⟩
 have hi0 : (aH s 32)[0]? = some wa := by rw [hw]; rfl
 have hi1 : (aH s 32)[1]? = some wb := by rw [hw]; rfl
 have hi2 : (aH s 32)[2]? = some kw := by rw [hw]; rfl
 have hlw : (aH s 32).length = r.length + 3 := by rw [hw]; rfl
 have hix : ∀ j : Nat, (aH s 32)[j + 3]? = r[j]? := fun j => by rw [hw]; rfl
 have hr3 : r.length ≤ 3 := by rcases ig kw with ⟨_, h⟩ | ⟨_, h⟩ | ⟨_, h⟩ | ⟨_, _, _, h⟩ <;> omega
 refine W.skip (qs (W.seq (W.region (pE rfl (pu (indexAddr (l := sc wa) aa rfl rfl rfl rfl rfl rfl (by decide) (aq hi0) rfl) rfl ?_)))))
 refine pE rfl (pu (aw rfl rfl rfl (jS ..) rfl) rfl ?_)
 refine pE rfl (WO.nil (qs (W.seq (W.region (pE rfl (pu (indexAddr (l := sc wb) aa rfl rfl rfl rfl rfl rfl (by decide) (aq hi1) rfl) rfl ?_))))))
 refine pE rfl (pu (aw rfl rfl rfl (jS ..) rfl) rfl ?_)
 refine pE rfl (WO.nil (qs (W.seq ?_)))
 apply aI; (case hb => rfl)
 ·
  iterate 3 refine pE rfl ?_
  apply cI; (case hj => rfl); (case hl => rfl)
  ·
   intro g39
   refine ab rfl rfl (pE rfl (ab rfl rfl ?_))
   iterate 3 refine pE rfl ?_
   refine WO.nil (ay rfl rfl rfl)
  intro g39
  iterate 2 refine ae rfl rfl rfl rfl ?_
  iterate 2 refine pE rfl ?_
  refine WO.nil (ay rfl rfl rfl)
 refine qs (W.seq (W.region (pE rfl (WO.nil (qs ?_)))))
 iterate 2 refine W.seq ?_
 refine W.region (pE rfl (WO.nil (qs (W.block (eC (d := 11) rfl rfl ?_)))))
 refine W.aW (ι := {x : Nat × Bool × List Int // match x with | (j, b, m) => j + 3 ≤ (aH s 32).length ∧ b = ((aZ wa 1000000000000).2 && (aZ wb 63).2 && (r.take j).all nl) ∧ m = (r.take j).map nq})
  (fun x => match x.1 with | (j, b, m) => [(10, .d (.v (.bool b))), (11, .own 0 (m.map ic)), (12, .d (.v (.int .i64 ((j + 3 : Nat) : Int))))]) [(7, _), (8, _), (9, _)]
  (fun x => match x.1 with | (j, b, m) => []) [] [0] 1 (fun x => match x.1 with | (j, b, m) => r.length - j)
  [0] ⟨(0, (bif decide (0 ≤ cW wa 1000000000000) then decide (0 ≤ cW wb 63) else false), []), ?_⟩ rfl ?_ ⟨rfl, rfl, rfl, rfl, rfl, rfl, trivial⟩ ?_ trivial rfl ?_
 · exact ⟨hq, by rw [gh (by decide), gh (by decide)]; cases (aZ wa 1000000000000).2 <;> cases (aZ wb 63).2 <;> rfl, rfl⟩
 · repeat' first | exact trivial | refine ⟨rfl, ?_⟩
 · repeat' exact trivial
 rintro ⟨⟨j, b, m⟩, hk, hI, hM⟩
 show W _ _ _ _ _ ⟨[(10, .d (.v (.bool b))), (11, .own 0 (m.map ic)), (12, .d (.v (.int .i64 ((j + 3 : Nat) : Int)))), (7, _), (8, _), (9, _)], [], [0], 1⟩
 iterate 2 refine W.seq ?_
 refine W.region ?_
 iterate 4 refine pE rfl ?_
 refine WO.nil (qs (ba (l := aH s 32) (k := j + 3) rfl (by simp [Ex.aJ, aE]) hk (fun x hx hd hlt => ?_) (fun he hd => ?_)))
 ·
  have hxr : r[j]? = some x := by rw [← hix]; exact hx
  have hjr : j < r.length := (List.getElem?_eq_some_iff.1 hxr).1
  have hml : m.length = j := by rw [hM]; simp; omega
  refine W.skip (qs (W.seq (W.block (W.seq (W.region ?_)))))
  iterate 2 refine pE rfl ?_
  refine pu (indexAddr (l := sc x) aa rfl rfl rfl rfl rfl rfl (Int.natCast_nonneg (j + 3)) (aq hx) rfl) rfl ?_
  refine pE rfl (pu (aw rfl rfl rfl (jS ..) rfl) rfl ?_)
  refine pE rfl (WO.nil (qs (W.seq ?_)))
  apply aI; (case hb => rfl)
  ·
   iterate 2 refine pE rfl ?_
   apply cI; (case hj => rfl); (case hl => rfl)
   ·
    intro g55
    refine ab rfl rfl (pE rfl (ab rfl rfl ?_))
    iterate 3 refine pE rfl ?_
    refine WO.nil (ay rfl rfl rfl)
   intro g55
   iterate 2 refine ae rfl rfl rfl rfl ?_
   iterate 2 refine pE rfl ?_
   refine WO.nil (ay rfl rfl rfl)
  refine qs (W.region ?_)
  iterate 2 refine pE rfl ?_
  refine pu (bl aa rfl rfl rfl rfl rfl rfl rfl rfl rfl) rfl ?_
  refine cr (fn := ic) (a := nq x) aa rfl rfl rfl rfl rfl rfl rfl rfl rfl rfl (fun _ => rfl) (by show (m.length + 1) * 8 ≤ _; omega) ?_
  refine pE rfl (WO.nil (bC (qs (W.region (pE rfl (pu (cf (ev aa rfl) (y := ((j + 1 + 3 : Nat) : Int)) ((wrap64 (by omega)).trans (by omega))) rfl ?_))))))
  refine pE rfl (WO.nil (W.bb [1] ⟨(j + 1, (bif b then decide (0 ≤ nq x) else false), m ++ [nq x]), ?_⟩ ?_ rfl ?_ ⟨rfl, rfl, rfl, rfl, rfl, rfl, trivial⟩ ?_ trivial rfl))
  · exact ⟨hlt, by rw [hI, show decide (0 ≤ nq x) = nl x from gh (by decide), List.take_add_one, hxr, List.all_append]; cases (aZ wa 1000000000000).2 <;> cases (aZ wb 63).2 <;> cases (r.take j).all nl <;> simp [nl], by rw [hM, List.take_add_one, hxr, List.map_append]; rfl⟩
  · dsimp only; omega
  · repeat' first | exact trivial | refine ⟨rfl, ?_⟩
  repeat' exact trivial
 have htk : r.take j = r := List.take_of_length_le (by omega)
 rw [htk] at hI hM
 obtain ⟨y, hy⟩ : ∃ y, kw = b8 → (r.map nq)[1]? = some y := by
  by_cases q : kw = b8
  ·
   have h3 : r.length = 3 := by
    rcases ig kw with ⟨_, h⟩ | ⟨h, _⟩ | ⟨h, _⟩ | ⟨h, _⟩
    · omega
    · rw [q] at h; exact absurd h (by decide)
    · rw [q] at h; exact absurd h (by decide)
    exact absurd q h
   exact ⟨(r.map nq)[1]'(by simp [h3]), fun _ => List.getElem?_eq_getElem _⟩
  exact ⟨0, fun h => absurd h q⟩
 have hL : bc s = if b = true ∧ ¬ (kw = b8 ∧ y ≠ 0 ∧ y ≠ 1 ∧ y ≠ 3) then ⟨cW wa 1000000000000, cW wb 63, kw, r.map nq, 0⟩ else cQ := by
  unfold bc
  rw [hw]
  exact xl hrl.1 hrl.2 hI hy
 have hym : kw = b8 → m[1]? = some y := hM ▸ hy
 refine W.exit (aP (aS (aM (qs ?_))))
 iterate 2 refine W.seq ?_
 apply aI; (case hb => rfl)
 ·
  refine pE rfl (pu (indexAddr (l := sc kw) aa rfl rfl rfl rfl rfl rfl (by decide) (aq hi2) rfl) rfl ?_)
  refine pE rfl ?_
  iterate 2 refine pE rfl ?_
  apply cI; (case hj => rfl); (case hl => rfl)
  ·
   intro g67
   refine ab rfl rfl (pE rfl (ab rfl rfl (pu (indexAddr (l := ic y) aa rfl rfl rfl rfl rfl rfl (by decide) (aq (hym (by simpa [b8] using g67))) rfl) rfl ?_)))
   refine ab rfl rfl (pE rfl (ab rfl rfl ?_))
   iterate 3 refine pE rfl ?_
   apply cI; (case hj => rfl); (case hl => rfl)
   ·
    intro g73
    refine ab rfl rfl (pE rfl (ab rfl rfl (pu (indexAddr (l := ic y) aa rfl rfl rfl rfl rfl rfl (by decide) (aq (hym (by simpa [b8] using g67))) rfl) rfl ?_)))
    refine ab rfl rfl (pE rfl (ab rfl rfl ?_))
    iterate 3 refine pE rfl ?_
    apply cI; (case hj => rfl); (case hl => rfl)
    ·
     intro g79
     refine ab rfl rfl (pE rfl (ab rfl rfl (pu (indexAddr (l := ic y) aa rfl rfl rfl rfl rfl rfl (by decide) (aq (hym (by simpa [b8] using g67))) rfl) rfl ?_)))
     refine ab rfl rfl (pE rfl (ab rfl rfl ?_))
     iterate 2 refine pE rfl ?_
     refine WO.nil (ay rfl rfl rfl)
    intro g79
    iterate 4 refine ae rfl rfl rfl rfl ?_
    refine pE rfl (WO.nil (ay rfl rfl rfl))
   intro g73
   iterate 4 refine ae rfl rfl rfl rfl ?_
   iterate 2 refine pE rfl ?_
   iterate 4 refine ae rfl rfl rfl rfl ?_
   refine pE rfl (WO.nil (ay rfl rfl rfl))
  intro g67
  iterate 4 refine ae rfl rfl rfl rfl ?_
  iterate 2 refine pE rfl ?_
  iterate 4 refine ae rfl rfl rfl rfl ?_
  iterate 2 refine pE rfl ?_
  iterate 4 refine ae rfl rfl rfl rfl ?_
  refine pE rfl (WO.nil (ay rfl rfl rfl))
 refine qs (au rfl (fun h84 => ?_) (fun h84 => ?_))
 ·
  have hbad : bc s = cQ := by
   rw [hL, if_neg]
   rintro ⟨_, h⟩
   apply h
   by_cases q : kw = b8
   ·
    simp [q, b8] at h84
    exact ⟨q, by omega⟩
   exfalso
   simp [show ¬ kw = { data := #[115, 119, 105, 116, 99, 104] } from q] at h84
  refine W.region (pE rfl (WO.nil (qs ?_)))
  iterate 2 refine W.seq ?_
  refine W.region ?_
  iterate 2 refine pE rfl ?_
  refine WO.nil (qs (W.oC rfl (W.seq (W.region ?_))))
  iterate 5 refine pE rfl ?_
  refine WO.nil (qs ?_)
  try refine ie (t := 5) rfl ?_
  refine W.ret (aB (QF.az trivial rfl ?_))
  rw [hbad]; rfl
 have h84' : ¬ (kw = b8 ∧ y ≠ 0 ∧ y ≠ 1 ∧ y ≠ 3) := by
  rintro ⟨q, q1, q2, q3⟩
  simp [q, q1, q2, q3, b8] at h84
 refine W.skip (qs ?_)
 iterate 2 refine W.seq ?_
 refine W.region ?_
 iterate 2 refine pE rfl ?_
 refine WO.nil (qs (au rfl (fun h86 => ?_) (fun h86 => ?_)))
 ·
  have hbad : bc s = cQ := by
   rw [hL, if_neg]
   rintro ⟨h, _⟩
   rw [h] at h86
   cases h86
  refine W.seq (W.region ?_)
  iterate 5 refine pE rfl ?_
  refine WO.nil (qs ?_)
  try refine ie (t := 5) rfl ?_
  refine W.ret (aB (QF.az trivial rfl ?_))
  rw [hbad]; rfl
 have hgood : bc s = ⟨cW wa 1000000000000, cW wb 63, kw, m, 0⟩ := by
  rw [hL, if_pos ⟨by simpa using h86, h84'⟩, hM]
 refine W.skip (qs (W.seq (W.cU aa (by kernel_rfl) ?_)))
 iterate 3 refine aC (ev aa rfl) rfl ?_
 refine aC (indexAddr (l := sc kw) aa rfl rfl rfl rfl rfl rfl (by decide) (aq hi2) rfl) rfl ?_
 refine aC (ev aa rfl) rfl ?_
 iterate 6 refine aC (ev aa rfl) rfl ?_
 refine CH.nil ?_
 refine qs ?_
 try refine ie (t := 5) rfl ?_
 refine W.ret (QF.az trivial rfl ?_)
 rw [hgood]; rfl
end Go.Proofs.YtoojafbicmdclaaGreatDoor
namespace Go.Proofs.YtoojafbicmdclaaGreatDoor
open Go.Ab Go.Tb
set_option maxRecDepth 10000
attribute [local irreducible] W WO Pu QS QB QL QF QV bU CH QE
@[reducible] def recC (p : Int × Ev) : List D := ci p.1 :: p.2.c
theorem wm {u : Nat} (h : (u : Int) ≤ 9223372036854775807) : (br ((u / 10 : Nat) : Int)).size + (br ((u % 10 : Nat) : Int)).size ≤ 9223372036854775807 := by
 have h1 : (10 : Nat) ^ 20 = 100000000000000000000 := by decide
 have h2 := gJ (n := ((u / 10 : Nat) : Int)) (by omega)
 have h3 := gJ (n := ((u % 10 : Nat) : Int)) (by omega)
 omega
theorem nj : ∀ (m : Nat) (n : Int), n.natAbs < m → 0 ≤ n → n ≤ 9223372036854775807 → ax Tryz.prog 91 [.d (.v (.int .i64 n))] (.d (.v (.string (br n)))) 0 := by
 intro m
 induction m with
 | zero => intro n h; omega
 | succ m ih =>
  intro n hm h0 h1
  refine ax.aV (n := 16) (ts := [2]) Tryz.func91 (by kernel_rfl) rfl Tryz.ntmps91 Tryz.results91 rfl rfl fun C hC hG => ?_
  refine W.seq (W.region (pE rfl (WO.nil (qs ?_))))
  iterate 2 refine W.seq ?_
  refine W.region ?_
  iterate 2 refine pE rfl ?_
  refine WO.nil (qs (au rfl (fun h4 => ?_) (fun h4 => ?_)))
  ·
   have hn2 : n < 10 := by simpa using h4
   have hs : iF.extract n.toNat (n + 1).toNat = br n := by
    refine rf ?_
    rw [show (n + 1).toNat = n.toNat + 1 by omega, qJ (show n.toNat < 10 by omega), dL, dP h0, b5 (by omega)]
   refine W.seq (W.region ?_)
   iterate 2 refine pE rfl ?_
   refine pu (cf (ev aa rfl) (wrap64 (by omega))) rfl ?_
   refine pu (y9 (rE (s := iF) aa rfl rfl rfl rfl rfl h0 (by omega) (by rw [show iF.size = 10 from rfl]; omega)) hs) rfl ?_
   refine pE rfl (WO.nil (qs (W.ret (aB (QF.az trivial rfl ?_)))))
   rfl
  have hn2 : 10 ≤ n := by simp at h4; omega
  obtain ⟨u, rfl⟩ : ∃ u : Nat, n = (u : Int) := ⟨n.toNat, by omega⟩
  have hq : (u : Int).tdiv 10 = ((u / 10 : Nat) : Int) := rfl
  have hr : (u : Int).tmod 10 = ((u % 10 : Nat) : Int) := rfl
  have hs : br ((u / 10 : Nat) : Int) ++ br ((u % 10 : Nat) : Int) = br (u : Int) := by
   refine rf ?_
   rw [vU, dL, dL, dL, jM, jM, jM, dO (u := u) (by omega), b5 (u := u % 10) (Nat.mod_lt _ (by decide))]
  refine W.skip (qs (W.seq (W.region (pE rfl (pu (cf (zt (q := 10) rfl rfl (by decide) (dQ _ _)) (y := ((u / 10 : Nat) : Int)) (by rw [hq]; exact wrap64 (by omega))) rfl ?_)))))
  refine pu (aw rfl rfl rfl (ih ((u / 10 : Nat) : Int) (by omega) (by omega) (by omega)) rfl) rfl ?_
  refine pE rfl (pu (cf (v8 (q := 10) rfl rfl (by decide) (by rw [hr]; simp [bK, IntKind.min, IntKind.max, IntKind.signed, IntKind.bits]; omega)) (y := ((u % 10 : Nat) : Int)) hr) rfl ?_)
  refine pu (aw rfl rfl rfl (ih ((u % 10 : Nat) : Int) (by omega) (by omega) (by omega)) rfl) rfl ?_
  refine pu (y9 (ky rfl rfl (wm h1)) hs) rfl ?_
  refine pE rfl (WO.nil (qs (W.ret (QF.az trivial rfl ?_))))
  rfl
theorem sG (x : eW) (hx : qZ x) : ax Tryz.prog 35 [.d (ci x.at_), .d (ci x.cpu), .d (.v (.string x.word)), .d (.sl (x.l.map ic))] (.d (.sl ((bE (ca x)).map recC))) 0 := by
 obtain ⟨a, qa⟩ : ∃ a, x.l[0]? = some a := by rcases hx with ⟨_, h⟩ | ⟨_, h⟩ | ⟨_, h⟩ <;> exact ⟨x.l[0]'(by omega), by simp⟩
 obtain ⟨b, qb⟩ : ∃ b, x.l[1]? = some b := by rcases hx with ⟨_, h⟩ | ⟨_, h⟩ | ⟨_, h⟩ <;> exact ⟨x.l[1]'(by omega), by simp⟩
 obtain ⟨c, qc⟩ : ∃ c, x.word ≠ ey → x.l[2]? = some c := by
  rcases hx with ⟨h, _⟩ | ⟨_, h⟩ | ⟨_, h⟩
  · exact ⟨0, fun q => absurd h q⟩
  · exact ⟨x.l[2]'(by omega), fun _ => by simp⟩
  exact ⟨x.l[2]'(by omega), fun _ => by simp⟩
 have hab : x.l[0]?.getD 0 = a ∧ x.l[1]?.getD 0 = b := by rw [qa, qb]; exact ⟨rfl, rfl⟩
 have hel := ld x
 obtain ⟨out, ho⟩ : ∃ out, out = ca x := ⟨_, rfl⟩
 rw [← ho] at hel ⊢
 refine ax.aV (n := 77) (ts := [8]) Tryz.func35 (by kernel_rfl) rfl Tryz.ntmps35 Tryz.results35 rfl rfl fun C hC hG => ?_
 refine W.seq (W.region (pE rfl (WO.nil (qs (W.seq (W.region (pE rfl (WO.nil (qs ?_)))))))))
 iterate 2 refine W.seq ?_
 refine W.region ?_
 iterate 2 refine pE rfl ?_
 refine WO.nil (qs (W.yp [(9, .own 0 (out.map recC))] [] [] [] [0] 1 ?_ ?_))
 ·
  refine au rfl (fun h14 => ?_) (fun h14 => ?_)
  ·
   have hw : x.word = ey := by simpa [ey] using h14
   have hF : out = [(a, sZ x.at_ b 0)] := by rw [ho]; unfold ca; rw [if_pos hw, hab.1, hab.2]
   refine eC (d := 9) rfl rfl ?_
   refine W.eB aa [] [] [] [] 11 (by kernel_rfl) (by kernel_rfl) rfl rfl ?_
   refine' aD (ev aa rfl) ?p_1 rfl rfl rfl (by kernel_rfl) rfl ?h_1
   case' h_1 => skip
   case p_1 => refine ⟨fun ha => (ah ha (by kernel_rfl)).elim, ?_⟩ <;> intro ha <;> first | exact ⟨ev aa rfl, fun h => nomatch h⟩ | exact (ah ha (by kernel_rfl)).elim
   refine' aD (ev aa rfl) ?p_2 rfl rfl rfl (by kernel_rfl) rfl ?h_2
   case' h_2 => skip
   case p_2 => refine ⟨fun ha => (ah ha (by kernel_rfl)).elim, ?_⟩ <;> intro ha <;> first | exact ⟨ev aa rfl, fun h => nomatch h⟩ | exact (ah ha (by kernel_rfl)).elim
   refine' aD (indexAddr (l := ic a) aa rfl rfl rfl rfl rfl rfl (by decide) (aq qa) rfl) ?p_3 rfl rfl rfl (by kernel_rfl) rfl ?h_3
   case' h_3 => skip
   case p_3 => refine ⟨fun ha => (ah ha (by kernel_rfl)).elim, ?_⟩ <;> intro ha <;> first | exact ⟨indexAddr (l := ic a) aa rfl rfl rfl rfl rfl rfl (by decide) (aq qa) rfl, fun h => nomatch h⟩ | exact (ah ha (by kernel_rfl)).elim
   refine' aD (ev aa rfl) ?p_4 rfl rfl rfl (by kernel_rfl) rfl ?h_4
   case' h_4 => skip
   case p_4 => refine ⟨fun ha => (ah ha (by kernel_rfl)).elim, ?_⟩ <;> intro ha <;> first | exact ⟨ev aa rfl, fun h => nomatch h⟩ | exact ⟨bG aa rfl rfl rfl rfl, fun h => nomatch h⟩ | exact ⟨bF aa rfl rfl rfl rfl rfl, fun h => nomatch h⟩ | exact (ah ha (by kernel_rfl)).elim
   refine' aD (ev aa rfl) ?p_5 rfl rfl rfl (by kernel_rfl) rfl ?h_5
   case' h_5 => skip
   case p_5 => refine ⟨fun ha => (ah ha (by kernel_rfl)).elim, ?_⟩ <;> intro ha <;> first | exact ⟨ev aa rfl, fun h => nomatch h⟩ | exact (ah ha (by kernel_rfl)).elim
   refine' aD (ev aa rfl) ?p_6 rfl rfl rfl (by kernel_rfl) rfl ?h_6
   case' h_6 => skip
   case p_6 => refine ⟨fun ha => (ah ha (by kernel_rfl)).elim, ?_⟩ <;> intro ha <;> first | exact ⟨ev aa rfl, fun h => nomatch h⟩ | exact (ah ha (by kernel_rfl)).elim
   refine' aD (indexAddr (l := ic b) aa rfl rfl rfl rfl rfl rfl (by decide) (aq qb) rfl) ?p_7 rfl rfl rfl (by kernel_rfl) rfl ?h_7
   case' h_7 => skip
   case p_7 => refine ⟨fun ha => (ah ha (by kernel_rfl)).elim, ?_⟩ <;> intro ha <;> first | exact ⟨indexAddr (l := ic b) aa rfl rfl rfl rfl rfl rfl (by decide) (aq qb) rfl, fun h => nomatch h⟩ | exact (ah ha (by kernel_rfl)).elim
   refine' aD (ev aa rfl) ?p_8 rfl rfl rfl (by kernel_rfl) rfl ?h_8
   case' h_8 => skip
   case p_8 => refine ⟨fun ha => (ah ha (by kernel_rfl)).elim, ?_⟩ <;> intro ha <;> first | exact ⟨ev aa rfl, fun h => nomatch h⟩ | exact ⟨bG aa rfl rfl rfl rfl, fun h => nomatch h⟩ | exact ⟨bF aa rfl rfl rfl rfl rfl, fun h => nomatch h⟩ | exact (ah ha (by kernel_rfl)).elim
   refine' aD (lq (build aa rfl rfl rfl rfl) rfl) ?p_9 rfl rfl rfl (by kernel_rfl) rfl ?h_9
   case' h_9 => skip
   case p_9 => refine ⟨fun ha => (ah ha (by kernel_rfl)).elim, ?_⟩ <;> intro ha <;> first | exact ⟨lq (build aa rfl rfl rfl rfl) rfl, fun h => nomatch h⟩ | exact (ah ha (by kernel_rfl)).elim
   refine' aD (build aa rfl rfl rfl rfl) ?p_10 rfl rfl rfl (by kernel_rfl) rfl ?h_10
   case' h_10 => skip
   case p_10 => refine ⟨fun ha => (ah ha (by kernel_rfl)).elim, ?_⟩ <;> intro ha <;> first | exact ⟨build aa rfl rfl rfl rfl, fun h => nomatch h⟩ | exact (ah ha (by kernel_rfl)).elim
   refine' aD (bl aa rfl rfl rfl rfl rfl rfl rfl rfl rfl) ?p_11 rfl rfl rfl (by kernel_rfl) rfl ?h_11
   case' h_11 => skip
   case p_11 => refine ⟨fun ha => (ah ha (by kernel_rfl)).elim, ?_⟩ <;> intro ha <;> first | exact ⟨bl aa rfl rfl rfl rfl rfl rfl rfl rfl rfl, fun h => nomatch h⟩ | exact (ah ha (by kernel_rfl)).elim
   refine CD.nil ?_ rfl
   refine cr (fn := recC) (l := []) (a := (a, sZ x.at_ b 0)) aa rfl rfl rfl rfl rfl rfl rfl rfl rfl rfl (fun _ => rfl) (by decide) ?_
   refine pE rfl (WO.nil (kQ [1] rfl ?_ trivial ?_ trivial rfl))
   ·
    try rw [hF]
    repeat' first | exact trivial | refine ⟨rfl, ?_⟩
   try rw [hF]
   repeat' exact trivial
  have hw : x.word ≠ ey := by simpa [ey] using h14
  have qc := qc hw
  have hcd : x.l[2]?.getD 0 = c := by rw [qc]; rfl
  let e0 : Ev := if x.word = b8 then iY x.at_ b 0 else iY x.at_ 2 b
  have hF : out = [(a, e0), (c, gK x.at_ x.cpu)] := by rw [ho]; unfold ca; rw [if_neg hw, hab.1, hab.2, hcd]
  refine W.seq (W.region ?_)
  iterate 2 refine pE rfl ?_
  refine pu (indexAddr (l := ic b) aa rfl rfl rfl rfl rfl rfl (by decide) (aq qb) rfl) rfl ?_
  refine pE rfl (pu (lq (build aa rfl rfl rfl rfl) rfl) rfl ?_)
  refine bA aa rfl rfl rfl (aO aa rfl rfl rfl rfl rfl rfl rfl rfl (WO.nil (qs ?_)))
  iterate 2 refine W.seq ?_
  refine W.region ?_
  iterate 2 refine pE rfl ?_
  refine WO.nil (qs (au rfl (fun h33 => ?_) (fun h33 => ?_)))
  ·
   have hsw : x.word ≠ b8 := by
    have hbl : x.word = fA := by simpa [fA] using h33
    rw [hbl]; decide
   have he0 : e0 = iY x.at_ 2 b := if_neg hsw
   refine W.region ?_
   iterate 2 refine pE rfl ?_
   refine pu (indexAddr (l := ic b) aa rfl rfl rfl rfl rfl rfl (by decide) (aq qb) rfl) rfl ?_
   refine pE rfl (pu (lq (build aa rfl rfl rfl rfl) rfl) rfl ?_)
   refine aO aa rfl rfl rfl rfl rfl rfl rfl rfl (WO.nil (qs (W.seq (eC (d := 9) rfl rfl ?_))))
   refine W.eB aa [] [] [] [] 7 (by kernel_rfl) (by kernel_rfl) rfl rfl ?_
   refine' aD (ev aa rfl) ?p_12 rfl rfl rfl (by kernel_rfl) rfl ?h_12
   case' h_12 => skip
   case p_12 => refine ⟨fun ha => (ah ha (by kernel_rfl)).elim, ?_⟩ <;> intro ha <;> first | exact ⟨ev aa rfl, fun h => nomatch h⟩ | exact (ah ha (by kernel_rfl)).elim
   refine' aD (ev aa rfl) ?p_13 rfl rfl rfl (by kernel_rfl) rfl ?h_13
   case' h_13 => skip
   case p_13 => refine ⟨fun ha => (ah ha (by kernel_rfl)).elim, ?_⟩ <;> intro ha <;> first | exact ⟨ev aa rfl, fun h => nomatch h⟩ | exact (ah ha (by kernel_rfl)).elim
   refine' aD (indexAddr (l := ic a) aa rfl rfl rfl rfl rfl rfl (by decide) (aq qa) rfl) ?p_14 rfl rfl rfl (by kernel_rfl) rfl ?h_14
   case' h_14 => skip
   case p_14 => refine ⟨fun ha => (ah ha (by kernel_rfl)).elim, ?_⟩ <;> intro ha <;> first | exact ⟨indexAddr (l := ic a) aa rfl rfl rfl rfl rfl rfl (by decide) (aq qa) rfl, fun h => nomatch h⟩ | exact (ah ha (by kernel_rfl)).elim
   refine' aD (ev aa rfl) ?p_15 rfl rfl rfl (by kernel_rfl) rfl ?h_15
   case' h_15 => skip
   case p_15 => refine ⟨fun ha => (ah ha (by kernel_rfl)).elim, ?_⟩ <;> intro ha <;> first | exact ⟨ev aa rfl, fun h => nomatch h⟩ | exact ⟨bG aa rfl rfl rfl rfl, fun h => nomatch h⟩ | exact ⟨bF aa rfl rfl rfl rfl rfl, fun h => nomatch h⟩ | exact (ah ha (by kernel_rfl)).elim
   refine' aD (ev aa rfl) ?p_16 rfl rfl rfl (by kernel_rfl) rfl ?h_16
   case' h_16 => skip
   case p_16 => refine ⟨fun ha => (ah ha (by kernel_rfl)).elim, ?_⟩ <;> intro ha <;> first | exact ⟨ev aa rfl, fun h => nomatch h⟩ | exact ⟨bG aa rfl rfl rfl rfl, fun h => nomatch h⟩ | exact ⟨bF aa rfl rfl rfl rfl rfl, fun h => nomatch h⟩ | exact (ah ha (by kernel_rfl)).elim
   refine' aD (build aa rfl rfl rfl rfl) ?p_17 rfl rfl rfl (by kernel_rfl) rfl ?h_17
   case' h_17 => skip
   case p_17 => refine ⟨fun ha => (ah ha (by kernel_rfl)).elim, ?_⟩ <;> intro ha <;> first | exact ⟨build aa rfl rfl rfl rfl, fun h => nomatch h⟩ | exact (ah ha (by kernel_rfl)).elim
   refine' aD (bl aa rfl rfl rfl rfl rfl rfl rfl rfl rfl) ?p_18 rfl rfl rfl (by kernel_rfl) rfl ?h_18
   case' h_18 => skip
   case p_18 => refine ⟨fun ha => (ah ha (by kernel_rfl)).elim, ?_⟩ <;> intro ha <;> first | exact ⟨bl aa rfl rfl rfl rfl rfl rfl rfl rfl rfl, fun h => nomatch h⟩ | exact (ah ha (by kernel_rfl)).elim
   refine CD.nil ?_ rfl
   refine cr (fn := recC) (l := []) (a := (a, e0)) aa rfl rfl (by rw [he0]; rfl) rfl rfl rfl rfl rfl rfl rfl (fun _ => rfl) (by show 1 * 80 ≤ 140737488355328; decide) ?_
   refine pE rfl (WO.nil (qs (W.region ?_)))
   iterate 2 refine pE rfl ?_
   refine pu (indexAddr (l := ic c) aa rfl rfl rfl rfl rfl rfl (by decide) (aq qc) rfl) rfl ?_
   refine pE rfl ?_
   iterate 2 refine pE rfl ?_
   refine pu (lq (build aa rfl rfl rfl rfl) rfl) rfl ?_
   refine pu (build aa rfl rfl rfl rfl) rfl ?_
   refine pu (bl aa rfl rfl rfl rfl rfl rfl rfl rfl rfl) rfl ?_
   refine cr (fn := recC) (l := [(a, e0)]) (a := (c, gK x.at_ x.cpu)) aa rfl rfl rfl rfl rfl rfl rfl rfl rfl rfl (fun _ => rfl) (by show 2 * 80 ≤ 140737488355328; decide) ?_
   refine pE rfl (WO.nil (kQ [3] rfl ?_ trivial ?_ trivial rfl))
   ·
    try rw [hF]
    repeat' first | exact trivial | refine ⟨rfl, ?_⟩
   try rw [hF]
   repeat' exact trivial
  have hsw : x.word = b8 := by
   rcases hx with ⟨h, _⟩ | ⟨h, _⟩ | ⟨h, _⟩
   · exact absurd h hw
   · exact h
   exfalso; simp [h, fA] at h33
  have he0 : e0 = iY x.at_ b 0 := if_pos hsw
  refine W.skip (qs (W.seq (eC (d := 9) rfl rfl ?_)))
  refine W.eB aa [] [] [] [] 7 (by kernel_rfl) (by kernel_rfl) rfl rfl ?_
  refine' aD (ev aa rfl) ?p_19 rfl rfl rfl (by kernel_rfl) rfl ?h_19
  case' h_19 => skip
  case p_19 => refine ⟨fun ha => (ah ha (by kernel_rfl)).elim, ?_⟩ <;> intro ha <;> first | exact ⟨ev aa rfl, fun h => nomatch h⟩ | exact (ah ha (by kernel_rfl)).elim
  refine' aD (ev aa rfl) ?p_20 rfl rfl rfl (by kernel_rfl) rfl ?h_20
  case' h_20 => skip
  case p_20 => refine ⟨fun ha => (ah ha (by kernel_rfl)).elim, ?_⟩ <;> intro ha <;> first | exact ⟨ev aa rfl, fun h => nomatch h⟩ | exact (ah ha (by kernel_rfl)).elim
  refine' aD (indexAddr (l := ic a) aa rfl rfl rfl rfl rfl rfl (by decide) (aq qa) rfl) ?p_21 rfl rfl rfl (by kernel_rfl) rfl ?h_21
  case' h_21 => skip
  case p_21 => refine ⟨fun ha => (ah ha (by kernel_rfl)).elim, ?_⟩ <;> intro ha <;> first | exact ⟨indexAddr (l := ic a) aa rfl rfl rfl rfl rfl rfl (by decide) (aq qa) rfl, fun h => nomatch h⟩ | exact (ah ha (by kernel_rfl)).elim
  refine' aD (ev aa rfl) ?p_22 rfl rfl rfl (by kernel_rfl) rfl ?h_22
  case' h_22 => skip
  case p_22 => refine ⟨fun ha => (ah ha (by kernel_rfl)).elim, ?_⟩ <;> intro ha <;> first | exact ⟨ev aa rfl, fun h => nomatch h⟩ | exact ⟨bG aa rfl rfl rfl rfl, fun h => nomatch h⟩ | exact ⟨bF aa rfl rfl rfl rfl rfl, fun h => nomatch h⟩ | exact (ah ha (by kernel_rfl)).elim
  refine' aD (ev aa rfl) ?p_23 rfl rfl rfl (by kernel_rfl) rfl ?h_23
  case' h_23 => skip
  case p_23 => refine ⟨fun ha => (ah ha (by kernel_rfl)).elim, ?_⟩ <;> intro ha <;> first | exact ⟨ev aa rfl, fun h => nomatch h⟩ | exact ⟨bG aa rfl rfl rfl rfl, fun h => nomatch h⟩ | exact ⟨bF aa rfl rfl rfl rfl rfl, fun h => nomatch h⟩ | exact (ah ha (by kernel_rfl)).elim
  refine' aD (build aa rfl rfl rfl rfl) ?p_24 rfl rfl rfl (by kernel_rfl) rfl ?h_24
  case' h_24 => skip
  case p_24 => refine ⟨fun ha => (ah ha (by kernel_rfl)).elim, ?_⟩ <;> intro ha <;> first | exact ⟨build aa rfl rfl rfl rfl, fun h => nomatch h⟩ | exact (ah ha (by kernel_rfl)).elim
  refine' aD (bl aa rfl rfl rfl rfl rfl rfl rfl rfl rfl) ?p_25 rfl rfl rfl (by kernel_rfl) rfl ?h_25
  case' h_25 => skip
  case p_25 => refine ⟨fun ha => (ah ha (by kernel_rfl)).elim, ?_⟩ <;> intro ha <;> first | exact ⟨bl aa rfl rfl rfl rfl rfl rfl rfl rfl rfl, fun h => nomatch h⟩ | exact (ah ha (by kernel_rfl)).elim
  refine CD.nil ?_ rfl
  refine cr (fn := recC) (l := []) (a := (a, e0)) aa rfl rfl (by rw [he0]; rfl) rfl rfl rfl rfl rfl rfl rfl (fun _ => rfl) (by show 1 * 80 ≤ 140737488355328; decide) ?_
  refine pE rfl (WO.nil (qs (W.region ?_)))
  iterate 2 refine pE rfl ?_
  refine pu (indexAddr (l := ic c) aa rfl rfl rfl rfl rfl rfl (by decide) (aq qc) rfl) rfl ?_
  refine pE rfl ?_
  iterate 2 refine pE rfl ?_
  refine pu (lq (build aa rfl rfl rfl rfl) rfl) rfl ?_
  refine pu (build aa rfl rfl rfl rfl) rfl ?_
  refine pu (bl aa rfl rfl rfl rfl rfl rfl rfl rfl rfl) rfl ?_
  refine cr (fn := recC) (l := [(a, e0)]) (a := (c, gK x.at_ x.cpu)) aa rfl rfl rfl rfl rfl rfl rfl rfl rfl rfl (fun _ => rfl) (by show 2 * 80 ≤ 140737488355328; decide) ?_
  refine pE rfl (WO.nil (kQ [3] rfl ?_ trivial ?_ trivial rfl))
  ·
   try rw [hF]
   repeat' first | exact trivial | refine ⟨rfl, ?_⟩
  try rw [hF]
  repeat' exact trivial
 refine qs (W.seq (W.region (pE rfl (WO.nil (qs ?_)))))
 iterate 2 refine W.seq ?_
 refine W.region (pE rfl (WO.nil (qs (W.block (eC (d := 11) rfl rfl ?_)))))
 refine W.aW (ι := {x : Nat × List (Int × Ev) // match x with | (k, m) => k ≤ out.length ∧ m = bE (out.take k)})
  (fun x => match x.1 with | (k, m) => [(9, .own 0 (out.map recC)), (11, .own 1 (m.map recC)), (12, .d (.v (.int .i64 ((k : Nat) : Int))))]) []
  (fun x => match x.1 with | (k, m) => []) [] [0, 1] 2 (fun x => match x.1 with | (k, m) => out.length - k)
  [0, 1] ⟨(0, []), ?_⟩ rfl ?_ trivial ?_ trivial rfl ?_
 · exact ⟨Nat.zero_le _, rfl⟩
 · repeat' first | exact trivial | refine ⟨rfl, ?_⟩
 · repeat' exact trivial
 rintro ⟨⟨k, m⟩, hk, hM⟩
 show W _ _ _ _ _ ⟨[(9, .own 0 (out.map recC)), (11, .own 1 (m.map recC)), (12, .d (.v (.int .i64 ((k : Nat) : Int))))], [], [0, 1], 2⟩
 iterate 2 refine W.seq ?_
 refine W.region ?_
 iterate 4 refine pE rfl ?_
 refine WO.nil (qs (ba (l := out) (k := k) rfl (by simp [Ex.aJ, aE]) hk (fun p hx hd hlt => ?_) (fun he hd => ?_)))
 ·
  have hol : out.length ≤ maxLen := by simp only [maxLen]; omega
  have hml : m.length ≤ 2 := by rw [hM]; exact Nat.le_trans (List.length_filter_le _ _) (by simp; omega)
  have hst : bE (out.take (k + 1)) = m ++ (if p.1 ≠ 0 then [p] else []) := by
   rw [List.take_add_one, hx, pq, hM]
   congr 1
   unfold bE
   by_cases q : p.1 = 0 <;> simp [q]
  refine W.skip (qs (W.seq (W.block (W.seq (W.region ?_)))))
  iterate 2 refine pE rfl ?_
  refine pu (indexAddr aa rfl rfl rfl rfl rfl rfl (Int.natCast_nonneg _) (aq hx) rfl) rfl ?_
  refine pE rfl (pE rfl (pE rfl (WO.nil (qs (au rfl (fun h68 => ?_) (fun h68 => ?_))))))
  ·
   have hz : p.1 ≠ 0 := by simpa using h68
   rw [if_pos hz] at hst
   refine W.region ?_
   iterate 3 refine pE rfl ?_
   refine pu (indexAddr aa rfl rfl rfl rfl rfl rfl (Int.natCast_nonneg _) (aq hx) rfl) rfl ?_
   refine pE rfl (pu (bl aa rfl rfl rfl rfl rfl rfl rfl rfl rfl) rfl ?_)
   refine cr (fn := recC) (a := p) aa rfl rfl rfl rfl rfl rfl rfl rfl rfl rfl (fun _ => rfl) (by show (m.length + 1) * 80 ≤ _; omega) ?_
   refine pE rfl (WO.nil (bC (qs (W.region ?_))))
   iterate 3 refine pE rfl ?_
   refine WO.nil (W.bb [0, 2] ⟨(k + 1, m ++ [p]), ?_⟩ ?_ rfl ?_ trivial ?_ trivial rfl)
   · exact ⟨hlt, hst.symm⟩
   · dsimp only; omega
   · repeat' first | exact trivial | refine ⟨rfl, ?_⟩ | refine ⟨aG (by assumption) (by assumption), ?_⟩
   repeat' exact trivial
  have hz : ¬ p.1 ≠ 0 := by simpa using h68
  rw [if_neg hz, List.append_nil] at hst
  refine W.skip (bC (qs (W.region ?_)))
  iterate 3 refine pE rfl ?_
  refine WO.nil (W.bb [0, 1] ⟨(k + 1, m), ?_⟩ ?_ rfl ?_ trivial ?_ trivial rfl)
  · exact ⟨hlt, hst.symm⟩
  · dsimp only; omega
  · repeat' first | exact trivial | refine ⟨rfl, ?_⟩ | refine ⟨aG (by assumption) (by assumption), ?_⟩
  repeat' exact trivial
 have hMe : m = bE out := by rw [hM, List.take_of_length_le (by omega)]
 refine W.exit (aP (aS (aM (qs (W.seq (W.region ?_))))))
 iterate 2 refine pE rfl ?_
 refine WO.nil (qs (W.ret (QF.az trivial rfl ?_)))
 rw [hMe]; rfl
end Go.Proofs.YtoojafbicmdclaaGreatDoor
namespace Go.Proofs.YtoojafbicmdclaaGreatDoor
open Go.Ab Go.Tb
set_option maxRecDepth 10000
attribute [local irreducible] W WO Pu QS QB QL QF QV bU CH QE
theorem rv {id : Int} (h : 0 ≤ id ∧ id ≤ 1000000000000000) : (B #[116]).size + (br id).size ≤ 9223372036854775807 := by
 have h1 : (10 : Nat) ^ 20 = 100000000000000000000 := by decide
 have h2 := gJ (n := id) (by omega)
 have h3 : (B #[116]).size = 1 := rfl
 omega
theorem tx {l : List (Int × Ev)} {k : Nat} {x : Int × Ev} (hx : l[k]? = some x) : cJ ((l.take (k + 1)).map (·.1)) = if ((l.take k).any fun p => decide (p.1 = x.1)) = true then cJ ((l.take k).map (·.1)) else cJ ((l.take k).map (·.1)) ++ [x.1] := by
 rw [List.take_add_one, hx, List.map_append]
 show cJ ((l.take k).map (·.1) ++ [x.1]) = _
 rw [gO]
 have : x.1 ∈ cJ ((l.take k).map (·.1)) ↔ ((l.take k).any fun p => decide (p.1 = x.1)) = true := by
  rw [pF, List.any_eq_true, List.mem_map]
  constructor
  · rintro ⟨p, hp, e⟩; exact ⟨p, hp, by simpa using e⟩
  rintro ⟨p, hp, e⟩; exact ⟨p, hp, by simpa using e⟩
 by_cases q : x.1 ∈ cJ ((l.take k).map (·.1))
 · rw [if_pos q, if_pos (this.1 q)]
 rw [if_neg q, if_neg (fun e => q (this.2 e))]
theorem vT (l : List Int) : (cJ l).length ≤ l.length := by
 refine ll (p := fun l => (cJ l).length ≤ l.length) (Nat.le_refl _) (fun l a ih => ?_) l
 rw [gO]
 split <;> simp <;> omega
theorem vu (l : List (Int × Ev)) (hl : l.length ≤ 1000) (hids : ∀ p ∈ l, 0 ≤ p.1 ∧ p.1 ≤ 1000000000000000) : ax Tryz.prog 36 [.d (.sl (l.map recC))] (.ag (dD ((cJ (l.map (·.1))).map cS))) 0 := by
 have hlm : l.length ≤ maxLen := by simp only [maxLen]; omega
 refine ax.iy aa (n := 56) (rs := [.cell 2 27]) Tryz.func36 (by kernel_rfl) rfl Tryz.ntmps36 Tryz.results36 rfl fun C hC hG => ?_
 refine W.seq (W.region (bA aa rfl rfl rfl (WO.nil (qs (W.seq (W.region (pu (build aa rfl rfl rfl rfl) rfl ?_)))))))
 refine pu (bl aa rfl rfl rfl rfl rfl rfl rfl rfl rfl) rfl ?_
 refine pu (build aa rfl rfl rfl rfl) rfl ?_
 refine bA aa rfl rfl rfl (aO aa rfl rfl rfl rfl rfl rfl rfl rfl (WO.nil (qs ?_)))
 iterate 2 refine W.seq ?_
 refine W.region (pE rfl (WO.nil (qs (W.block (dy 1 0 rfl rfl rfl ?_)))))
 refine uv 1 2 rfl rfl rfl ?_
 refine W.aW (ι := {x : Nat × List bz // match x with | (k, ts) => k ≤ l.length ∧ ts = (cJ ((l.take k).map (·.1))).map cS})
  (fun x => match x.1 with | (k, ts) => [(2, .ptr 0 0), (3, .ptr 1 0), (4, .d (.v (.int .i64 ((k : Nat) : Int))))]) [(0, _)]
  (fun x => match x.1 with | (k, ts) => [(0, [.d (.v (.slice none 0 0)), .d (.v (.slice none 0 0)), .d (.v (.slice none 0 0))]), (1, [.own 2 (ts.map bz.c), .d (.sl (bM.map bk)), .d (.sl [])])]) [] [2] 3 (fun x => match x.1 with | (k, ts) => l.length - k)
  [0, 1, 2] ⟨(0, []), ?_⟩ rfl ?_ ⟨rfl, rfl, trivial⟩ ?_ trivial rfl ?_
 · exact ⟨Nat.zero_le _, rfl⟩
 · repeat' first | exact trivial | refine ⟨rfl, ?_⟩
 · repeat' first | exact trivial | refine ⟨rfl, ?_⟩
 rintro ⟨⟨k, ts⟩, hk, hts⟩
 show W _ _ _ _ _ ⟨[(2, .ptr 0 0), (3, .ptr 1 0), (4, .d (.v (.int .i64 ((k : Nat) : Int)))), (0, _)], [(0, [.d (.v (.slice none 0 0)), .d (.v (.slice none 0 0)), .d (.v (.slice none 0 0))]), (1, [.own 2 (ts.map bz.c), .d (.sl (bM.map bk)), .d (.sl [])])], [2], 3⟩
 iterate 2 refine W.seq ?_
 refine W.region ?_
 iterate 4 refine pE rfl ?_
 refine WO.nil (qs (ba (l := l) (k := k) rfl (by simp [Ex.aJ, aE]) hk (fun z hx hd hlt => ?_) (fun he hd => ?_)))
 ·
  have hid := hids z (List.mem_of_getElem? hx)
  have htl : ts.length ≤ 1000 := by rw [hts, List.length_map]; exact Nat.le_trans (vT _) (by simp; omega)
  have hst := tx hx
  refine W.skip (qs (W.seq (W.block (W.seq (W.region (pE rfl (WO.nil (qs ?_))))))))
  iterate 2 refine W.seq ?_
  refine W.region (pE rfl (WO.nil (qs (W.block ?_))))
  refine W.aW (ι := {x : Nat × Bool // match x with | (j, b) => j ≤ k ∧ b = ((l.take j).any fun p => decide (p.1 = z.1))})
   (fun x => match x.1 with | (j, b) => [(2, .ptr 0 0), (3, .ptr 1 0), (5, .d (.v (.bool b))), (6, .d (.v (.int .i64 ((j : Nat) : Int))))]) [(0, _), (4, _)]
   (fun x => match x.1 with | (j, b) => [(0, [.d (.v (.slice none 0 0)), .d (.v (.slice none 0 0)), .d (.v (.slice none 0 0))]), (1, [.own 2 (ts.map bz.c), .d (.sl (bM.map bk)), .d (.sl [])])]) [] [2] 3 (fun x => match x.1 with | (j, b) => k - j)
   [0, 1, 2] ⟨(0, false), ?_⟩ rfl ?_ ⟨rfl, rfl, rfl, rfl, trivial⟩ ?_ trivial rfl ?_
  · exact ⟨Nat.zero_le _, rfl⟩
  · repeat' first | exact trivial | refine ⟨rfl, ?_⟩
  · repeat' first | exact trivial | refine ⟨rfl, ?_⟩
  rintro ⟨⟨j, b⟩, hj, hb⟩
  show W _ _ _ _ _ ⟨[(2, .ptr 0 0), (3, .ptr 1 0), (5, .d (.v (.bool b))), (6, .d (.v (.int .i64 ((j : Nat) : Int)))), (0, _), (4, _)], [(0, [.d (.v (.slice none 0 0)), .d (.v (.slice none 0 0)), .d (.v (.slice none 0 0))]), (1, [.own 2 (ts.map bz.c), .d (.sl (bM.map bk)), .d (.sl [])])], [2], 3⟩
  iterate 2 refine W.seq ?_
  refine W.region ?_
  iterate 3 refine pE rfl ?_
  refine WO.nil (qs (au rfl (fun h18 => ?_) (fun h18 => ?_)))
  ·
   have hjk : j < k := by simp at h18; omega
   obtain ⟨y, hy⟩ : ∃ y, l[j]? = some y := ⟨l[j]'(by omega), by simp⟩
   have hbs : (bif b then true else decide (y.1 = z.1)) = ((l.take (j + 1)).any fun p => decide (p.1 = z.1)) := by
    rw [List.take_add_one, hy, List.any_append, ← hb]
    cases b <;> simp
   refine W.skip (qs (W.seq (W.block ?_)))
   apply ke aa; (case hb => rfl); (case hB => kernel_rfl)
   ·
    iterate 2 refine aC (ev aa rfl) rfl ?_
    apply jI; (case hj => rfl); (case hl => rfl)
    ·
     intro g22
     iterate 11 refine mI rfl rfl rfl rfl ?_
     iterate 2 refine aC (ev aa rfl) rfl ?_
     refine CH.nil ?_
     refine ay rfl rfl rfl
    intro g22
    refine bN rfl rfl (ev aa rfl) rfl ?_
    refine bN rfl rfl (ev aa rfl) rfl ?_
    refine bN rfl rfl (indexAddr (l := recC y) aa rfl rfl rfl rfl rfl rfl (Int.natCast_nonneg _) (aq hy) rfl) rfl ?_
    refine bN rfl rfl (ev aa rfl) rfl ?_
    refine bN rfl rfl (ev aa rfl) rfl ?_
    refine bN rfl rfl (ev aa rfl) rfl ?_
    refine bN rfl rfl (ev aa rfl) rfl ?_
    refine bN rfl rfl (indexAddr (l := recC z) aa rfl rfl rfl rfl rfl rfl (Int.natCast_nonneg _) (aq hx) rfl) rfl ?_
    refine bN rfl rfl (ev aa rfl) rfl ?_
    refine bN rfl rfl (ev aa rfl) rfl ?_
    refine bN rfl rfl (ev aa rfl) rfl ?_
    iterate 2 refine aC (ev aa rfl) rfl ?_
    refine CH.nil ?_
    refine ay rfl rfl rfl
   refine bC (qs (W.region (pE rfl (pu (cf (ev aa rfl) (y := ((j + 1 : Nat) : Int)) ((wrap64 (by omega)).trans (by omega))) rfl ?_))))
   refine pE rfl (WO.nil (W.bb [0, 1, 2] ⟨(j + 1, (bif b then true else decide (y.1 = z.1))), ?_⟩ ?_ rfl ?_ ⟨rfl, rfl, rfl, rfl, trivial⟩ ?_ trivial rfl))
   · exact ⟨hjk, hbs⟩
   · dsimp only; omega
   · repeat' first | exact trivial | refine ⟨rfl, ?_⟩
   repeat' first | exact trivial | refine ⟨rfl, ?_⟩
  have hjk : k = j := by simp at h18; omega
  subst hjk
  refine W.exit (aP (aS (aM (qs (W.seq (W.region ?_))))))
  iterate 2 refine pE rfl ?_
  refine WO.nil (qs (au rfl (fun h36 => ?_) (fun h36 => ?_)))
  ·
   have hbf : b = false := by simpa using h36
   rw [← hb, hbf, if_neg (by decide)] at hst
   refine W.eB aa [] [] [] [] 16 (by kernel_rfl) (by kernel_rfl) rfl rfl ?_
   refine' aD (ev aa rfl) ?p_1 rfl rfl rfl (by kernel_rfl) rfl ?h_1
   case' h_1 => skip
   case p_1 => refine ⟨fun ha => (ah ha (by kernel_rfl)).elim, ?_⟩ <;> intro ha <;> first | exact ⟨ev aa rfl, fun h => nomatch h⟩ | exact (ah ha (by kernel_rfl)).elim
   refine' aD (ev aa rfl) ?p_2 rfl rfl rfl (by kernel_rfl) rfl ?h_2
   case' h_2 => skip
   case p_2 => refine ⟨fun ha => (ah ha (by kernel_rfl)).elim, ?_⟩ <;> intro ha <;> first | exact ⟨ev aa rfl, fun h => nomatch h⟩ | exact ⟨bG aa rfl rfl rfl rfl, fun h => nomatch h⟩ | exact ⟨bF aa rfl rfl rfl rfl rfl, fun h => nomatch h⟩ | exact (ah ha (by kernel_rfl)).elim
   refine' aD (ev aa rfl) ?p_3 rfl rfl rfl (by kernel_rfl) rfl ?h_3
   case' h_3 => skip
   case p_3 => refine ⟨fun ha => (ah ha (by kernel_rfl)).elim, ?_⟩ <;> intro ha <;> first | exact ⟨ev aa rfl, fun h => nomatch h⟩ | exact (ah ha (by kernel_rfl)).elim
   refine' aD (ev aa rfl) ?p_4 rfl rfl rfl (by kernel_rfl) rfl ?h_4
   case' h_4 => skip
   case p_4 => refine ⟨fun ha => (ah ha (by kernel_rfl)).elim, ?_⟩ <;> intro ha <;> first | exact ⟨ev aa rfl, fun h => nomatch h⟩ | exact (ah ha (by kernel_rfl)).elim
   refine' aD (indexAddr (l := recC z) aa rfl rfl rfl rfl rfl rfl (Int.natCast_nonneg _) (aq hx) rfl) ?p_5 rfl rfl rfl (by kernel_rfl) rfl ?h_5
   case' h_5 => skip
   case p_5 => refine ⟨fun ha => (ah ha (by kernel_rfl)).elim, ?_⟩ <;> intro ha <;> first | exact ⟨indexAddr (l := recC z) aa rfl rfl rfl rfl rfl rfl (Int.natCast_nonneg _) (aq hx) rfl, fun h => nomatch h⟩ | exact (ah ha (by kernel_rfl)).elim
   refine' aD (ev aa rfl) ?p_6 rfl rfl rfl (by kernel_rfl) rfl ?h_6
   case' h_6 => skip
   case p_6 => refine ⟨fun ha => (ah ha (by kernel_rfl)).elim, ?_⟩ <;> intro ha <;> first | exact ⟨ev aa rfl, fun h => nomatch h⟩ | exact (ah ha (by kernel_rfl)).elim
   refine' aD (ev aa rfl) ?p_7 rfl rfl rfl (by kernel_rfl) rfl ?h_7
   case' h_7 => skip
   case p_7 => refine ⟨fun ha => (ah ha (by kernel_rfl)).elim, ?_⟩ <;> intro ha <;> first | exact ⟨ev aa rfl, fun h => nomatch h⟩ | exact ⟨bG aa rfl rfl rfl rfl, fun h => nomatch h⟩ | exact ⟨bF aa rfl rfl rfl rfl rfl, fun h => nomatch h⟩ | exact (ah ha (by kernel_rfl)).elim
   refine' aD (ev aa rfl) ?p_8 rfl rfl rfl (by kernel_rfl) rfl ?h_8
   case' h_8 => skip
   case p_8 => refine ⟨fun ha => (ah ha (by kernel_rfl)).elim, ?_⟩ <;> intro ha <;> first | exact ⟨ev aa rfl, fun h => nomatch h⟩ | exact (ah ha (by kernel_rfl)).elim
   refine' aD (ev aa rfl) ?p_9 rfl rfl rfl (by kernel_rfl) rfl ?h_9
   case' h_9 => skip
   case p_9 => refine ⟨fun ha => (ah ha (by kernel_rfl)).elim, ?_⟩ <;> intro ha <;> first | exact ⟨ev aa rfl, fun h => nomatch h⟩ | exact (ah ha (by kernel_rfl)).elim
   refine' aD (indexAddr (l := recC z) aa rfl rfl rfl rfl rfl rfl (Int.natCast_nonneg _) (aq hx) rfl) ?p_10 rfl rfl rfl (by kernel_rfl) rfl ?h_10
   case' h_10 => skip
   case p_10 => refine ⟨fun ha => (ah ha (by kernel_rfl)).elim, ?_⟩ <;> intro ha <;> first | exact ⟨indexAddr (l := recC z) aa rfl rfl rfl rfl rfl rfl (Int.natCast_nonneg _) (aq hx) rfl, fun h => nomatch h⟩ | exact (ah ha (by kernel_rfl)).elim
   refine' aD (ev aa rfl) ?p_11 rfl rfl rfl (by kernel_rfl) rfl ?h_11
   case' h_11 => skip
   case p_11 => refine ⟨fun ha => (ah ha (by kernel_rfl)).elim, ?_⟩ <;> intro ha <;> first | exact ⟨ev aa rfl, fun h => nomatch h⟩ | exact (ah ha (by kernel_rfl)).elim
   refine' aD (ev aa rfl) ?p_12 rfl rfl rfl (by kernel_rfl) rfl ?h_12
   case' h_12 => skip
   case p_12 => refine ⟨fun ha => (ah ha (by kernel_rfl)).elim, ?_⟩ <;> intro ha <;> first | exact ⟨ev aa rfl, fun h => nomatch h⟩ | exact ⟨bG aa rfl rfl rfl rfl, fun h => nomatch h⟩ | exact ⟨bF aa rfl rfl rfl rfl rfl, fun h => nomatch h⟩ | exact (ah ha (by kernel_rfl)).elim
   refine' aD (aw rfl rfl rfl (nj _ z.1 (Nat.lt_succ_self _) hid.1 (by omega)) rfl) ?p_13 rfl rfl rfl (by kernel_rfl) rfl ?h_13
   case' h_13 => skip
   case p_13 => refine ⟨fun ha => (ah ha (by kernel_rfl)).elim, ?_⟩ <;> intro ha <;> first | exact ⟨aw rfl rfl rfl (nj _ z.1 (Nat.lt_succ_self _) hid.1 (by omega)) rfl, fun h => nomatch h⟩ | exact (ah ha (by kernel_rfl)).elim
   refine' aD (ky (p := B #[116]) (q := br z.1) rfl rfl (rv hid)) ?p_14 rfl rfl rfl (by kernel_rfl) rfl ?h_14
   case' h_14 => skip
   case p_14 => refine ⟨fun ha => (ah ha (by kernel_rfl)).elim, ?_⟩ <;> intro ha <;> first | exact ⟨ky (p := B #[116]) (q := br z.1) rfl rfl (rv hid), fun h => nomatch h⟩ | exact (ah ha (by kernel_rfl)).elim
   refine' aD (build aa rfl rfl rfl rfl) ?p_15 rfl rfl rfl (by kernel_rfl) rfl ?h_15
   case' h_15 => skip
   case p_15 => refine ⟨fun ha => (ah ha (by kernel_rfl)).elim, ?_⟩ <;> intro ha <;> first | exact ⟨build aa rfl rfl rfl rfl, fun h => nomatch h⟩ | exact (ah ha (by kernel_rfl)).elim
   refine' aD (bl aa rfl rfl rfl rfl rfl rfl rfl rfl rfl) ?p_16 rfl rfl rfl (by kernel_rfl) rfl ?h_16
   case' h_16 => skip
   case p_16 => refine ⟨fun ha => (ah ha (by kernel_rfl)).elim, ?_⟩ <;> intro ha <;> first | exact ⟨bl aa rfl rfl rfl rfl rfl rfl rfl rfl rfl, fun h => nomatch h⟩ | exact (ah ha (by kernel_rfl)).elim
   refine CD.nil ?_ rfl
   refine cr (fn := bz.c) (a := cS z.1) aa rfl rfl rfl rfl rfl rfl rfl rfl rfl rfl (fun _ => rfl) (by show (ts.length + 1) * 32 ≤ _; omega) ?_
   refine pE rfl (aO aa rfl rfl rfl rfl rfl rfl rfl rfl (WO.nil (bC (qs (W.region ?_)))))
   iterate 3 refine pE rfl ?_
   refine WO.nil (W.bb [0, 1, 3] ⟨(k + 1, ts ++ [cS z.1]), ?_⟩ ?_ rfl ?_ ⟨rfl, rfl, trivial⟩ ?_ trivial rfl)
   · exact ⟨hlt, by rw [hst, List.map_append, hts]; rfl⟩
   · dsimp only; omega
   · repeat' first | exact trivial | refine ⟨rfl, ?_⟩ | refine ⟨aG (by assumption) (by assumption), ?_⟩
   repeat' first | exact trivial | refine ⟨rfl, ?_⟩
  have hbt : b = true := by simpa using h36
  rw [← hb, hbt, if_pos rfl] at hst
  refine W.skip (bC (qs (W.region ?_)))
  iterate 3 refine pE rfl ?_
  refine WO.nil (W.bb [0, 1, 2] ⟨(k + 1, ts), ?_⟩ ?_ rfl ?_ ⟨rfl, rfl, trivial⟩ ?_ trivial rfl)
  · exact ⟨hlt, by rw [hst, hts]⟩
  · dsimp only; omega
  · repeat' first | exact trivial | refine ⟨rfl, ?_⟩ | refine ⟨aG (by assumption) (by assumption), ?_⟩
  repeat' first | exact trivial | refine ⟨rfl, ?_⟩
 have hte : ts = (cJ (l.map (·.1))).map cS := by rw [hts, List.take_of_length_le (by omega)]
 subst hte
 refine W.exit (aP (aS (aM (qs (W.seq (W.region (pE rfl (aO aa rfl rfl rfl rfl rfl rfl rfl rfl (WO.nil (qs (W.ret (QV.az aa trivial rfl ?_))))))))))))
 rfl
theorem qz (th : Int) (l : List (Int × Ev)) (hl : l.length ≤ 1000) : ax Tryz.prog 37 [.d (.v (.int .i64 th)), .d (.sl (l.map recC))] (.d (.sl ((tX th (dZ l th)).map aK.c))) 0 := by
 have hlm : l.length ≤ maxLen := by simp only [maxLen]; omega
 refine ax.aV (n := 53) (ts := [4]) Tryz.func37 (by kernel_rfl) rfl Tryz.ntmps37 Tryz.results37 rfl rfl fun C hC hG => ?_
 refine W.seq (W.region (pE rfl (WO.nil (qs (W.seq (W.region (pE rfl (WO.nil (qs (W.seq (W.region (pE rfl (WO.nil (qs ?_))))))))))))))
 iterate 2 refine W.seq ?_
 refine W.region (pE rfl (WO.nil (qs (W.block (eC (d := 4) rfl rfl ?_)))))
 refine W.aW (ι := {x : (Nat) ⊕ (Nat × List Ev × Nat × Nat) // match x with | .inl (k) => k ≤ l.length ∧ dZ (l.take k) th = [] | .inr (k, E, cap, kk) => k ≤ l.length ∧ dZ (l.take k) th = E ∧ E ≠ []})
  (fun x => match x.1 with | .inl (k) => [(4, .own 1 []), (5, .d (.v (.slice none 0 0))), (6, .d (.v (.int .i64 ((0 : Nat) : Int)))), (7, .d (.v (.int .i64 ((k : Nat) : Int))))] | .inr (k, E, cap, kk) => [(5, .sb 0 1 cap), (6, .d (.v (.int .i64 ((E.length : Nat) : Int)))), (7, .d (.v (.int .i64 ((k : Nat) : Int))))]) [(0, _), (1, _)]
  (fun x => match x.1 with | .inl (k) => [] | .inr (k, E, cap, kk) => [(0, mh th 1 E kk)]) [] [1] 2 (fun x => match x.1 with | .inl (k) => l.length - k | .inr (k, E, cap, kk) => l.length - k)
  [9, 0] ⟨.inl 0, ?_⟩ rfl ?_ ⟨rfl, rfl, rfl, rfl, trivial⟩ ?_ trivial rfl ?_
 · exact ⟨Nat.zero_le _, rfl⟩
 · repeat' first | exact trivial | refine ⟨rfl, ?_⟩
 · repeat' exact trivial
 rintro ⟨⟨k⟩ | ⟨k, E, cap, kk⟩, hinv⟩
 ·
  obtain ⟨hk, hE⟩ := hinv
  show W _ _ _ _ _ ⟨[(4, .own 1 []), (5, .d (.v (.slice none 0 0))), (6, .d (.v (.int .i64 ((0 : Nat) : Int)))), (7, .d (.v (.int .i64 ((k : Nat) : Int)))), (0, _), (1, _)], [], [1], 2⟩
  iterate 2 refine W.seq ?_
  refine W.region ?_
  iterate 4 refine pE rfl ?_
  refine WO.nil (qs (ba (l := l) (k := k) rfl (by simp [Ex.aJ, aE]) hk (fun z hx hd hlt => ?_) (fun he hd => ?_)))
  ·
   have hst : dZ (l.take (k + 1)) th = if th = z.1 then [z.2] else [] := by rw [List.take_add_one, hx, Option.toList_some, ir, hE]; rfl
   refine W.skip (qs (W.seq (W.block ?_)))
   iterate 2 refine W.seq ?_
   refine W.region ?_
   iterate 2 refine pE rfl ?_
   refine pu (indexAddr (l := recC z) aa rfl rfl rfl rfl rfl rfl (Int.natCast_nonneg _) (aq hx) rfl) rfl ?_
   refine pE rfl (pE rfl ?_)
   iterate 2 refine pE rfl ?_
   refine WO.nil (qs (au rfl (fun h21 => ?_) (fun h21 => ?_)))
   ·
    have hz : ¬ th = z.1 := by simp at h21; omega
    rw [if_neg hz] at hst
    refine W.exit (aP (aM (qs (W.region ?_))))
    iterate 3 refine pE rfl ?_
    refine WO.nil (W.bb [9, 1] ⟨.inl (k + 1), ?_⟩ ?_ rfl ?_ ⟨rfl, rfl, rfl, rfl, trivial⟩ ?_ trivial rfl)
    · exact ⟨hlt, hst⟩
    · dsimp only; omega
    · repeat' first | exact trivial | refine ⟨rfl, ?_⟩ | refine ⟨aG (by assumption) (by assumption), ?_⟩
    exact trivial
   have hz : th = z.1 := by simp at h21; omega
   rw [if_pos hz] at hst
   refine W.skip (qs ?_)
   iterate 2 refine W.seq ?_
   refine W.region (pE rfl (pu (cf (v8 (q := 1000) rfl rfl (by decide) (by decide)) (y := 0) rfl) rfl ?_))
   refine pE rfl (WO.nil (qs (au rfl (fun h24 => ?_) (fun h24 => ?_))))
   ·
    refine W.sO (d := 5) rfl rfl ?_
    refine W.region ?_
    iterate 3 refine pE rfl ?_
    refine pu (build aa rfl rfl rfl rfl) rfl ?_
    refine pu (bl aa rfl rfl rfl rfl rfl rfl rfl rfl rfl) rfl ?_
    refine l4 (es := []) aa rfl rfl rfl rfl rfl rfl rfl rfl rfl rfl rfl (fun x hx => by obtain rfl := List.mem_singleton.1 hx; rfl) (by show 1 * 48 ≤ 140737488355328; decide) rfl ?_
    refine pE rfl (WO.nil (qs (W.seq (yt 5 rfl rfl rfl (by show 0 < 1; decide) rfl (fun cap kk => ?_)))))
    refine dy 4 3 rfl rfl rfl ?_
    refine W.region (pE rfl (pu (sy aa rfl rfl rfl) rfl ?_))
    refine pu (cf (ev aa rfl) (y := 0) (by rfl)) rfl ?_
    refine pE rfl (WO.nil (qs (W.seq ?_)))
    apply W.ij aa 14 13; (case hB => kernel_rfl); (case h1 => rfl); (case h2 => rfl)
    refine' aX ?p1_1 (ev aa rfl) rfl rfl rfl rfl rfl ?h_1
    case' h_1 => skip
    refine' aX ?p1_2 (ev aa rfl) rfl rfl rfl rfl rfl ?h_2
    case' h_2 => skip
    refine' aX ?p1_3 (ev aa rfl) rfl rfl rfl rfl rfl ?h_3
    case' h_3 => skip
    refine' aX ?p1_4 (ev aa rfl) rfl rfl rfl rfl rfl ?h_4
    case' h_4 => skip
    refine' aX ?p1_5 (dz aa rfl rfl rfl rfl rfl (by decide) Nat.zero_lt_one rfl) rfl rfl rfl rfl rfl ?h_5
    case' h_5 => skip
    refine' aX ?p1_6 (ev aa rfl) rfl rfl rfl rfl rfl ?h_6
    case' h_6 => skip
    refine' fh (ev aa rfl) rfl rfl rfl rfl rfl ?h_7
    case' h_7 => skip
    refine' aX ?p1_8 (ev aa rfl) rfl rfl rfl rfl rfl ?h_8
    case' h_8 => skip
    refine' aX ?p1_9 (ev aa rfl) rfl rfl rfl rfl rfl ?h_9
    case' h_9 => skip
    refine' aX ?p1_10 (indexAddr (l := recC z) aa rfl rfl rfl rfl rfl rfl (Int.natCast_nonneg _) (aq hx) rfl) rfl rfl rfl rfl rfl ?h_10
    case' h_10 => skip
    refine' aX ?p1_11 (ev aa rfl) rfl rfl rfl rfl rfl ?h_11
    case' h_11 => skip
    refine' aX ?p1_12 (ev aa rfl) rfl rfl rfl rfl rfl ?h_12
    case' h_12 => skip
    refine' fh (bl aa rfl rfl rfl rfl rfl rfl rfl rfl rfl) rfl rfl rfl rfl rfl ?h_13
    case' h_13 => skip
    refine' qR (fun g => ?e_14) rfl rfl rfl ?h_14
    case e_14 =>
     refine cr (fn := Ev.c) (l := []) (a := z.2) aa rfl rfl rfl rfl rfl rfl rfl rfl rfl rfl (fun _ => rfl) (by show 1 * 72 ≤ 140737488355328; decide) ?_
     refine WO.nil ?_
     exact ⟨rfl, rfl⟩
    case' h_14 => skip
    case p1_1 => exact (ev aa rfl)
    case p1_2 => exact (ev aa rfl)
    case p1_3 => exact (ev aa rfl)
    case p1_4 => exact (ev aa rfl)
    case p1_5 => exact (dz aa rfl rfl rfl rfl rfl (by decide) Nat.zero_lt_one rfl)
    case p1_6 => exact (ev aa rfl)
    case p1_8 => exact (ev aa rfl)
    case p1_9 => exact (ev aa rfl)
    case p1_10 => exact (indexAddr (l := recC z) aa rfl rfl rfl rfl rfl rfl (Int.natCast_nonneg _) (aq hx) rfl)
    case p1_11 => exact (ev aa rfl)
    case p1_12 => exact (ev aa rfl)
    refine CC.nil ?_
    refine pu (dz aa rfl rfl rfl rfl rfl (by decide) Nat.zero_lt_one rfl) rfl ?_
    refine pE rfl (aO aa rfl rfl rfl rfl rfl rfl rfl rfl (WO.nil (qs (W.region (pE rfl (pu (cf (ev aa rfl) (y := (([z.2].length : Nat) : Int)) (by rfl)) rfl ?_))))))
    refine pE rfl (WO.nil (bC (qs (W.region ?_))))
    iterate 3 refine pE rfl ?_
    refine WO.nil (W.bb [4, 6] ⟨.inr (k + 1, [z.2], cap, kk), ?_⟩ ?_ rfl ?_ ⟨rfl, rfl, rfl, rfl, trivial⟩ ?_ trivial rfl)
    · exact ⟨hlt, hst, by simp⟩
    · dsimp only; omega
    · repeat' first | exact trivial | refine ⟨rfl, ?_⟩ | refine ⟨aG (by assumption) (by assumption), ?_⟩
    exact jC rfl rfl rfl rfl
   exfalso; exact absurd h24 (by decide)
  have hEe : tX th (dZ l th) = [] := by rw [show dZ l th = [] by rw [← hE, List.take_of_length_le (by omega)]]; rfl
  rw [hEe]
  refine W.exit (aP (aS (aM (qs (W.seq (W.region ?_))))))
  iterate 2 refine pE rfl ?_
  refine WO.nil (qs ?_)
  try refine ie (t := 4) rfl ?_
  refine W.ret (QF.az trivial rfl ?_)
  rfl
 obtain ⟨hk, hE, hne⟩ := hinv
 show W _ _ _ _ _ ⟨[(5, .sb 0 1 cap), (6, .d (.v (.int .i64 ((E.length : Nat) : Int)))), (7, .d (.v (.int .i64 ((k : Nat) : Int)))), (0, _), (1, _)], [(0, mh th 1 E kk)], [1], 2⟩
 iterate 2 refine W.seq ?_
 refine W.region ?_
 iterate 4 refine pE rfl ?_
 refine WO.nil (qs (ba (l := l) (k := k) rfl (by simp [Ex.aJ, aE]) hk (fun z hx hd hlt => ?_) (fun he hd => ?_)))
 ·
  have hel : E.length ≤ k := by rw [← hE]; unfold dZ; rw [List.length_map]; exact Nat.le_trans (List.length_filter_le _ _) (by simp; omega)
  have hst : dZ (l.take (k + 1)) th = if th = z.1 then E ++ [z.2] else E := by rw [List.take_add_one, hx, Option.toList_some, ir, hE]
  refine W.skip (qs (W.seq (W.block ?_)))
  iterate 2 refine W.seq ?_
  refine W.region ?_
  iterate 2 refine pE rfl ?_
  refine pu (indexAddr (l := recC z) aa rfl rfl rfl rfl rfl rfl (Int.natCast_nonneg _) (aq hx) rfl) rfl ?_
  refine pE rfl (pE rfl ?_)
  iterate 2 refine pE rfl ?_
  refine WO.nil (qs (au rfl (fun h21 => ?_) (fun h21 => ?_)))
  ·
   have hz : ¬ th = z.1 := by simp at h21; omega
   rw [if_neg hz] at hst
   refine W.exit (aP (aM (qs (W.region ?_))))
   iterate 3 refine pE rfl ?_
   refine WO.nil (W.bb [0, 1] ⟨.inr (k + 1, E, cap, kk), ?_⟩ ?_ rfl ?_ ⟨rfl, rfl, rfl, rfl, trivial⟩ ?_ trivial rfl)
   · exact ⟨hlt, hst, hne⟩
   · dsimp only; omega
   · repeat' first | exact trivial | refine ⟨rfl, ?_⟩ | refine ⟨aG (by assumption) (by assumption), ?_⟩
   exact jC rfl rfl rfl rfl
  have hz : th = z.1 := by simp at h21; omega
  rw [if_pos hz] at hst
  refine W.skip (qs ?_)
  iterate 2 refine W.seq ?_
  refine W.region (pE rfl (pu (cf (v8 (q := 1000) rfl rfl (by decide) (by rw [Int.tmod_eq_of_lt (by omega) (by omega)]; simp [bK, IntKind.min, IntKind.max, IntKind.signed, IntKind.bits]; omega)) (y := ((E.length : Nat) : Int)) (Int.tmod_eq_of_lt (by omega) (by omega))) rfl ?_))
  refine pE rfl (WO.nil (qs (au rfl (fun h24 => ?_) (fun h24 => ?_))))
  ·
   exfalso
   have := of_decide_eq_true h24
   exact hne (List.eq_nil_of_length_eq_zero (by omega))
  refine W.skip (qs (W.seq (W.region (pE rfl (pu (sy aa rfl rfl rfl) rfl ?_)))))
  refine pu (cf (ev aa rfl) (y := 0) (by rfl)) rfl ?_
  refine pE rfl (WO.nil (qs (W.seq ?_)))
  apply W.ij aa 14 13; (case hB => kernel_rfl); (case h1 => rfl); (case h2 => rfl)
  refine' aX ?p1_15 (ev aa rfl) rfl rfl rfl rfl rfl ?h_15
  case' h_15 => skip
  refine' aX ?p1_16 (ev aa rfl) rfl rfl rfl rfl rfl ?h_16
  case' h_16 => skip
  refine' aX ?p1_17 (ev aa rfl) rfl rfl rfl rfl rfl ?h_17
  case' h_17 => skip
  refine' aX ?p1_18 (ev aa rfl) rfl rfl rfl rfl rfl ?h_18
  case' h_18 => skip
  refine' aX ?p1_19 (dz aa rfl rfl rfl rfl rfl (by decide) Nat.zero_lt_one rfl) rfl rfl rfl rfl rfl ?h_19
  case' h_19 => skip
  refine' aX ?p1_20 (ev aa rfl) rfl rfl rfl rfl rfl ?h_20
  case' h_20 => skip
  refine' fh (ev aa rfl) rfl rfl rfl rfl rfl ?h_21
  case' h_21 => skip
  refine' aX ?p1_22 (ev aa rfl) rfl rfl rfl rfl rfl ?h_22
  case' h_22 => skip
  refine' aX ?p1_23 (ev aa rfl) rfl rfl rfl rfl rfl ?h_23
  case' h_23 => skip
  refine' aX ?p1_24 (indexAddr (l := recC z) aa rfl rfl rfl rfl rfl rfl (Int.natCast_nonneg _) (aq hx) rfl) rfl rfl rfl rfl rfl ?h_24
  case' h_24 => skip
  refine' aX ?p1_25 (ev aa rfl) rfl rfl rfl rfl rfl ?h_25
  case' h_25 => skip
  refine' aX ?p1_26 (ev aa rfl) rfl rfl rfl rfl rfl ?h_26
  case' h_26 => skip
  refine' fh (bl aa rfl rfl rfl rfl rfl rfl rfl rfl rfl) rfl rfl rfl rfl rfl ?h_27
  case' h_27 => skip
  refine' qR (fun g => ?e_28) rfl rfl rfl ?h_28
  case e_28 =>
   refine cr (fn := Ev.c) (l := E) (a := z.2) aa rfl rfl rfl rfl rfl rfl rfl rfl rfl rfl (fun _ => rfl) (by show (E.length + 1) * 72 ≤ _; omega) ?_
   refine WO.nil ?_
   exact ⟨rfl, rfl⟩
  case' h_28 => skip
  case p1_15 => exact (ev aa rfl)
  case p1_16 => exact (ev aa rfl)
  case p1_17 => exact (ev aa rfl)
  case p1_18 => exact (ev aa rfl)
  case p1_19 => exact (dz aa rfl rfl rfl rfl rfl (by decide) Nat.zero_lt_one rfl)
  case p1_20 => exact (ev aa rfl)
  case p1_22 => exact (ev aa rfl)
  case p1_23 => exact (ev aa rfl)
  case p1_24 => exact (indexAddr (l := recC z) aa rfl rfl rfl rfl rfl rfl (Int.natCast_nonneg _) (aq hx) rfl)
  case p1_25 => exact (ev aa rfl)
  case p1_26 => exact (ev aa rfl)
  refine CC.nil ?_
  refine pu (dz aa rfl rfl rfl rfl rfl (by decide) Nat.zero_lt_one rfl) rfl ?_
  refine pE rfl (aO aa rfl rfl rfl rfl rfl rfl rfl rfl (WO.nil (qs (W.region (pE rfl (pu (cf (ev aa rfl) (y := (((E ++ [z.2]).length : Nat) : Int)) (by rw [List.length_append, List.length_singleton]; exact (wrap64 (by omega)).trans (by omega))) rfl ?_))))))
  refine pE rfl (WO.nil (bC (qs (W.region ?_))))
  iterate 3 refine pE rfl ?_
  refine WO.nil (W.bb [0, 2] ⟨.inr (k + 1, E ++ [z.2], cap, kk), ?_⟩ ?_ rfl ?_ ⟨rfl, rfl, rfl, rfl, trivial⟩ ?_ trivial rfl)
  · exact ⟨hlt, hst, by simp⟩
  · dsimp only; omega
  · repeat' first | exact trivial | refine ⟨rfl, ?_⟩ | refine ⟨aG (by assumption) (by assumption), ?_⟩
  exact jC rfl rfl rfl rfl
 have hEe : tX th (dZ l th) = [⟨th, 0, 0, E⟩] := by rw [show dZ l th = E by rw [← hE, List.take_of_length_le (by omega)]]; exact rb hne
 rw [hEe]
 refine rz 0 3 rfl rfl rfl ?_
 refine qp 5 (es := [aK.c ⟨th, 0, 0, E⟩]) (k := kk) (sz := 4) rfl rfl rfl rfl (fun x hx => by obtain rfl := List.mem_singleton.1 hx; rfl) rfl rfl ?_
 refine W.exit (aP (aS (aM (qs (W.seq (W.region ?_))))))
 iterate 2 refine pE rfl ?_
 refine WO.nil (qs ?_)
 try refine ie (t := 4) rfl ?_
 refine W.ret (QF.az trivial rfl ?_)
 rfl
end Go.Proofs.YtoojafbicmdclaaGreatDoor
namespace Go.Proofs.YtoojafbicmdclaaGreatDoor
open Go.Ab Go.Tb
set_option maxRecDepth 10000
attribute [local irreducible] W WO Pu QS QB QL QF QV bU CH QE
theorem yC (ts : List bz) (ps : List aK) (ok : rh ts) (okp : wH ts ps) (hpl : ps.length ≤ 1000) : ax Tryz.prog 38 [.ag (dD ts), .d (.sl (ps.map aK.c))] (.tup [.ag (dK ts ps).1.c, .d (ci (dK ts ps).2)]) 0 := by
 have hn : (ps.map aK.thread).Nodup := okp.1 ▸ ok.2
 have hpm : ps.length ≤ maxLen := by simp only [maxLen]; omega
 have htl : ts.length = ps.length := by have := congrArg List.length okp.1; simpa using this.symm
 refine ax.iy aa (n := 76) (rs := [.cell 4 30, .tmp 5]) Tryz.func38 (by kernel_rfl) rfl Tryz.ntmps38 Tryz.results38 rfl fun C hC hG => ?_
 refine W.seq (W.region (cg rfl rfl rfl (bA aa rfl rfl rfl (pE rfl (WO.nil (qs (W.seq (W.region (pE rfl (pu (aw rfl rfl rfl ((tU _ (by assumption))) rfl) rfl ?_))))))))))
 refine pE rfl (WO.nil (qs ?_))
 iterate 2 refine W.seq ?_
 refine W.region ?_
 iterate 2 refine pE rfl ?_
 refine WO.nil (qs (au rfl (fun h13 => ?_) (fun h13 => ?_)))
 ·
  have hg : dK ts ps = (eQ, cR ts) := by unfold dK; rw [if_pos (by simpa using h13)]
  refine W.seq (W.region (pu (build aa rfl rfl rfl rfl) rfl ?_))
  refine jQ 14 rfl rfl rfl ?_
  refine pE rfl (aO aa rfl rfl rfl rfl rfl rfl rfl rfl (pE rfl (WO.nil (qs (W.ret (aB (QV.az aa trivial rfl ?_)))))))
  rw [hg]; rfl
 have h0 : cR ts = 0 := by simpa using h13
 refine W.skip (qs ?_)
 iterate 2 refine W.seq ?_
 refine W.region (pE rfl (WO.nil (qs (W.block ?_))))
 refine W.aW (ι := {x : Nat // match x with | k => k ≤ ps.length ∧ cX (ps.drop k) = cX ps})
  (fun x => match x.1 with | k => [(2, .ptr 0 0), (4, .ptr 1 0), (7, .d (.v (.int .i64 ((k : Nat) : Int))))]) [(1, _)]
  (fun x => match x.1 with | k => [(0, (dD ts).map A.d), (1, [.d (.v (.slice none 0 0)), .d (.v (.slice none 0 0)), .d (.v (.slice none 0 0)), .d (.v (.slice none 0 0))])]) [] [] 2 (fun x => match x.1 with | k => ps.length - k)
  [0, 1] ⟨0, ?_⟩ rfl ?_ ⟨rfl, rfl, trivial⟩ ?_ trivial rfl ?_
 · exact ⟨Nat.zero_le _, rfl⟩
 · repeat' first | exact trivial | refine ⟨rfl, ?_⟩
 · repeat' first | exact trivial | refine ⟨rfl, ?_⟩
 rintro ⟨k, hk, hI⟩
 show W _ _ _ _ _ ⟨[(2, .ptr 0 0), (4, .ptr 1 0), (7, .d (.v (.int .i64 ((k : Nat) : Int)))), (1, _)], [(0, (dD ts).map A.d), (1, [.d (.v (.slice none 0 0)), .d (.v (.slice none 0 0)), .d (.v (.slice none 0 0)), .d (.v (.slice none 0 0))])], [], 2⟩
 iterate 2 refine W.seq ?_
 refine W.region ?_
 iterate 4 refine pE rfl ?_
 refine WO.nil (qs (ba (l := ps) (k := k) rfl (by simp [Ex.aJ, aE]) hk (fun p hx hd hlt => ?_) (fun he hd => ?_)))
 ·
  obtain ⟨hs0, hl0, he0, he1⟩ := okp.2.1 p (List.mem_of_getElem? hx)
  have hpt : p.thread ∈ ts.map bz.id := okp.1 ▸ List.mem_map.2 ⟨p, List.mem_of_getElem? hx, rfl⟩
  have hth : 0 ≤ p.thread ∧ p.thread ≤ 1000000000000000 := by
   obtain ⟨t, ht, e⟩ := List.mem_map.1 hpt
   have := ok.1 t ht
   omega
  have hnt := eu hn hx
  rw [hd, cX] at hI
  obtain ⟨th, se, lo, evs⟩ := p
  simp only at hs0 hl0 he0 he1 hth hpt hnt hI
  subst hs0
  subst hl0
  obtain ⟨e, r, her⟩ : ∃ e r, evs = e :: r := by
   cases evs with
   | nil => simp at he0
   | cons e r => exact ⟨e, r, rfl⟩
  subst her
  have htk : (ps.take k).length ≤ 1000 := by rw [List.length_take]; omega
  refine W.skip (qs (W.seq (W.block (W.seq (W.region ?_)))))
  iterate 2 refine pE rfl ?_
  refine pu (indexAddr (l := aK.c ⟨th, 0, 0, e :: r⟩) aa rfl rfl rfl rfl rfl rfl (Int.natCast_nonneg _) (aq hx) rfl) rfl ?_
  refine pE rfl (pu (aw rfl rfl rfl (rN ⟨th, 0, 0, e :: r⟩ hth rfl rfl ⟨he0, he1⟩) rfl) rfl ?_)
  refine pE rfl (WO.nil (qs ?_))
  iterate 2 refine W.seq ?_
  refine W.region ?_
  iterate 2 refine pE rfl ?_
  refine WO.nil (qs (au rfl (fun h28 => ?_) (fun h28 => ?_)))
  ·
   have hne : dH (e :: r) none ≠ 0 := by simpa using h28
   rw [if_pos hne] at hI
   have hg : dK ts ps = (eQ, dH (e :: r) none) := by unfold dK; rw [if_neg (by simp [h0]), ← hI, if_pos hne]
   refine W.seq (W.region (pu (build aa rfl rfl rfl rfl) rfl ?_))
   refine jQ 29 rfl rfl rfl ?_
   refine pE rfl (aO aa rfl rfl rfl rfl rfl rfl rfl rfl (pE rfl (WO.nil (qs (W.ret (aB (aT (aB (dc (aT (aB (QV.az aa trivial rfl ?_))))))))))))
   rw [hg]; rfl
  have ha0 : dH (e :: r) none = 0 := by simpa using h28
  rw [if_neg (by simpa using ha0)] at hI
  have ht0 : 0 ≤ e.time := rk (p := ⟨th, 0, 0, e :: r⟩) rfl ha0
  refine W.skip (qs ?_)
  iterate 2 refine W.seq ?_
  refine W.cU aa (by kernel_rfl) ?_
  refine aC (ev aa rfl) rfl ?_
  iterate 2 refine aC (ev aa rfl) rfl ?_
  refine aC (indexAddr (l := aK.c ⟨th, 0, 0, e :: r⟩) aa rfl rfl rfl rfl rfl rfl (Int.natCast_nonneg _) (aq hx) rfl) rfl ?_
  refine aC (ev aa rfl) rfl ?_
  refine aC (ev aa rfl) rfl ?_
  refine aC (aw rfl rfl rfl (uG ts (by omega) th hpt) rfl) rfl ?_
  refine aC (ev aa rfl) rfl ?_
  refine CH.nil ?_
  refine qs (au rfl (fun h38 => ?_) (fun h38 => ?_))
  ·
   exfalso; exact absurd h38 (by decide)
  refine W.skip (qs (W.seq (W.cU aa (by kernel_rfl) ?_)))
  iterate 2 refine aC (ev aa rfl) rfl ?_
  refine aC (kv (fn := aK.c) (l := ps) (i := 0) (j := (k : Int)) (r := ps.take k) aa rfl rfl rfl rfl rfl (fun _ => rfl) rfl rfl (by decide) (by omega) (by omega) rfl) rfl ?_
  iterate 2 refine aC (ev aa rfl) rfl ?_
  refine aC (indexAddr (l := aK.c ⟨th, 0, 0, e :: r⟩) aa rfl rfl rfl rfl rfl rfl (Int.natCast_nonneg _) (aq hx) rfl) rfl ?_
  refine aC (ev aa rfl) rfl ?_
  refine aC (aw rfl rfl rfl (qI (ps.take k) htk th hnt e r ht0) rfl) rfl ?_
  refine aC (ev aa rfl) rfl ?_
  refine CH.nil ?_
  refine qs (au rfl (fun h48 => ?_) (fun h48 => ?_))
  ·
   exfalso; exact absurd h48 (by decide)
  refine W.skip (bC (qs (W.region ?_)))
  iterate 3 refine pE rfl ?_
  refine WO.nil (W.bb [0, 1] ⟨k + 1, ?_⟩ ?_ rfl ?_ ⟨rfl, rfl, trivial⟩ ?_ trivial rfl)
  · exact ⟨hlt, hI⟩
  · dsimp only; omega
  · repeat' first | exact trivial | refine ⟨rfl, ?_⟩ | refine ⟨aG (by assumption) (by assumption), ?_⟩
  repeat' first | exact trivial | refine ⟨rfl, ?_⟩
 rw [hd] at hI
 have hc0 : cX ps = 0 := hI.symm
 have hg : dK ts ps = (⟨ts, bM, ps⟩, 0) := by unfold dK; rw [if_neg (by simp [h0]), if_neg (by simp [hc0])]
 have h64 : ts.length ≤ 64 := by
  unfold cR at h0
  split at h0
  · cases h0
  split at h0
  · cases h0
  omega
 have htm : ts.length ≤ maxLen := by simp only [maxLen]; omega
 refine W.exit (aP (aS (aM (qs ?_))))
 iterate 2 refine W.seq ?_
 refine W.region (pE rfl (pu (aw rfl rfl rfl (uw ps hpl okp.2.2) rfl) rfl ?_))
 refine pE rfl (WO.nil (qs (au rfl (fun h52 => ?_) (fun h52 => ?_))))
 ·
  exfalso
  have := of_decide_eq_true h52
  have h20 := okp.2.2
  omega
 refine W.skip (qs (W.seq (W.region (pE rfl (pu (build aa rfl rfl rfl rfl) rfl ?_)))))
 refine bA aa rfl rfl rfl (aO aa rfl rfl rfl rfl rfl rfl rfl rfl (WO.nil (qs ?_)))
 iterate 2 refine W.seq ?_
 refine dy 2 3 rfl rfl rfl ?_
 refine W.region (pE rfl (WO.nil (qs (W.block ?_))))
 refine W.aW (ι := {x : Nat × List aK // match x with | (k, m) => k ≤ ts.length ∧ m = ps.take k})
  (fun x => match x.1 with | (k, m) => [(2, .ptr 0 0), (4, .ptr 1 0), (8, .ptr 2 0), (9, .d (.v (.int .i64 ((k : Nat) : Int))))]) [(1, _)]
  (fun x => match x.1 with | (k, m) => [(0, (dD ts).map A.d), (1, [.d (.v (.slice none 0 0)), .d (.v (.slice none 0 0)), .d (.v (.slice none 0 0)), .d (.v (.slice none 0 0))]), (2, [.d (.sl (ts.map bz.c)), .d (.sl (bM.map bk)), .d (.sl []), .own 3 (m.map aK.c)])]) [] [3] 4 (fun x => match x.1 with | (k, m) => ts.length - k)
  [0, 1, 2, 3] ⟨(0, []), ?_⟩ rfl ?_ ⟨rfl, rfl, trivial⟩ ?_ trivial rfl ?_
 · exact ⟨Nat.zero_le _, rfl⟩
 · repeat' first | exact trivial | refine ⟨rfl, ?_⟩
 · repeat' first | exact trivial | refine ⟨rfl, ?_⟩
 rintro ⟨⟨k, m⟩, hk, hM⟩
 show W _ _ _ _ _ ⟨[(2, .ptr 0 0), (4, .ptr 1 0), (8, .ptr 2 0), (9, .d (.v (.int .i64 ((k : Nat) : Int)))), (1, _)], [(0, (dD ts).map A.d), (1, [.d (.v (.slice none 0 0)), .d (.v (.slice none 0 0)), .d (.v (.slice none 0 0)), .d (.v (.slice none 0 0))]), (2, [.d (.sl (ts.map bz.c)), .d (.sl (bM.map bk)), .d (.sl []), .own 3 (m.map aK.c)])], [3], 4⟩
 iterate 2 refine W.seq ?_
 refine W.region ?_
 iterate 2 refine pE rfl ?_
 refine pE rfl ?_
 iterate 2 refine pE rfl ?_
 refine WO.nil (qs (ba (l := ts) (k := k) rfl (by simp [Ex.aJ, aE]) hk (fun t hx hd hlt => ?_) (fun he hd => ?_)))
 ·
  obtain ⟨p, hp⟩ : ∃ p, ps[k]? = some p := ⟨ps[k]'(by omega), by simp⟩
  have hpt : p.thread = t.id := by
   have h1 : (ps.map aK.thread)[k]? = some p.thread := by simp [hp]
   rw [okp.1] at h1
   simpa [hx] using h1.symm
  have hfa := uD hn hp
  rw [hpt] at hfa
  have hpf := tf t.id ps (by rw [hfa]; simp) hpl hn okp.2.1
  rw [hfa] at hpf
  have hmn : m ++ [p] = ps.take (k + 1) := by rw [hM, List.take_add_one, hp]; rfl
  have hml : m.length ≤ 64 := by rw [hM]; simp; omega
  refine W.skip (qs (W.seq (W.block (W.eB aa [] [] [] [] 10 (by kernel_rfl) (by kernel_rfl) rfl rfl ?_))))
  refine' aD (ev aa rfl) ?p_1 rfl rfl rfl (by kernel_rfl) rfl ?h_1
  case' h_1 => skip
  case p_1 => refine ⟨fun ha => (ah ha (by kernel_rfl)).elim, ?_⟩ <;> intro ha <;> first | exact ⟨ev aa rfl, fun h => nomatch h⟩ | exact (ah ha (by kernel_rfl)).elim
  refine' aD (ev aa rfl) ?p_2 rfl rfl rfl (by kernel_rfl) rfl ?h_2
  case' h_2 => skip
  case p_2 => refine ⟨fun ha => (ah ha (by kernel_rfl)).elim, ?_⟩ <;> intro ha <;> first | exact ⟨ev aa rfl, fun h => nomatch h⟩ | exact ⟨bG aa rfl rfl rfl rfl, fun h => nomatch h⟩ | exact ⟨bF aa rfl rfl rfl rfl rfl, fun h => nomatch h⟩ | exact (ah ha (by kernel_rfl)).elim
  refine' aD (ev aa rfl) ?p_3 rfl rfl rfl (by kernel_rfl) rfl ?h_3
  case' h_3 => skip
  case p_3 => refine ⟨fun ha => (ah ha (by kernel_rfl)).elim, ?_⟩ <;> intro ha <;> first | exact ⟨ev aa rfl, fun h => nomatch h⟩ | exact (ah ha (by kernel_rfl)).elim
  refine' aD (ev aa rfl) ?p_4 rfl rfl rfl (by kernel_rfl) rfl ?h_4
  case' h_4 => skip
  case p_4 => refine ⟨fun ha => (ah ha (by kernel_rfl)).elim, ?_⟩ <;> intro ha <;> first | exact ⟨ev aa rfl, fun h => nomatch h⟩ | exact ⟨bG aa rfl rfl rfl rfl, fun h => nomatch h⟩ | exact ⟨bF aa rfl rfl rfl rfl rfl, fun h => nomatch h⟩ | exact (ah ha (by kernel_rfl)).elim
  refine' aD (ev aa rfl) ?p_5 rfl rfl rfl (by kernel_rfl) rfl ?h_5
  case' h_5 => skip
  case p_5 => refine ⟨fun ha => (ah ha (by kernel_rfl)).elim, ?_⟩ <;> intro ha <;> first | exact ⟨ev aa rfl, fun h => nomatch h⟩ | exact (ah ha (by kernel_rfl)).elim
  refine' aD (indexAddr aa rfl rfl rfl rfl rfl rfl (Int.natCast_nonneg _) (aq hx) rfl) ?p_6 rfl rfl rfl (by kernel_rfl) rfl ?h_6
  case' h_6 => skip
  case p_6 => refine ⟨fun ha => (ah ha (by kernel_rfl)).elim, ?_⟩ <;> intro ha <;> first | exact ⟨indexAddr aa rfl rfl rfl rfl rfl rfl (Int.natCast_nonneg _) (aq hx) rfl, fun h => nomatch h⟩ | exact (ah ha (by kernel_rfl)).elim
  refine' aD (ev aa rfl) ?p_7 rfl rfl rfl (by kernel_rfl) rfl ?h_7
  case' h_7 => skip
  case p_7 => refine ⟨fun ha => (ah ha (by kernel_rfl)).elim, ?_⟩ <;> intro ha <;> first | exact ⟨ev aa rfl, fun h => nomatch h⟩ | exact (ah ha (by kernel_rfl)).elim
  refine' aD (ev aa rfl) ?p_8 rfl rfl rfl (by kernel_rfl) rfl ?h_8
  case' h_8 => skip
  case p_8 => refine ⟨fun ha => (ah ha (by kernel_rfl)).elim, ?_⟩ <;> intro ha <;> first | exact ⟨ev aa rfl, fun h => nomatch h⟩ | exact ⟨bG aa rfl rfl rfl rfl, fun h => nomatch h⟩ | exact ⟨bF aa rfl rfl rfl rfl rfl, fun h => nomatch h⟩ | exact (ah ha (by kernel_rfl)).elim
  refine' aD (ev aa rfl) ?p_9 rfl rfl rfl (by kernel_rfl) rfl ?h_9
  case' h_9 => skip
  case p_9 => refine ⟨fun ha => (ah ha (by kernel_rfl)).elim, ?_⟩ <;> intro ha <;> first | exact ⟨ev aa rfl, fun h => nomatch h⟩ | exact (ah ha (by kernel_rfl)).elim
  refine' aD (aw rfl rfl rfl hpf rfl) ?p_10 rfl rfl rfl (by kernel_rfl) rfl ?h_10
  case' h_10 => skip
  case p_10 => refine ⟨fun ha => (ah ha (by kernel_rfl)).elim, ?_⟩ <;> intro ha <;> first | exact ⟨aw rfl rfl rfl hpf rfl, fun h => nomatch h⟩ | exact (ah ha (by kernel_rfl)).elim
  refine CD.nil ?_ rfl
  refine jG (l2 := [p]) (fn := aK.c) aa rfl rfl rfl rfl rfl rfl rfl rfl rfl rfl (fun _ => rfl) (by show (m.length + 1) * 48 ≤ _; omega) ?_
  refine pE rfl (aO aa rfl rfl rfl rfl rfl rfl rfl rfl (WO.nil (bC (qs (W.region ?_)))))
  iterate 3 refine pE rfl ?_
  refine WO.nil (W.bb [0, 1, 2, 4] ⟨(k + 1, m ++ [p]), ?_⟩ ?_ rfl ?_ ⟨rfl, rfl, trivial⟩ ?_ trivial rfl)
  · exact ⟨hlt, hmn⟩
  · dsimp only; omega
  · repeat' first | exact trivial | refine ⟨rfl, ?_⟩ | refine ⟨aG (by assumption) (by assumption), ?_⟩
  repeat' first | exact trivial | refine ⟨rfl, ?_⟩
 have hpm2 : m = ps := by rw [hM, List.take_of_length_le (by omega)]
 subst hpm2
 refine W.exit (aP (aS (aM (qs (W.seq (W.region (pE rfl (aO aa rfl rfl rfl rfl rfl rfl rfl rfl (pE rfl (WO.nil (qs (W.ret (QV.az aa trivial rfl ?_)))))))))))))
 rw [hg]; rfl
end Go.Proofs.YtoojafbicmdclaaGreatDoor
namespace Go.Proofs.YtoojafbicmdclaaGreatDoor
open Go.Ab Go.Tb
set_option maxRecDepth 10000
attribute [local irreducible] W WO Pu QS QB QL QF QV bU CH QE
theorem rX (s : ByteArray) (hn : dW (aH s 10) ≤ 1000) : ax Tryz.prog 11 [.d (.v (.string s))] (.tup [.ag (cT s).l.c, .d (.v (.int .i64 ((cT s).n : Int))), .d (ci (cT s).e)]) 0 := by
 refine ax.iy aa (n := 88) (rs := [.cell 2 30, .tmp 3, .tmp 4]) Tryz.func11 (by kernel_rfl) rfl Tryz.ntmps11 Tryz.results11 rfl fun C hC hG => ?_
 refine W.seq (W.region (bA aa rfl rfl rfl ?_))
 iterate 2 refine pE rfl ?_
 refine WO.nil (qs ?_)
 iterate 2 refine W.seq ?_
 refine W.region ?_
 iterate 3 refine pE rfl ?_
 refine WO.nil (qs (au rfl (fun h20 => ?_) (fun h20 => ?_)))
 ·
  have hg : cT s = ⟨eQ, 0, 7⟩ := by unfold cT; rw [if_pos (by simp at h20; omega)]
  refine W.seq (W.region (pu (build aa rfl rfl rfl rfl) rfl ?_))
  refine jQ 21 rfl rfl rfl ?_
  refine aO aa rfl rfl rfl rfl rfl rfl rfl rfl ?_
  iterate 2 refine pE rfl ?_
  refine WO.nil (qs (W.ret (aB (QV.az aa trivial rfl ?_))))
  rw [hg]; rfl
 have hsz : s.size ≤ 65536 := by simp at h20; omega
 refine W.skip (qs (W.seq (W.region (pE rfl (WO.nil (qs (W.seq (W.region (pE rfl (pu (aw rfl rfl rfl (qS s 10 (by omega)) rfl) rfl ?_))))))))))
 refine pE rfl (WO.nil (qs ?_))
 iterate 2 refine W.seq ?_
 refine W.region (pE rfl (WO.nil (qs (W.block (eC (d := 5) rfl rfl ?_)))))
 refine W.len (t := 6) rfl rfl (fun hlen => ?_)
 try simp only [List.length_map, Ex.aJ] at hlen
 refine W.aW (ι := {x : Nat × List (Int × Ev) // match x with | (k, acc) => k ≤ (aH s 10).length ∧ b6 ((aH s 10).drop k) k acc = b6 (aH s 10) 0 [] ∧ acc.length + dW ((aH s 10).drop k) ≤ 1000})
  (fun x => match x.1 with | (k, acc) => [(2, .ptr 0 0), (5, .own 1 ((bE acc).map recC)), (7, .d (.v (.int .i64 ((k : Nat) : Int))))]) [(6, _)]
  (fun x => match x.1 with | (k, acc) => [(0, [.d (.v (.slice none 0 0)), .d (.v (.slice none 0 0)), .d (.v (.slice none 0 0)), .d (.v (.slice none 0 0))])]) [] [1] 2 (fun x => match x.1 with | (k, acc) => (aH s 10).length - k)
  [0, 1] ⟨(0, []), ?_⟩ rfl ?_ ⟨rfl, rfl, trivial⟩ ?_ trivial rfl ?_
 · exact ⟨Nat.zero_le _, rfl, by simpa using hn⟩
 · repeat' first | exact trivial | refine ⟨rfl, ?_⟩
 · repeat' first | exact trivial | refine ⟨rfl, ?_⟩
 rintro ⟨⟨k, acc⟩, hk, hI, hN⟩
 show W _ _ _ _ _ ⟨[(2, .ptr 0 0), (5, .own 1 ((bE acc).map recC)), (7, .d (.v (.int .i64 ((k : Nat) : Int)))), (6, _)], [(0, [.d (.v (.slice none 0 0)), .d (.v (.slice none 0 0)), .d (.v (.slice none 0 0)), .d (.v (.slice none 0 0))])], [1], 2⟩
 iterate 2 refine W.seq ?_
 refine W.region ?_
 iterate 4 refine pE rfl ?_
 refine WO.nil (qs (ba (l := aH s 10) (k := k) rfl (by simp [Ex.aJ, aE]) hk (fun w hx hd hlt => ?_) (fun he hd => ?_)))
 ·
  have hws : w.size ≤ 1000000 := by have := lP (List.mem_of_getElem? hx); omega
  rw [hd] at hI hN
  simp only [b6, dW] at hI hN
  have hal : acc.length ≤ 1000 := by omega
  have hol : (bE acc).length ≤ 1000 := Nat.le_trans (List.length_filter_le _ _) hal
  refine W.skip (qs (W.seq (W.block ?_)))
  iterate 2 refine W.seq ?_
  refine W.region ?_
  iterate 2 refine pE rfl ?_
  refine pu (indexAddr (l := sc w) aa rfl rfl rfl rfl rfl rfl (Int.natCast_nonneg _) (aq hx) rfl) rfl ?_
  refine pE rfl (pE rfl (WO.nil (qs (au rfl (fun h34 => ?_) (fun h34 => ?_)))))
  ·
   have hw0 : w = B #[] := by simpa using h34
   rw [if_pos hw0] at hI
   have hN' : acc.length + dW ((aH s 10).drop (k + 1)) ≤ 1000 := by omega
   refine W.exit (aP (aM (qs (W.region ?_))))
   iterate 3 refine pE rfl ?_
   refine WO.nil (W.bb [0, 1] ⟨(k + 1, acc), ?_⟩ ?_ rfl ?_ ⟨rfl, rfl, trivial⟩ ?_ trivial rfl)
   · exact ⟨hlt, hI, hN'⟩
   · dsimp only; omega
   ·
    dsimp only
    try rw [hA]
    repeat' first | exact trivial | refine ⟨rfl, ?_⟩ | refine ⟨aG (by assumption) (by assumption), ?_⟩
   repeat' first | exact trivial | refine ⟨rfl, ?_⟩
  have hw0 : w ≠ B #[] := by simpa using h34
  rw [if_neg hw0] at hI
  refine W.skip (qs (W.seq (W.region ?_)))
  iterate 2 refine pE rfl ?_
  refine pu (indexAddr (l := sc w) aa rfl rfl rfl rfl rfl rfl (Int.natCast_nonneg _) (aq hx) rfl) rfl ?_
  refine pE rfl (pu (aw rfl rfl rfl ((vt _ (by assumption))) rfl) rfl ?_)
  iterate 11 refine pE rfl ?_
  refine WO.nil (qs ?_)
  iterate 2 refine W.seq ?_
  refine W.region ?_
  iterate 2 refine pE rfl ?_
  refine WO.nil (qs (au rfl (fun h47 => ?_) (fun h47 => ?_)))
  ·
   have hbad : (bc w).e ≠ 0 := by simpa using h47
   rw [if_pos hbad] at hI
   have hg : cT s = ⟨eQ, k + 1, 10⟩ := xe hsz hI.symm
   refine W.seq (W.region (pu (build aa rfl rfl rfl rfl) rfl ?_))
   refine jQ 48 rfl rfl rfl ?_
   refine pE rfl (pu (cf (ev aa rfl) (y := ((k + 1 : Nat) : Int)) (by rw [wrap64 (by simp only [maxLen] at hlen; omega)]; rfl)) rfl ?_)
   refine aO aa rfl rfl rfl rfl rfl rfl rfl rfl ?_
   iterate 2 refine pE rfl ?_
   refine WO.nil (qs (W.ret (aB (aT (aB (dc (aT (aB (QV.az aa trivial rfl ?_)))))))))
   rw [hg]; rfl
  have hgood : (bc w).e = 0 := by simpa using h47
  rw [if_neg (by simp [hgood])] at hI
  rw [if_neg (by rintro (q | q); exact hw0 q; exact q hgood)] at hN
  have hN' : (acc ++ ca (bc w)).length + dW ((aH s 10).drop (k + 1)) ≤ 1000 := by rw [List.length_append]; omega
  have hOk := (jU hgood).1
  have hA := pq acc (ca (bc w))
  have hll : (bE (ca (bc w))).length ≤ 2 := Nat.le_trans (List.length_filter_le _ _) (ld _)
  refine W.skip (qs (W.region ?_))
  iterate 5 refine pE rfl ?_
  refine pu (aw rfl rfl rfl (sG (bc w) hOk) rfl) rfl ?_
  refine jG (fn := recC) (l := bE acc) (l2 := bE (ca (bc w))) aa rfl rfl rfl rfl rfl rfl rfl rfl rfl rfl (fun _ => rfl) (by show ((bE acc).length + (bE (ca (bc w))).length) * 80 ≤ _; omega) ?_
  refine pE rfl (WO.nil (bC (qs (W.region ?_))))
  iterate 3 refine pE rfl ?_
  refine WO.nil (W.bb [0, 2] ⟨(k + 1, acc ++ ca (bc w)), ?_⟩ ?_ rfl ?_ ⟨rfl, rfl, trivial⟩ ?_ trivial rfl)
  · exact ⟨hlt, hI, hN'⟩
  · dsimp only; omega
  ·
   dsimp only
   try rw [hA]
   repeat' first | exact trivial | refine ⟨rfl, ?_⟩ | refine ⟨aG (by assumption) (by assumption), ?_⟩
  repeat' first | exact trivial | refine ⟨rfl, ?_⟩
 obtain ⟨X, hX⟩ : ∃ X, X = cn ([], []) acc := ⟨_, rfl⟩
 rw [hd] at hI hN
 have hI : (0, acc) = b6 (aH s 10) 0 [] := hI
 have hI2 := gI (aH s 10) 0 [] (by simp)
 rw [← hI] at hI2
 have hgr := group acc
 rw [← hX] at hgr
 have hK : dG X := hX ▸ dG.lM acc rW
 have hT : dq X.2 ≤ 1000 := by
  have := gM acc ([], [])
  rw [← hX] at this
  simp only [dq, List.map_nil, List.sum_nil] at this ⊢
  simp only [dW] at hN
  omega
 have hids : ∀ a ∈ X.1, 0 ≤ a ∧ a ≤ 1000000000000000 := hX ▸ kL acc ([], []) hI2.1 (by simp)
 have hOT := uh hK hids
 have hOP := tg hK hT
 have hlen1 : X.1.length ≤ 1000 := by have := iq hK.2.2; have e := congrArg List.length hK.1; rw [List.length_map] at e; omega
 have hlen2 : (X.2.map eT).length ≤ 1000 := by rw [List.length_map]; exact Nat.le_trans (iq hK.2.2) hT
 have hg : cT s = ⟨(dK (X.1.map cS) (X.2.map eT)).1, 0, (dK (X.1.map cS) (X.2.map eT)).2⟩ := by rw [uR hsz hI.symm, hX]; rfl
 have hal : acc.length ≤ 1000 := by omega
 have hol : (bE acc).length ≤ 1000 := Nat.le_trans (List.length_filter_le _ _) hal
 have hob : ∀ p ∈ bE acc, 0 ≤ p.1 ∧ p.1 ≤ 1000000000000000 := fun p hp => hI2.1 p (List.mem_filter.1 hp).1
 have hxm : X.1.length ≤ maxLen := by simp only [maxLen]; omega
 have hhd := vu (bE acc) hol hob
 rw [← hgr.1] at hhd
 have hat : ∀ (k : Nat) (id : Int), X.1[k]? = some id → X.2[k]? = some (id, dZ (bE acc) id) ∧ tX id (dZ (bE acc) id) = [eT (id, dZ (bE acc) id)] := fun k id hk => by
  have hk2 : (cJ ((bE acc).map (·.1)))[k]? = some id := hgr.1 ▸ hk
  refine ⟨?_, rb fun e => nH.1 e (List.mem_of_getElem? hk2)⟩
  rw [hgr.2, List.getElem?_map, hk2]; rfl
 clear hX hI hI2 hd hgr
 refine W.exit (aP (aS (aM (qs (W.seq (W.region (pE rfl (pu (aw rfl rfl rfl hhd rfl) rfl ?_))))))))
 refine bA aa rfl rfl rfl (aO aa rfl rfl rfl rfl rfl rfl rfl rfl (WO.nil (qs (W.seq (W.region (pE rfl (WO.nil (qs ?_))))))))
 iterate 2 refine W.seq ?_
 refine W.region (pE rfl (WO.nil (qs (W.block (eC (d := 14) rfl rfl ?_)))))
 refine W.aW (ι := {x : Nat × List aK // match x with | (k, ps) => k ≤ X.1.length ∧ ps = (X.2.take k).map eT})
  (fun x => match x.1 with | (k, ps) => [(2, .ptr 0 0), (5, .own 2 ((bE acc).map recC)), (13, .ptr 1 0), (14, .own 3 (ps.map aK.c)), (15, .d (.v (.int .i64 ((k : Nat) : Int))))]) []
  (fun x => match x.1 with | (k, ps) => [(0, [.d (.v (.slice none 0 0)), .d (.v (.slice none 0 0)), .d (.v (.slice none 0 0)), .d (.v (.slice none 0 0))]), (1, (dD (X.1.map cS)).map A.d)]) [] [2, 3] 4 (fun x => match x.1 with | (k, ps) => X.1.length - k)
  [0, 2, 1, 3] ⟨(0, []), ?_⟩ rfl ?_ trivial ?_ trivial rfl ?_
 · exact ⟨Nat.zero_le _, rfl⟩
 · repeat' first | exact trivial | refine ⟨rfl, ?_⟩
 · repeat' first | exact trivial | refine ⟨rfl, ?_⟩
 rintro ⟨⟨k, ps⟩, hk, hps⟩
 show W _ _ _ _ _ ⟨[(2, .ptr 0 0), (5, .own 2 ((bE acc).map recC)), (13, .ptr 1 0), (14, .own 3 (ps.map aK.c)), (15, .d (.v (.int .i64 ((k : Nat) : Int))))], [(0, [.d (.v (.slice none 0 0)), .d (.v (.slice none 0 0)), .d (.v (.slice none 0 0)), .d (.v (.slice none 0 0))]), (1, (dD (X.1.map cS)).map A.d)], [2, 3], 4⟩
 iterate 2 refine W.seq ?_
 refine W.region ?_
 iterate 2 refine pE rfl ?_
 refine pE rfl ?_
 iterate 2 refine pE rfl ?_
 refine WO.nil (qs (ba (l := X.1) (k := k) rfl (by simp [Ex.aJ, aE]) hk (fun id hx hd hlt => ?_) (fun he hd => ?_)))
 ·
  obtain ⟨hev, hpk⟩ := hat k id hx
  have hxt : (X.1.map cS)[k]? = some (cS id) := by simp [hx]
  have hrp := qz id (bE acc) hol
  rw [hpk] at hrp
  refine W.skip (qs (W.seq (W.block (W.region ?_))))
  iterate 2 refine pE rfl ?_
  refine pE rfl (pE rfl (pu (indexAddr (l := (cS id).c) aa rfl rfl rfl rfl rfl rfl (Int.natCast_nonneg _) (aq hxt) rfl) rfl ?_))
  refine pE rfl (pE rfl (pE rfl (pu (aw rfl rfl rfl hrp rfl) rfl ?_)))
  refine jG (fn := aK.c) (l := ps) (l2 := [eT (id, dZ (bE acc) id)]) aa rfl rfl rfl rfl rfl rfl rfl rfl rfl rfl (fun _ => rfl) (by show (ps.length + 1) * 48 ≤ _; rw [hps]; simp; omega) ?_
  refine pE rfl (WO.nil (bC (qs (W.region ?_))))
  iterate 3 refine pE rfl ?_
  refine WO.nil (W.bb [0, 1, 2, 4] ⟨(k + 1, ps ++ [eT (id, dZ (bE acc) id)]), ?_⟩ ?_ rfl ?_ trivial ?_ trivial rfl)
  · exact ⟨hlt, by rw [hps, List.take_add_one, hev, List.map_append]; rfl⟩
  · dsimp only; omega
  · repeat' first | exact trivial | refine ⟨rfl, ?_⟩ | refine ⟨aG (by assumption) (by assumption), ?_⟩
  repeat' first | exact trivial | refine ⟨rfl, ?_⟩
 have hl2 : X.2.length = X.1.length := by have e := congrArg List.length hK.1; rwa [List.length_map] at e
 have hps2 : ps = X.2.map eT := by rw [hps, List.take_of_length_le (by omega)]
 rw [← hps2] at hOP hg hlen2
 refine W.exit (aP (aS (aM (qs (W.seq (W.region (pE rfl (pE rfl (pu (aw rfl rfl rfl ((yC _ _ (by assumption) (by assumption) (by assumption))) rfl) rfl ?_)))))))))
 iterate 3 refine pE rfl ?_
 refine bA aa rfl rfl rfl (aO aa rfl rfl rfl rfl rfl rfl rfl rfl (pE rfl (WO.nil (qs ?_))))
 iterate 2 refine W.seq ?_
 refine W.region ?_
 iterate 2 refine pE rfl ?_
 refine WO.nil (qs (au rfl (fun h84 => ?_) (fun h84 => ?_)))
 ·
  have hne : (dK (X.1.map cS) ps).2 ≠ 0 := by simpa using h84
  have hL := rA hne
  refine W.seq (W.region (pu (build aa rfl rfl rfl rfl) rfl ?_))
  refine jQ 85 rfl rfl rfl ?_
  refine pE rfl (aO aa rfl rfl rfl rfl rfl rfl rfl rfl ?_)
  iterate 2 refine pE rfl ?_
  refine WO.nil (qs (W.ret (aB (QV.az aa trivial rfl ?_))))
  rw [hg, hL]; rfl
 have hz : (dK (X.1.map cS) ps).2 = 0 := by simpa using h84
 refine W.skip (qs (W.seq (W.region (pE rfl (aO aa rfl rfl rfl rfl rfl rfl rfl rfl ?_)))))
 iterate 2 refine pE rfl ?_
 refine WO.nil (qs (W.ret (QV.az aa trivial rfl ?_)))
 rw [hg, hz]; rfl
end Go.Proofs.YtoojafbicmdclaaGreatDoor
namespace Go.Proofs.YtoojafbicmdclaaGreatDoor
open Go.Ab Go.Tb
set_option maxRecDepth 10000
attribute [local irreducible] W WO Pu QS QB QL QF QV bU CH QE
theorem sC {acc : List (Int × Ev)} (h : acc.length ≤ 1000) : mL (gT acc).1 := by
 by_cases q : (gT acc).2 = 0
 ·
  have e : (gT acc).1 = _ := xH q
  have hk := dG.lM acc rW
  have ht : dq (cn ([], []) acc).2 ≤ 0 + acc.length := gM acc ([], [])
  have hl := iq hk.2.2
  have hl2 : (cn ([], []) acc).1.length = (cn ([], []) acc).2.length := by rw [← hk.1, List.length_map]
  rw [e]
  refine ⟨by simp; omega, by show bM.length ≤ 1000; decide, by simp; omega, fun p hp => ?_⟩
  obtain ⟨x, hx, rfl⟩ := List.mem_map.1 hp
  have := jY hx
  show x.2.length ≤ 1000
  omega
 have e : (gT acc).1 = eQ := rA q
 rw [e]
 exact ⟨by decide, by decide, by decide, fun p hp => by cases hp⟩
theorem tw {s : ByteArray} (hs : s.size ≤ 2000) : mL (cT s).l := by
 have h0 : mL eQ := ⟨by decide, by decide, by decide, fun p hp => by cases hp⟩
 unfold cT
 split
 · exact h0
 split
 · exact h0
 refine sC ?_
 have := (gI (aH s 10) 0 [] (by simp)).2
 have h2 := js hs
 simp at this
 omega
theorem qC (s : ByteArray) : ax Tryz.prog 3 [.d (.v (.string s))] (.d (.v (.bool true))) 0 := by
 refine ax.aV (n := 41) (ts := [2]) Tryz.func3 (by kernel_rfl) rfl Tryz.ntmps3 Tryz.results3 rfl rfl fun C hC hG => ?_
 refine W.seq (W.region (pE rfl (WO.nil (qs ?_))))
 iterate 2 refine W.seq ?_
 refine W.region ?_
 iterate 3 refine pE rfl ?_
 refine WO.nil (qs (au rfl (fun h11 => ?_) (fun h11 => ?_)))
 ·
  refine W.seq (W.region (pu (aw rfl rfl rfl (qg ..) rfl) rfl ?_))
  refine pE rfl (WO.nil (qs (W.ret (aB (QF.az trivial rfl ?_)))))
  rfl
 have hs : s.size ≤ 1500 := by simp at h11; omega
 have hi1 := lb s (js (by omega))
 have hi2 := rX s (js (by omega))
 have hsm := tw (s := s) (by omega)
 generalize cT s = R at hi1 hi2 hsm
 refine W.skip (qs (W.seq (W.region (pE rfl (pu (aw rfl rfl rfl hi1 rfl) rfl ?_)))))
 iterate 4 refine pE rfl ?_
 refine bA aa rfl rfl rfl (aO aa rfl rfl rfl rfl rfl rfl rfl rfl ?_)
 iterate 2 refine pE rfl ?_
 refine WO.nil (qs (W.seq (W.region (pE rfl (pu (aw rfl rfl rfl hi2 rfl) rfl ?_)))))
 iterate 4 refine pE rfl ?_
 refine bA aa rfl rfl rfl (aO aa rfl rfl rfl rfl rfl rfl rfl rfl ?_)
 iterate 2 refine pE rfl ?_
 refine WO.nil (qs (W.seq ?_))
 apply aI; (case hb => rfl)
 ·
  refine pE rfl (pE rfl (pu (aw rfl rfl rfl (tG R.l hsm) rfl) rfl ?_))
  refine pE rfl ?_
  apply an; (case hj => rfl); (case hl => rfl)
  ·
   refine ab rfl rfl (pE rfl (ab rfl rfl (pE rfl (ab rfl rfl ?_))))
   iterate 3 refine pE rfl ?_
   apply an; (case hj => rfl); (case hl => rfl)
   ·
    refine ab rfl rfl (pE rfl (ab rfl rfl (pE rfl (ab rfl rfl ?_))))
    iterate 3 refine pE rfl ?_
    apply an; (case hj => rfl); (case hl => rfl)
    ·
     refine ab rfl rfl (pu (aw rfl rfl rfl (qg ..) rfl) rfl ?_)
     iterate 2 refine pE rfl ?_
     refine WO.nil (ay rfl rfl rfl)
    refine ae rfl rfl rfl rfl ?_
    iterate 2 refine pE rfl ?_
    refine WO.nil (ay rfl rfl rfl)
   iterate 3 refine ae rfl rfl rfl rfl ?_
   iterate 2 refine pE rfl ?_
   refine ae rfl rfl rfl rfl ?_
   iterate 2 refine pE rfl ?_
   refine WO.nil (ay rfl rfl rfl)
  iterate 3 refine ae rfl rfl rfl rfl ?_
  iterate 2 refine pE rfl ?_
  iterate 3 refine ae rfl rfl rfl rfl ?_
  iterate 2 refine pE rfl ?_
  refine ae rfl rfl rfl rfl ?_
  iterate 2 refine pE rfl ?_
  refine WO.nil (ay rfl rfl rfl)
 refine qs (W.ret (QF.az trivial rfl ?_))
 simp [norm, aL, gX]
end Go.Proofs.YtoojafbicmdclaaGreatDoor
