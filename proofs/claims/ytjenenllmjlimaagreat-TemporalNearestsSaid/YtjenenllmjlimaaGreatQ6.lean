import Derived.Test.YtjenenllmjlimaaGreatQ5
namespace Go.Proofs.YtjenenllmjlimaaGreat
open Go.Ab Go.Tb
set_option maxRecDepth 10000
attribute [local irreducible] W WO Pu QS QB QL QF QV bQ CH QE
theorem wa (m : Nat) : List.replicate m (([.int .i64 0, .int .i64 0, .string (B #[])] : List Value).map D.v) = (List.replicate m c9).map aO.c := by
 rw [List.map_replicate]
 rfl
theorem nW (a b : bC) (on : List ByteArray) (hon : on.length ≤ 400) : ax Tryz.prog 11 [.ag a.c, .ag b.c, .d (.sl (on.map sc))]
  (.tup [.ag (cY a b on).1.c, .d (.v (.int .i64 (cY a b on).2))]) 0 := by
 have hcol := jm 8 on [a, b] (by simp) hon
 rw [oK] at hcol
 obtain ⟨CT0, hCT⟩ : ∃ c, dK 8 on a b = c := ⟨_, rfl⟩
 rw [hCT] at hcol
 refine ax.fx aa (n := 143) (rs := [.cell 6 25, .tmp 7]) Tryz.func11 (by kernel_rfl) rfl Tryz.ntmps11 Tryz.results11 rfl fun C hC hG => ?_
 refine W.seq (W.region (be rfl rfl rfl (be rfl rfl rfl (a7 aa rfl rfl rfl (pE rfl (WO.nil (qs (W.seq (W.region (pE rfl (pE rfl (pE rfl (pu (aI aa rfl rfl rfl rfl rfl rfl rfl rfl rfl) rfl ?_)))))))))))))
 refine pu (ah rfl rfl rfl hcol rfl) rfl ?_
 iterate 5 refine pE rfl ?_
 refine WO.nil (qs ?_)
 iterate 2 refine W.seq ?_
 refine W.region ?_
 iterate 2 refine pE rfl ?_
 refine WO.nil (qs (an rfl (fun h33 => ?_) (fun h33 => ?_)))
 ·
  have he : CT0.2 ≠ 0 := by simpa using h33
  have hg : cY a b on = (gh, CT0.2) := by unfold cY; rw [hCT, if_pos he]
  refine W.seq (W.region (pu (build aa rfl rfl rfl rfl) rfl ?_))
  refine pE rfl (aP aa rfl rfl rfl rfl rfl rfl rfl rfl (pE rfl (WO.nil (qs ?_))))
  try refine ck 2 0 rfl rfl rfl ?_
  try refine ck 2 1 rfl rfl rfl ?_
  refine W.ret (ae (QV.ao aa trivial rfl ?_))
  (rw [hg]; rfl)
 have he : CT0.2 = 0 := by simpa using h33
 have hok := tZ (.inr rfl) (by rw [hCT]; exact he)
 have hoo := xX hok
 have haz := dq hok.ga
 have hbz := dq hok.gb
 have hol := hok.len
 have hra := eM hok.ga
 have hrb := eM hok.gb
 obtain ⟨o, ho⟩ : ∃ o, uN a b on = o := ⟨_, rfl⟩
 have hgo : cY a b on = (⟨CT0.1, a.rows.map (fJ o b.rows)⟩, 0) := by unfold cY; rw [hCT, if_neg (by simp [he]), ho]
 have e8 : aM 8 = [aQ] := rfl
 rw [e8] at hok
 have hpl : ax Tryz.prog 21 [.ag a.c, .d (.sl (on.map sc))] (.d (.sl (o.left.map nc))) 0 := by
  have := eD a on (by omega)
  rw [fY (fun s hs => by obtain ⟨i, j, c, d, h1, _⟩ := hok.ons s hs; exact ⟨i, h1⟩)] at this
  rw [← ho]; exact this
 have hpr : ax Tryz.prog 21 [.ag b.c, .d (.sl (on.map sc))] (.d (.sl (o.right.map nc))) 0 := by
  have := eD b on (by omega)
  rw [fY (fun s hs => by obtain ⟨i, j, c, d, _, h1, _⟩ := hok.ons s hs; exact ⟨j, h1⟩)] at this
  rw [← ho]; exact this
 have hcm : ax Tryz.prog 34 [.ag a.c, .d (.v (.string aQ))] (.d (.v (.int .i64 (o.m : Int)))) 0 := by
  have h0 := pb a aQ
  obtain ⟨i, c, h1, _⟩ := hok.spa aQ (by simp)
  have h2 : (a.cols.findIdx? fun x => decide (x.name = aQ)) = some i := h1
  rw [h2] at h0
  have h3 : o.m = i := by rw [← ho]; exact cf h1
  rw [h3]; exact h0
 have hct : ax Tryz.prog 34 [.ag b.c, .d (.v (.string aQ))] (.d (.v (.int .i64 (o.t : Int)))) 0 := by
  have h0 := pb b aQ
  obtain ⟨i, c, h1, _⟩ := hok.spb aQ (by simp)
  have h2 : (b.cols.findIdx? fun x => decide (x.name = aQ)) = some i := h1
  rw [h2] at h0
  have h3 : o.t = i := by rw [← ho]; exact cf h1
  rw [h3]; exact h0
 have hre : ax Tryz.prog 22 [.ag b.c, .d (.sl ((on ++ [aQ]).map sc))] (.d (.sl (o.more.map nc))) 0 := by
  have := r6 b (on ++ [aQ]) (by omega)
  rw [← ho]; exact this
 rw [ho] at hoo
 have hll : o.left.length ≤ 16 := by rw [← ho]; show (on.map _).length ≤ _; rw [List.length_map]; exact hol
 have hrl : o.right.length ≤ 16 := by rw [← ho]; show (on.map _).length ≤ _; rw [List.length_map]; exact hol
 have hml : o.more.length ≤ 32 := by rw [← ho]; have := iq (on ++ [aQ]) b.cols 0; show (cE _ _ _).length ≤ _; omega
 have hmm : (o.more.map nc).length = o.more.length := List.length_map _
 refine W.skip (qs (W.seq (W.bd aa (by kernel_rfl) ?_)))
 refine ak (ev aa rfl) rfl ?_
 refine ak (ev aa rfl) rfl ?_
 refine ak (ah rfl rfl rfl hpl rfl) rfl ?_
 refine ak (ev aa rfl) rfl ?_
 refine ak (ev aa rfl) rfl ?_
 refine ak (ah rfl rfl rfl hpr rfl) rfl ?_
 iterate 2 refine ak (ev aa rfl) rfl ?_
 refine CH.nil ?_
 refine qs (W.seq (W.bd aa (by kernel_rfl) ?_))
 refine ak (ev aa rfl) rfl ?_
 refine ak (ah rfl rfl rfl hcm rfl) rfl ?_
 refine ak (ev aa rfl) rfl ?_
 refine ak (ah rfl rfl rfl hct rfl) rfl ?_
 iterate 2 refine ak (ev aa rfl) rfl ?_
 refine CH.nil ?_
 refine qs (W.seq ?_)
 refine' W.fV aa [_, _] [[3], [4]] [4, 5] [2, 4] 5 (by kernel_rfl) (by kernel_rfl) rfl rfl ?hL_1
 case' hL_1 => skip
 refine' aZ (ev aa rfl) ?p_2 rfl rfl rfl (by kernel_rfl) rfl ?h_2
 case' h_2 => skip
 refine' aZ (ev aa rfl) ?p_3 rfl rfl rfl (by kernel_rfl) rfl ?h_3
 case' h_3 => skip
 refine' lS ?x_4 rfl rfl rfl (by kernel_rfl) (fun h => (au h (by kernel_rfl)).elim) rfl ?h_4
 case x_4 =>
  intro b hb g; cases b
  · exact (au hb (by kernel_rfl)).elim
  refine fh rfl rfl rfl (qk on (by omega)) (by rfl) rfl rfl ?_
  refine WO.nil ?_
  refine' jD rfl ?_ ?_ ?_ ?_
  all_goals try exact rfl
 case' h_4 => skip
 refine' aZ (aI aa rfl rfl rfl rfl rfl rfl rfl rfl rfl) ?p_5 rfl rfl rfl (by kernel_rfl) rfl ?h_5
 case' h_5 => skip
 refine' lS ?x_6 rfl rfl rfl (by kernel_rfl) (fun h => (au h (by kernel_rfl)).elim) rfl ?h_6
 case x_6 =>
  intro b hb g; cases b
  · exact (au hb (by kernel_rfl)).elim
  refine br (fn := sc) (l := on) (a := aQ) aa rfl rfl rfl rfl rfl rfl rfl rfl rfl rfl (fun _ => rfl) (by show (on.length + 1) * 16 ≤ _; omega) ?_
  refine WO.nil ?_
  refine' jD rfl ?_ ?_ ?_ ?_
  all_goals try exact rfl
 case' h_6 => skip
 case p_2 => refine ⟨fun ha => (au ha (by kernel_rfl)).elim, ?_, fun ha => (au ha (by kernel_rfl)).elim, ?_, fun ha => (au ha (by kernel_rfl)).elim, ?_⟩ <;> intro ha <;> first | exact ⟨ev aa rfl, fun h => nomatch h⟩ | exact ⟨cX aa rfl rfl rfl rfl, fun h => nomatch h⟩ | exact ⟨cT aa rfl rfl rfl rfl rfl, fun h => nomatch h⟩ | exact (au ha (by kernel_rfl)).elim
 case p_3 => refine ⟨fun ha => (au ha (by kernel_rfl)).elim, ?_, fun ha => (au ha (by kernel_rfl)).elim, ?_, fun ha => (au ha (by kernel_rfl)).elim, ?_⟩ <;> intro ha <;> first | exact ⟨ev aa rfl, fun h => nomatch h⟩ | exact (au ha (by kernel_rfl)).elim
 case p_5 => refine ⟨fun ha => (au ha (by kernel_rfl)).elim, ?_, fun ha => (au ha (by kernel_rfl)).elim, ?_, fun ha => (au ha (by kernel_rfl)).elim, ?_⟩ <;> intro ha <;> first | exact ⟨aI aa rfl rfl rfl rfl rfl rfl rfl rfl rfl, fun h => nomatch h⟩ | exact (au ha (by kernel_rfl)).elim
 refine CD.nil ?_ rfl
 refine pu (ah rfl rfl rfl hre rfl) rfl ?_
 refine pE rfl (WO.nil (qs (W.seq (W.region (pE rfl (pu (build aa rfl rfl rfl rfl) rfl ?_))))))
 refine a7 aa rfl rfl rfl (aP aa rfl rfl rfl rfl rfl rfl rfl rfl (WO.nil (qs ?_)))
 iterate 2 refine W.seq ?_
 refine W.region (pE rfl (pE rfl ?_))
 iterate 2 refine pE rfl ?_
 refine WO.nil (qs (W.block (eZ 5 1 rfl rfl rfl ?_)))
 refine W.len (t := 55) rfl rfl (fun hlen => ?_)
 try simp only [List.length_map, Ex.aF] at hlen
 refine W.aS (ι := {x : Nat × List (List aO) // match x with | (i, out) => i ≤ a.rows.length ∧ out = (a.rows.take i).map (fJ o b.rows)})
  (fun x => match x.1 with | (i, out) => [(4, .ptr 0 0), (6, .ptr 1 0), (15, .ptr 2 0), (57, .d (.v (.int .i64 ((i : Nat) : Int))))]) [(10, _), (11, _), (12, _), (13, _), (14, _), (55, _), (56, _)]
  (fun x => match x.1 with | (i, out) => [(0, b.c.map A.d), (1, [.d (.v (.slice none 0 0)), .d (.v (.slice none 0 0))]), (2, [.d (.sl (CT0.1.map Col.c)), .own 3 (out.map rc)])]) [] [3] 4 (fun x => match x.1 with | (i, out) => a.rows.length - i)
  [1, 2, 5, 6] ⟨(0, []), ?_⟩ rfl ?_ ⟨rfl, rfl, rfl, rfl, rfl, rfl, rfl, rfl, rfl, rfl, rfl, rfl, rfl, rfl, trivial⟩ ?_ trivial rfl ?_
 · exact ⟨Nat.zero_le _, rfl⟩
 · repeat' first | exact trivial | refine ⟨rfl, ?_⟩
 · repeat' first | exact trivial | refine ⟨rfl, ?_⟩
 rintro ⟨⟨i, out⟩, hk, hI⟩
 show W _ _ _ _ _ ⟨[(4, .ptr 0 0), (6, .ptr 1 0), (15, .ptr 2 0), (57, .d (.v (.int .i64 ((i : Nat) : Int)))), (10, _), (11, _), (12, _), (13, _), (14, _), (55, _), (56, _)], [(0, b.c.map A.d), (1, [.d (.v (.slice none 0 0)), .d (.v (.slice none 0 0))]), (2, [.d (.sl (CT0.1.map Col.c)), .own 3 (out.map rc)])], [3], 4⟩
 refine W.seq (W.region (pE rfl (WO.nil (qs (W.seq (aY (l := a.rows) (k := i) rfl (by simp [Ex.aF, aH]) hk (fun z hx hd hlt => ?_) (fun he hd => ?_)))))))
 ·
  have hzx := hx
  have hzlt := hlt
  have hxm := List.mem_of_getElem? hx
  have hxl := (hra z hxm).1
  have hpx := im z o.left (by omega) (fun q hq => by rw [hxl]; exact hoo.left q hq)
  have hoi : out.length ≤ 20000 := by rw [hI, List.length_map, List.length_take]; omega
  have hzm : (z.map aO.c)[((o.m : Nat) : Int).toNat]? = some (ba z o.m).c := aD (eT (by rw [hxl]; exact hoo.mm))
  refine W.skip (qs (W.seq (W.block (W.seq (W.region (pu (indexAddr aa rfl rfl rfl rfl rfl rfl (Int.natCast_nonneg _) (aD hx) rfl) rfl ?_))))))
  refine pE rfl (pE rfl (WO.nil (qs (W.seq (W.region (pE rfl (WO.nil (qs ?_))))))))
  iterate 2 refine W.seq ?_
  refine W.region (pE rfl (pE rfl ?_))
  iterate 2 refine pE rfl ?_
  refine WO.nil (qs (W.block (W.len (t := 62) rfl rfl (fun hlen => ?_))))
  try simp only [List.length_map, Ex.aF] at hlen
  refine W.aS (ι := {x : Nat × Option Nat // match x with | (j, best) => j ≤ b.rows.length ∧ (∀ i, best = some i → i < b.rows.length) ∧ fm o b.rows z (b.rows.drop j) j best = fm o b.rows z b.rows 0 none})
   (fun x => match x.1 with | (j, best) => [(4, .ptr 0 0), (6, .ptr 1 0), (15, .ptr 2 0), (18, .d (.v (.int .i64 (idx best)))), (64, .d (.v (.int .i64 ((j : Nat) : Int))))]) [(10, _), (11, _), (12, _), (13, _), (14, _), (17, _), (55, _), (56, _), (57, _), (62, _), (63, _)]
   (fun x => match x.1 with | (j, best) => [(0, b.c.map A.d), (1, [.d (.v (.slice none 0 0)), .d (.v (.slice none 0 0))]), (2, [.d (.sl (CT0.1.map Col.c)), .own 3 (out.map rc)])]) [] [3] 4 (fun x => match x.1 with | (j, best) => b.rows.length - j)
   [0, 1, 2, 3] ⟨(0, none), ?_⟩ rfl ?_ ⟨rfl, rfl, rfl, rfl, rfl, rfl, rfl, rfl, rfl, rfl, rfl, rfl, rfl, rfl, rfl, rfl, rfl, rfl, rfl, rfl, rfl, rfl, trivial⟩ ?_ trivial rfl ?_
  · exact ⟨Nat.zero_le _, (fun i h => by cases h), rfl⟩
  · repeat' first | exact trivial | refine ⟨rfl, ?_⟩
  · repeat' first | exact trivial | refine ⟨rfl, ?_⟩
  rintro ⟨⟨j, best⟩, hk, hbl, hJ⟩
  show W _ _ _ _ _ ⟨[(4, .ptr 0 0), (6, .ptr 1 0), (15, .ptr 2 0), (18, .d (.v (.int .i64 (idx best)))), (64, .d (.v (.int .i64 ((j : Nat) : Int)))), (10, _), (11, _), (12, _), (13, _), (14, _), (17, _), (55, _), (56, _), (57, _), (62, _), (63, _)], [(0, b.c.map A.d), (1, [.d (.v (.slice none 0 0)), .d (.v (.slice none 0 0))]), (2, [.d (.sl (CT0.1.map Col.c)), .own 3 (out.map rc)])], [3], 4⟩
  refine W.seq (W.region (pE rfl (WO.nil (qs (W.seq (aY (l := b.rows) (k := j) rfl (by simp [Ex.aF, aH]) hk (fun y hx hd hlt => ?_) (fun he hd => ?_)))))))
  ·
   rw [hd] at hJ
   simp only [fm] at hJ
   have hym := List.mem_of_getElem? hx
   have hyl := (hrb y hym).1
   have hpy := im y o.right (by omega) (fun q hq => by rw [hyl]; exact hoo.right q hq)
   have hyt : (y.map aO.c)[((o.t : Nat) : Int).toNat]? = some (ba y o.t).c := aD (eT (by rw [hyl]; exact hoo.tt))
   have hbn : ∀ h : decide (idx best < 0) = false, 0 ≤ idx best ∧ (b.rows.map rc)[(idx best).toNat]? = some (rc (dh b.rows (idx best).toNat)) ∧ ((dh b.rows (idx best).toNat).map aO.c)[((o.t : Nat) : Int).toNat]? = some (ba (dh b.rows (idx best).toNat) o.t).c := by
    intro h
    have h0 := of_decide_eq_false h
    cases best with
    | none => exact absurd (by decide) h0
    | some i =>
     have hi := hbl i rfl
     have hr := gv hi
     refine ⟨Int.natCast_nonneg _, aD hr, aD (eT ?_)⟩
     show (o.t : Int).toNat < (dh b.rows i).length
     rw [(hrb _ (List.mem_of_getElem? hr)).1]
     exact hoo.tt
   refine W.skip (qs (W.seq (W.block (W.seq (W.region (pE rfl (pu (indexAddr aa rfl rfl rfl rfl rfl rfl (Int.natCast_nonneg _) (aD hx) rfl) rfl ?_)))))))
   refine pE rfl ?_
   iterate 2 refine pE rfl ?_
   refine WO.nil (qs (W.seq (W.jT aa 11 2 (by kernel_rfl) rfl rfl ?_)))
   refine bq rfl (ev aa rfl) rfl ?_
   refine bq rfl (ev aa rfl) rfl ?_
   refine bq rfl (indexAddr aa rfl rfl rfl rfl rfl rfl (Int.natCast_nonneg _) hzm rfl) rfl ?_
   refine bq rfl (ev aa rfl) rfl ?_
   refine bq rfl (ev aa rfl) rfl ?_
   refine bq rfl (ev aa rfl) rfl ?_
   refine bq rfl (indexAddr aa rfl rfl rfl rfl rfl rfl (Int.natCast_nonneg _) hyt rfl) rfl ?_
   refine bq rfl (ev aa rfl) rfl ?_
   refine gB 0 rfl rfl rfl rfl rfl rfl ?_
   refine gB 1 rfl rfl rfl rfl rfl rfl ?_
   refine pg 8 0 rfl rfl rfl rfl rfl rfl rfl rfl rfl rfl rfl rfl ?_
   refine CE.nil ?_
   refine aP aa rfl rfl rfl rfl rfl rfl rfl rfl (WO.nil (qs ?_))
   iterate 2 refine W.seq ?_
   apply aE; (case hb => rfl)
   ·
    refine pE rfl (pE rfl ?_)
    iterate 2 refine pE rfl ?_
    apply e5; (case hj => rfl); (case hl => rfl)
    ·
     intro g80
     iterate 3 refine aq rfl rfl rfl rfl ?_
     iterate 2 refine pE rfl ?_
     iterate 5 refine aq rfl rfl rfl rfl ?_
     iterate 2 refine pE rfl ?_
     iterate 8 refine aq rfl rfl rfl rfl ?_
     refine pE rfl (WO.nil (ay rfl rfl rfl))
    intro g80
    refine ab rfl rfl (pE rfl (ab rfl rfl (pE rfl (ab rfl rfl ?_))))
    iterate 3 refine pE rfl ?_
    apply e5; (case hj => rfl); (case hl => rfl)
    ·
     intro g85
     iterate 5 refine aq rfl rfl rfl rfl ?_
     iterate 2 refine pE rfl ?_
     iterate 8 refine aq rfl rfl rfl rfl ?_
     refine pE rfl (WO.nil (ay rfl rfl rfl))
    intro g85
    refine ab rfl rfl (pE rfl (ab rfl rfl (pE rfl (ab rfl rfl (pE rfl (ab rfl rfl (pE rfl (ab rfl rfl ?_))))))))
    iterate 3 refine pE rfl ?_
    apply e5; (case hj => rfl); (case hl => rfl)
    ·
     intro g92
     iterate 8 refine aq rfl rfl rfl rfl ?_
     refine pE rfl (WO.nil (ay rfl rfl rfl))
    intro g92
    refine ab rfl rfl (pE rfl (ab rfl rfl (pE rfl (ab rfl rfl (pu (ah rfl rfl rfl hpx rfl) rfl ?_)))))
    refine ab rfl rfl (pE rfl (ab rfl rfl (pE rfl (ab rfl rfl (pu (ah rfl rfl rfl hpy rfl) rfl ?_)))))
    refine ab rfl rfl (pu (ah rfl rfl rfl (qF (bp z o.left) (bp y o.right)) rfl) rfl ?_)
    refine ab rfl rfl ?_
    iterate 2 refine pE rfl ?_
    refine WO.nil (ay rfl rfl rfl)
   refine qs (an rfl (fun h101 => ?_) (fun h101 => ?_))
   ·
    have hsk : gE o z y = true := by
     revert h101
     unfold gE
     cases decide ((ba z o.m).kind = 0) <;> cases decide ((ba y o.t).kind = 0) <;> cases decide ((ba z o.m).n < (ba y o.t).n) <;> cases eu (bp z o.left) (bp y o.right) <;> simp
    rw [if_pos hsk] at hJ
    have hbr : gE o z y = true ∨ False := .inl hsk
    refine W.exit (aK (aL (qs (W.region ?_))))
    iterate 2 refine pE rfl ?_
    refine WO.nil ?_
    try have hbr := hup
    refine W.aT [0, 1, 2, 3] ⟨(j + 1, best), ?_⟩ ?_ rfl ?_ ⟨rfl, rfl, rfl, rfl, rfl, rfl, rfl, rfl, rfl, rfl, rfl, rfl, rfl, rfl, rfl, rfl, rfl, rfl, rfl, rfl, rfl, rfl, trivial⟩ ?_ trivial rfl
    · exact ⟨hlt, (by first | exact hbl | (intro i h; cases h; exact hlt)), hJ⟩
    · dsimp only; omega
    · repeat' first | exact trivial | refine ⟨rfl, ?_⟩ | refine ⟨aC (by assumption) (by assumption), ?_⟩
    repeat' first | exact trivial | refine ⟨rfl, ?_⟩
   have hsk : gE o z y = false := by
    revert h101
    unfold gE
    cases decide ((ba z o.m).kind = 0) <;> cases decide ((ba y o.t).kind = 0) <;> cases decide ((ba z o.m).n < (ba y o.t).n) <;> cases eu (bp z o.left) (bp y o.right) <;> simp
   rw [if_neg (by simp [hsk])] at hJ
   refine W.skip (qs (W.seq ?_))
   apply gp aa; (case hb => rfl); (case hB => kernel_rfl)
   ·
    iterate 3 refine ak (ev aa rfl) rfl ?_
    apply eG; (case hj => rfl); (case hl => rfl)
    ·
     intro g104
     iterate 12 refine bt rfl rfl rfl rfl ?_
     refine ak (ev aa rfl) rfl ?_
     refine CH.nil ?_
     refine ay rfl rfl rfl
    intro g104
    refine aB rfl rfl (ev aa rfl) rfl ?_
    refine aB rfl rfl (ev aa rfl) rfl ?_
    refine aB rfl rfl (ev aa rfl) rfl ?_
    refine aB rfl rfl (ev aa rfl) rfl ?_
    refine aB rfl rfl (ev aa rfl) rfl ?_
    refine aB rfl rfl (indexAddr aa rfl rfl rfl rfl rfl rfl (hbn g104).1 (hbn g104).2.1 rfl) rfl ?_
    refine aB rfl rfl (ev aa rfl) rfl ?_
    refine aB rfl rfl (ev aa rfl) rfl ?_
    refine aB rfl rfl (indexAddr aa rfl rfl rfl rfl rfl rfl (Int.natCast_nonneg _) (hbn g104).2.2 rfl) rfl ?_
    refine aB rfl rfl (ev aa rfl) rfl ?_
    refine aB rfl rfl (ev aa rfl) rfl ?_
    refine aB rfl rfl (ev aa rfl) rfl ?_
    refine ak (ev aa rfl) rfl ?_
    refine CH.nil ?_
    refine ay rfl rfl rfl
   refine qs (an rfl (fun h117 => ?_) (fun h117 => ?_))
   ·
    have hup : idx best < 0 ∨ (ba (dh b.rows (idx best).toNat) o.t).n ≤ (ba y o.t).n := by
     revert h117
     by_cases q : idx best < 0 <;> simp [q]
    rw [if_pos hup] at hJ
    refine W.region ?_
    iterate 2 refine pE rfl ?_
    refine WO.nil (aV (qs (W.region ?_)))
    iterate 2 refine pE rfl ?_
    refine WO.nil ?_
    try have hbr := hup
    (have _hb : idx best < 0 ∨ (ba (dh b.rows (idx best).toNat) o.t).n ≤ (ba y o.t).n := hbr; refine W.aT [0, 1, 2, 3] ⟨(j + 1, some j), ?_⟩ ?_ rfl ?_ ⟨rfl, rfl, rfl, rfl, rfl, rfl, rfl, rfl, rfl, rfl, rfl, rfl, rfl, rfl, rfl, rfl, rfl, rfl, rfl, rfl, rfl, rfl, trivial⟩ ?_ trivial rfl)
    · exact ⟨hlt, (by first | exact hbl | (intro i h; cases h; exact hlt)), hJ⟩
    · dsimp only; omega
    · repeat' first | exact trivial | refine ⟨rfl, ?_⟩ | refine ⟨aC (by assumption) (by assumption), ?_⟩
    repeat' first | exact trivial | refine ⟨rfl, ?_⟩
   have hup : ¬ (idx best < 0 ∨ (ba (dh b.rows (idx best).toNat) o.t).n ≤ (ba y o.t).n) := by
    revert h117
    by_cases q : idx best < 0 <;> simp [q]
   rw [if_neg hup] at hJ
   have hbr : gE o z y = true ∨ False ∨ True := .inr (.inr trivial)
   refine W.skip (aV (qs (W.region ?_)))
   iterate 2 refine pE rfl ?_
   refine WO.nil ?_
   try have hbr := hup
   refine W.aT [0, 1, 2, 3] ⟨(j + 1, best), ?_⟩ ?_ rfl ?_ ⟨rfl, rfl, rfl, rfl, rfl, rfl, rfl, rfl, rfl, rfl, rfl, rfl, rfl, rfl, rfl, rfl, rfl, rfl, rfl, rfl, rfl, rfl, trivial⟩ ?_ trivial rfl
   · exact ⟨hlt, (by first | exact hbl | (intro i h; cases h; exact hlt)), hJ⟩
   · dsimp only; omega
   · repeat' first | exact trivial | refine ⟨rfl, ?_⟩ | refine ⟨aC (by assumption) (by assumption), ?_⟩
   repeat' first | exact trivial | refine ⟨rfl, ?_⟩
  rw [hd] at hJ
  simp only [fm] at hJ
  refine W.exit (aK (aN (aL (qs (W.seq (W.region ?_))))))
  iterate 2 refine pE rfl ?_
  refine pu (xy (m := (o.more.map nc).length) aa rfl rfl rfl rfl rfl rfl (by rw [hmm]; show (32 : Int) * _ ≤ _; omega) (by rw [hmm]; simp only [maxLen]; omega)) rfl ?_
  refine pE rfl (WO.nil (qs ?_))
  iterate 2 refine W.seq ?_
  refine W.region ?_
  iterate 2 refine pE rfl ?_
  refine WO.nil (qs (an rfl (fun h124 => ?_) (fun h124 => ?_)))
  ·
   have hbb : 0 ≤ idx best := by simpa using h124
   obtain ⟨q, rfl⟩ : ∃ q, best = some q := by
    cases best with
    | none => exact absurd hbb (by decide)
    | some q => exact ⟨q, rfl⟩
   have hqr := gv (hbl q rfl)
   have hql := (hrb _ (List.mem_of_getElem? hqr)).1
   have hpz := im (dh b.rows q) o.more (by omega) (fun r hr => by rw [hql]; exact hoo.more r hr)
   have hfd : kX o b.rows (some q) = bp (dh b.rows q) o.more := rfl
   have hfl : (bp (dh b.rows q) o.more).length = o.more.length := List.length_map _
   have hrow : fJ o b.rows z = z ++ bp (dh b.rows q) o.more := by unfold fJ; rw [← hJ]; rfl
   refine W.region (pE rfl (pE rfl (pE rfl (pu (indexAddr (l := rc (dh b.rows q)) aa rfl rfl rfl rfl rfl rfl (Int.natCast_nonneg _) (aD hqr) rfl) rfl ?_))))
   refine pE rfl (pE rfl (pu (ah rfl rfl rfl hpz rfl) rfl ?_))
   refine pE rfl (WO.nil (qs ?_))
   refine' W.fV aa [_, _] [[4, 3], [5, 3], [6, 5]] [5, 6, 7] [3, 5] 7 (by kernel_rfl) (by kernel_rfl) rfl rfl ?hL_7
   case' hL_7 => skip
   refine' aZ (ev aa rfl) ?p_8 rfl rfl rfl (by kernel_rfl) rfl ?h_8
   case' h_8 => skip
   refine' aZ (ev aa rfl) ?p_9 rfl rfl rfl (by kernel_rfl) rfl ?h_9
   case' h_9 => skip
   refine' aZ (ev aa rfl) ?p_10 rfl rfl rfl (by kernel_rfl) rfl ?h_10
   case' h_10 => skip
   refine' lS ?x_11 rfl rfl rfl (by kernel_rfl) (fun h => (au h (by kernel_rfl)).elim) rfl ?h_11
   case x_11 =>
    intro b hb g; cases b
    · exact (au hb (by kernel_rfl)).elim
    refine fh rfl rfl rfl (kL z (by omega)) (by rfl) rfl rfl ?_
    refine WO.nil ?_
    refine' jD rfl ?_ ?_ ?_ ?_
    all_goals try exact rfl
   case' h_11 => skip
   refine' aZ (ev aa rfl) ?p_12 rfl rfl rfl (by kernel_rfl) rfl ?h_12
   case' h_12 => skip
   refine' lS ?x_13 rfl rfl rfl (by kernel_rfl) (fun h => (au h (by kernel_rfl)).elim) rfl ?h_13
   case x_13 =>
    intro b hb g; cases b
    · exact (au hb (by kernel_rfl)).elim
    refine cP (fn := aO.c) (l := z) (l2 := bp (dh b.rows q) o.more) aa rfl rfl rfl rfl rfl rfl rfl rfl rfl rfl (fun _ => rfl) (by rw [hfl]; show _ * 32 ≤ _; omega) ?_
    refine WO.nil ?_
    refine' jD rfl ?_ ?_ ?_ ?_
    all_goals try exact rfl
   case' h_13 => skip
   case p_8 => refine ⟨fun ha => (au ha (by kernel_rfl)).elim, ?_, fun ha => (au ha (by kernel_rfl)).elim, ?_, fun ha => (au ha (by kernel_rfl)).elim, ?_⟩ <;> intro ha <;> first | exact ⟨ev aa rfl, fun h => nomatch h⟩ | exact (au ha (by kernel_rfl)).elim
   case p_9 => refine ⟨fun ha => (au ha (by kernel_rfl)).elim, ?_, fun ha => (au ha (by kernel_rfl)).elim, ?_, fun ha => (au ha (by kernel_rfl)).elim, ?_⟩ <;> intro ha <;> first | exact ⟨ev aa rfl, fun h => nomatch h⟩ | exact ⟨cX aa rfl rfl rfl rfl, fun h => nomatch h⟩ | exact ⟨cT aa rfl rfl rfl rfl rfl, fun h => nomatch h⟩ | exact (au ha (by kernel_rfl)).elim
   case p_10 => refine ⟨fun ha => (au ha (by kernel_rfl)).elim, ?_, fun ha => (au ha (by kernel_rfl)).elim, ?_, fun ha => (au ha (by kernel_rfl)).elim, ?_⟩ <;> intro ha <;> first | exact ⟨ev aa rfl, fun h => nomatch h⟩ | exact (au ha (by kernel_rfl)).elim
   case p_12 => refine ⟨fun ha => (au ha (by kernel_rfl)).elim, ?_, fun ha => (au ha (by kernel_rfl)).elim, ?_, fun ha => (au ha (by kernel_rfl)).elim, ?_⟩ <;> intro ha <;> first | exact ⟨ev aa rfl, fun h => nomatch h⟩ | exact (au ha (by kernel_rfl)).elim
   refine' aZ (aI aa rfl rfl rfl rfl rfl rfl rfl rfl rfl) ?p_14 rfl rfl rfl (by kernel_rfl) rfl ?h_14
   case' h_14 => skip
   case p_14 => refine ⟨fun ha => (au ha (by kernel_rfl)).elim, ?_, fun ha => (au ha (by kernel_rfl)).elim, ?_, fun ha => (au ha (by kernel_rfl)).elim, ?_⟩ <;> intro ha <;> first | exact ⟨aI aa rfl rfl rfl rfl rfl rfl rfl rfl rfl, fun h => nomatch h⟩ | exact (au ha (by kernel_rfl)).elim
   refine CD.nil ?_ rfl
   refine br (fn := rc) (a := fJ o b.rows z) aa rfl rfl (by rw [hrow]; rfl) rfl rfl rfl rfl rfl rfl rfl (fun _ => rfl) (by show (out.length + 1) * 24 ≤ _; omega) ?_
   refine pE rfl (aP aa rfl rfl rfl rfl rfl rfl rfl rfl (WO.nil (aV (qs (W.region ?_)))))
   iterate 2 refine pE rfl ?_
   refine WO.nil (W.aT [0, 1, 2, 6] ⟨(i + 1, out ++ [fJ o b.rows z]), ?_⟩ ?_ rfl ?_ ⟨rfl, rfl, rfl, rfl, rfl, rfl, rfl, rfl, rfl, rfl, rfl, rfl, rfl, rfl, trivial⟩ ?_ trivial rfl)
   · exact ⟨hzlt, by rw [hI, List.take_add_one, hzx]; simp⟩
   · dsimp only; omega
   · repeat' first | exact trivial | refine ⟨rfl, ?_⟩ | refine ⟨aC (by assumption) (by assumption), ?_⟩
   repeat' first | exact trivial | refine ⟨rfl, ?_⟩
  have hbb : best = none := by
   cases best with
   | none => rfl
   | some q => simp [idx] at h124
  subst hbb
  have hfl : (List.replicate o.more.length c9).length = o.more.length := List.length_replicate
  have hrow : fJ o b.rows z = z ++ List.replicate o.more.length c9 := by unfold fJ; rw [← hJ]; rfl
  have hzz : List.replicate (o.more.map nc).length (([.int .i64 0, .int .i64 0, .string (B #[])] : List Value).map D.v) = (List.replicate o.more.length c9).map aO.c := by rw [hmm]; exact wa _
  refine W.skip (qs ?_)
  refine' W.fV aa [_, _] [[4, 3], [5, 3], [6, 5]] [5, 6, 7] [3, 5] 7 (by kernel_rfl) (by kernel_rfl) rfl rfl ?hL_15
  case' hL_15 => skip
  refine' aZ (ev aa rfl) ?p_16 rfl rfl rfl (by kernel_rfl) rfl ?h_16
  case' h_16 => skip
  refine' aZ (ev aa rfl) ?p_17 rfl rfl rfl (by kernel_rfl) rfl ?h_17
  case' h_17 => skip
  refine' aZ (ev aa rfl) ?p_18 rfl rfl rfl (by kernel_rfl) rfl ?h_18
  case' h_18 => skip
  refine' lS ?x_19 rfl rfl rfl (by kernel_rfl) (fun h => (au h (by kernel_rfl)).elim) rfl ?h_19
  case x_19 =>
   intro b hb g; cases b
   · exact (au hb (by kernel_rfl)).elim
   refine fh rfl rfl rfl (kL z (by omega)) (by rfl) rfl rfl ?_
   refine WO.nil ?_
   refine' jD rfl ?_ ?_ ?_ ?_
   all_goals try exact rfl
  case' h_19 => skip
  refine' aZ (ev aa rfl) ?p_20 rfl rfl rfl (by kernel_rfl) rfl ?h_20
  case' h_20 => skip
  refine' lS ?x_21 rfl rfl rfl (by kernel_rfl) (fun h => (au h (by kernel_rfl)).elim) rfl ?h_21
  case x_21 =>
   intro b hb g; cases b
   · exact (au hb (by kernel_rfl)).elim
   refine cP (fn := aO.c) (l := z) (l2 := List.replicate o.more.length c9) aa rfl rfl (by rw [← hzz]; rfl) rfl rfl rfl rfl rfl rfl rfl (fun _ => rfl) (by rw [hfl]; show _ * 32 ≤ _; omega) ?_
   refine WO.nil ?_
   refine' jD rfl ?_ ?_ ?_ ?_
   all_goals try exact rfl
  case' h_21 => skip
  case p_16 => refine ⟨fun ha => (au ha (by kernel_rfl)).elim, ?_, fun ha => (au ha (by kernel_rfl)).elim, ?_, fun ha => (au ha (by kernel_rfl)).elim, ?_⟩ <;> intro ha <;> first | exact ⟨ev aa rfl, fun h => nomatch h⟩ | exact (au ha (by kernel_rfl)).elim
  case p_17 => refine ⟨fun ha => (au ha (by kernel_rfl)).elim, ?_, fun ha => (au ha (by kernel_rfl)).elim, ?_, fun ha => (au ha (by kernel_rfl)).elim, ?_⟩ <;> intro ha <;> first | exact ⟨ev aa rfl, fun h => nomatch h⟩ | exact ⟨cX aa rfl rfl rfl rfl, fun h => nomatch h⟩ | exact ⟨cT aa rfl rfl rfl rfl rfl, fun h => nomatch h⟩ | exact (au ha (by kernel_rfl)).elim
  case p_18 => refine ⟨fun ha => (au ha (by kernel_rfl)).elim, ?_, fun ha => (au ha (by kernel_rfl)).elim, ?_, fun ha => (au ha (by kernel_rfl)).elim, ?_⟩ <;> intro ha <;> first | exact ⟨ev aa rfl, fun h => nomatch h⟩ | exact (au ha (by kernel_rfl)).elim
  case p_20 => refine ⟨fun ha => (au ha (by kernel_rfl)).elim, ?_, fun ha => (au ha (by kernel_rfl)).elim, ?_, fun ha => (au ha (by kernel_rfl)).elim, ?_⟩ <;> intro ha <;> first | exact ⟨ev aa rfl, fun h => nomatch h⟩ | exact (au ha (by kernel_rfl)).elim
  refine' aZ (aI aa rfl rfl rfl rfl rfl rfl rfl rfl rfl) ?p_22 rfl rfl rfl (by kernel_rfl) rfl ?h_22
  case' h_22 => skip
  case p_22 => refine ⟨fun ha => (au ha (by kernel_rfl)).elim, ?_, fun ha => (au ha (by kernel_rfl)).elim, ?_, fun ha => (au ha (by kernel_rfl)).elim, ?_⟩ <;> intro ha <;> first | exact ⟨aI aa rfl rfl rfl rfl rfl rfl rfl rfl rfl, fun h => nomatch h⟩ | exact (au ha (by kernel_rfl)).elim
  refine CD.nil ?_ rfl
  refine br (fn := rc) (a := fJ o b.rows z) aa rfl rfl (by rw [hrow]; rfl) rfl rfl rfl rfl rfl rfl rfl (fun _ => rfl) (by show (out.length + 1) * 24 ≤ _; omega) ?_
  refine pE rfl (aP aa rfl rfl rfl rfl rfl rfl rfl rfl (WO.nil (aV (qs (W.region ?_)))))
  iterate 2 refine pE rfl ?_
  refine WO.nil (W.aT [0, 1, 2, 6] ⟨(i + 1, out ++ [fJ o b.rows z]), ?_⟩ ?_ rfl ?_ ⟨rfl, rfl, rfl, rfl, rfl, rfl, rfl, rfl, rfl, rfl, rfl, rfl, rfl, rfl, trivial⟩ ?_ trivial rfl)
  · exact ⟨hzlt, by rw [hI, List.take_add_one, hzx]; simp⟩
  · dsimp only; omega
  · repeat' first | exact trivial | refine ⟨rfl, ?_⟩ | refine ⟨aC (by assumption) (by assumption), ?_⟩
  repeat' first | exact trivial | refine ⟨rfl, ?_⟩
 have hfin : out = a.rows.map (fJ o b.rows) := by rw [hI, List.take_of_length_le (by have := congrArg List.length hd; simp at this; omega)]
 have hg : cY a b on = (⟨CT0.1, out⟩, 0) := by rw [hgo, hfin]
 refine W.exit (aK (aN (aL (qs (W.seq (W.region (pE rfl (aP aa rfl rfl rfl rfl rfl rfl rfl rfl (pE rfl (WO.nil (qs ?_)))))))))))
 try refine ck 2 0 rfl rfl rfl ?_
 try refine ck 2 1 rfl rfl rfl ?_
 refine W.ret (QV.ao aa trivial rfl ?_)
 (rw [hg]; rfl)
end Go.Proofs.YtjenenllmjlimaaGreat
namespace Go.Proofs.YtjenenllmjlimaaGreat
open Go.Ab Go.Tb
set_option maxRecDepth 10000
attribute [local irreducible] W WO Pu QS QB QL QF QV bQ CH QE
theorem v9 : ax Tryz.prog 85 [.d (.sl []), .d (.v (.int .i64 0)), .d (.v (.int .i64 0)), .clo 37 []] (.tup []) 0 := by
 refine ax.aR (n := 53) (ts := []) Tryz.func85 (by kernel_rfl) rfl Tryz.ntmps85 Tryz.results85 rfl rfl fun C hC hG => ?_
 refine W.seq (W.region ?_)
 iterate 3 refine pE rfl ?_
 refine WO.nil (qs (W.block ?_))
 refine W.aS (ι := {x : Unit // match x with | u => True})
  (fun x => match x.1 with | u => [(8, .d (.v (.int .i64 1)))]) [(0, _), (1, _), (2, _), (3, _)]
  (fun x => match x.1 with | u => []) [] [] 0 (fun x => match x.1 with | u => 0)
  [] ⟨(), ?_⟩ rfl ?_ ⟨rfl, rfl, rfl, rfl, rfl, rfl, rfl, rfl, trivial⟩ ?_ trivial rfl ?_
 · exact trivial
 · repeat' first | exact trivial | refine ⟨rfl, ?_⟩
 · repeat' exact trivial
 rintro ⟨u, hk, hI⟩
 show W _ _ _ _ _ ⟨[(8, .d (.v (.int .i64 1))), (0, _), (1, _), (2, _), (3, _)], [], [], 0⟩
 iterate 2 refine W.seq ?_
 refine W.region ?_
 iterate 3 refine pE rfl ?_
 refine WO.nil (qs (an rfl (fun h14 => ?_) (fun h14 => ?_)))
 ·
  exfalso
  simp at h14
 refine W.exit (aK (aN (aL (QF.ao trivial rfl ?_))))
 rfl
theorem sR : ax Tryz.prog 55 [.d (.sl []), .d (.v (.int .i64 0)), .clo 37 []] (.tup []) 0 := by
 refine ax.aR (n := 63) (ts := []) Tryz.func55 (by kernel_rfl) rfl Tryz.ntmps55 Tryz.results55 rfl rfl fun C hC hG => ?_
 refine W.seq (W.region (pE rfl (WO.nil (qs (W.seq (W.region ?_))))))
 iterate 3 refine pE rfl ?_
 refine WO.nil (qs (W.seq (W.block ?_)))
 refine W.aS (ι := {x : Unit // match x with | u => True})
  (fun x => match x.1 with | u => [(7, .d (.v (.int .i64 0))), (8, .d (.v (.int .i64 20)))]) [(0, _), (1, _), (2, _), (6, _)]
  (fun x => match x.1 with | u => []) [] [] 0 (fun x => match x.1 with | u => 0)
  [] ⟨(), ?_⟩ rfl ?_ ⟨rfl, rfl, rfl, rfl, rfl, rfl, rfl, rfl, trivial⟩ ?_ trivial rfl ?_
 · exact trivial
 · repeat' first | exact trivial | refine ⟨rfl, ?_⟩
 · repeat' exact trivial
 rintro ⟨u, hk, hI⟩
 show W _ _ _ _ _ ⟨[(7, .d (.v (.int .i64 0))), (8, .d (.v (.int .i64 20))), (0, _), (1, _), (2, _), (6, _)], [], [], 0⟩
 iterate 2 refine W.seq ?_
 refine W.region ?_
 iterate 3 refine pE rfl ?_
 refine WO.nil (qs (an rfl (fun h13 => ?_) (fun h13 => ?_)))
 ·
  exfalso
  simp at h13
 refine W.exit (aK (aN (aL (qs (W.seq (W.region ?_))))))
 iterate 4 refine pE rfl ?_
 refine pu (ah rfl rfl rfl v9 rfl) rfl ?_
 refine WO.nil (qs (W.block ?_))
 refine W.aS (ι := {x : Unit // match x with | u => True})
  (fun x => match x.1 with | u => [(6, .d (.v (.int .i64 20)))]) [(0, _), (1, _), (2, _)]
  (fun x => match x.1 with | u => []) [] [] 0 (fun x => match x.1 with | u => 0)
  [] ⟨(), ?_⟩ rfl ?_ ⟨rfl, rfl, rfl, rfl, rfl, rfl, trivial⟩ ?_ trivial rfl ?_
 · exact trivial
 · repeat' first | exact trivial | refine ⟨rfl, ?_⟩
 · repeat' exact trivial
 rintro ⟨u, hk, hI⟩
 show W _ _ _ _ _ ⟨[(6, .d (.v (.int .i64 20))), (0, _), (1, _), (2, _)], [], [], 0⟩
 iterate 2 refine W.seq ?_
 refine W.region ?_
 iterate 3 refine pE rfl ?_
 refine WO.nil (qs (an rfl (fun h30 => ?_) (fun h30 => ?_)))
 ·
  exfalso
  simp at h30
 refine W.exit (aK (aN (aL (QF.ao trivial rfl ?_))))
 rfl
theorem o9 : ax Tryz.prog 36 [.d (.sl []), .clo 37 []] (.tup []) 0 := by
 refine ax.aR (n := 9) (ts := []) Tryz.func36 (by kernel_rfl) rfl Tryz.ntmps36 Tryz.results36 rfl rfl fun C hC hG => ?_
 refine W.region ?_
 iterate 4 refine pE rfl ?_
 refine pu (ah rfl rfl rfl sR rfl) rfl ?_
 refine WO.nil (QF.ao trivial rfl ?_)
 rfl
def kY (z : List aO) (m0 m1 : Nat) : Bool := eg z m0 m1 && decide (0 ≤ (ba z m0).n)
def nC (left : List Nat) (m0 m1 : Nat) (z : List aO) : Pc := ⟨bp z left, (ba z m0).n, (ba z m1).n⟩
def pieces (left : List Nat) (m0 m1 : Nat) : List (List aO) → List Pc
 | [] => []
 | z :: r => if kY z m0 m1 = true then nC left m0 m1 z :: pieces left m0 m1 r else pieces left m0 m1 r
def cN (out : List Pc) : Pc := el out (out.length - 1)
def et (out : List Pc) (p : Pc) : Bool := decide (0 < out.length) && (decide ((cN out).key = p.key) && decide (p.fr ≤ (cN out).to))
def kF (q p : Pc) : Pc := ⟨q.key, q.fr, if q.to < p.to then p.to else q.to⟩
def fL (out : List Pc) : List Pc → List Pc
 | [] => out
 | p :: r => if et out p = true then fL (out.set (out.length - 1) (kF (cN out) p)) r else fL (out ++ [p]) r
def jW (p : Pc) : List aO := p.key ++ [⟨2, p.fr, B #[]⟩, ⟨2, p.to, B #[]⟩]
def k9 (a : bC) (on : List ByteArray) : List Nat := on.map (bN a.cols)
def qV (a : bC) (on : List ByteArray) : List Pc := fL [] (eU bA (pieces (k9 a on) (bN a.cols aQ) (bN a.cols bP) a.rows))
def cv (a : bC) (on : List ByteArray) : bC × Int :=
 if (fO 9 on a).2 ≠ 0 then (gh, (fO 9 on a).2) else (⟨(fO 9 on a).1, (qV a on).map jW⟩, 0)
theorem jO (left : List Nat) (m0 m1 : Nat) : ∀ (l : List (List aO)), ∀ p ∈ pieces left m0 m1 l, p.key.length = left.length
 | [], p, h => by cases h
 | z :: r, p, h => by
  simp only [pieces] at h
  split at h
  ·
   rcases List.mem_cons.1 h with rfl | h
   · exact List.length_map _
   exact jO left m0 m1 r p h
  exact jO left m0 m1 r p h
theorem uG {out : List Pc} (h : 0 < out.length) : cN out ∈ out := List.mem_of_getElem? (oX (by omega : out.length - 1 < out.length))
theorem kO {m : Nat} : ∀ (l out : List Pc), (∀ p ∈ l, p.key.length = m) → (∀ p ∈ out, p.key.length = m) → ∀ p ∈ fL out l, p.key.length = m
 | [], out, _, h, p, hp => h p hp
 | q :: r, out, hl, h, p, hp => by
  simp only [fL] at hp
  split at hp
  ·
   rename_i ht
   have h0 : 0 < out.length := by unfold et at ht; simp at ht; exact ht.1
   refine kO r _ (fun x hx => hl x (List.mem_cons_of_mem _ hx)) (fun x hx => ?_) p hp
   rcases List.mem_or_eq_of_mem_set hx with hx | rfl
   · exact h x hx
   show (cN out).key.length = m
   exact h _ (uG h0)
  refine kO r _ (fun x hx => hl x (List.mem_cons_of_mem _ hx)) (fun x hx => ?_) p hp
  rcases List.mem_append.1 hx with hx | hx
  · exact h x hx
  rw [List.mem_singleton.1 hx]; exact hl q List.mem_cons_self
theorem ky : ∀ (l out : List Pc), (fL out l).length ≤ out.length + l.length
 | [], out => Nat.le_refl _
 | q :: r, out => by
  simp only [fL]
  split
  · have := ky r (out.set (out.length - 1) (kF (cN out) q)); rw [List.length_set] at this; simp; omega
  have := ky r (out ++ [q]); rw [List.length_append] at this; simp at this ⊢; omega
theorem iu (L : List Pc) (p : Pc) : L.map Pc.c ++ [p.c] = (L ++ [p]).map Pc.c := by simp
end Go.Proofs.YtjenenllmjlimaaGreat
namespace Go.Proofs.YtjenenllmjlimaaGreat
open Go.Ab Go.Tb
set_option maxRecDepth 10000
attribute [local irreducible] W WO Pu QS QB QL QF QV bQ CH QE
theorem qJ (a : bC) (on : List ByteArray) (hon : on.length ≤ 400) (hpos : 0 < (pieces (k9 a on) (bN a.cols aQ) (bN a.cols bP) a.rows).length) : ax Tryz.prog 13 [.ag a.c, .d (.sl (on.map sc))]
  (.tup [.ag (cv a on).1.c, .d (.v (.int .i64 (cv a on).2))]) 0 := by
 have hcol := jm 9 on [a] (by simp) hon
 rw [oL] at hcol
 obtain ⟨CT0, hCT⟩ : ∃ c, fO 9 on a = c := ⟨_, rfl⟩
 rw [hCT] at hcol
 obtain ⟨m0, hm0⟩ : ∃ i, bN a.cols aQ = i := ⟨_, rfl⟩
 obtain ⟨m1, hm1⟩ : ∃ i, bN a.cols bP = i := ⟨_, rfl⟩
 obtain ⟨left, hleft⟩ : ∃ l, k9 a on = l := ⟨_, rfl⟩
 rw [hm0, hm1, hleft] at hpos
 refine ax.fx aa (n := 150) (rs := [.cell 4 25, .tmp 5]) Tryz.func13 (by kernel_rfl) rfl Tryz.ntmps13 Tryz.results13 rfl fun C hC hG => ?_
 refine W.seq (W.region (be rfl rfl rfl (a7 aa rfl rfl rfl (pE rfl (WO.nil (qs (W.seq (W.region (pE rfl (pE rfl (pu (aI aa rfl rfl rfl rfl rfl rfl rfl rfl rfl) rfl ?_)))))))))))
 refine pu (ah rfl rfl rfl hcol rfl) rfl ?_
 iterate 5 refine pE rfl ?_
 refine WO.nil (qs ?_)
 iterate 2 refine W.seq ?_
 refine W.region ?_
 iterate 2 refine pE rfl ?_
 refine WO.nil (qs (an rfl (fun h30 => ?_) (fun h30 => ?_)))
 ·
  have he : CT0.2 ≠ 0 := by simpa using h30
  have hg : cv a on = (gh, CT0.2) := by unfold cv; rw [hCT, if_pos he]
  refine W.seq (W.region (pu (build aa rfl rfl rfl rfl) rfl ?_))
  refine pE rfl (aP aa rfl rfl rfl rfl rfl rfl rfl rfl (pE rfl (WO.nil (qs ?_))))
  try refine ck 1 0 rfl rfl rfl ?_
  try refine ck 1 1 rfl rfl rfl ?_
  refine W.ret (ae (QV.ao aa trivial rfl ?_))
  (rw [hg]; rfl)
 have he : CT0.2 = 0 := by simpa using h30
 have hok := vF (by rw [hCT]; exact he)
 have hoo := wT hok
 have haz := dq hok.ga
 have hol := hok.len
 have hra := eM hok.ga
 obtain ⟨srt, hsrt⟩ : ∃ s, eU bA (pieces left m0 m1 a.rows) = s := ⟨_, rfl⟩
 obtain ⟨J, hJJ⟩ : ∃ s, fL [] srt = s := ⟨_, rfl⟩
 have hgo : cv a on = (⟨CT0.1, J.map jW⟩, 0) := by unfold cv qV; rw [hCT, if_neg (by simp [he]), hleft, hm0, hm1, hsrt, hJJ]
 have hpl : ax Tryz.prog 21 [.ag a.c, .d (.sl (on.map sc))] (.d (.sl (left.map nc))) 0 := by
  have := eD a on (by omega)
  rw [fY (fun s hs => by obtain ⟨i, c, h1, _⟩ := hok.ons s hs; exact ⟨i, h1⟩)] at this
  rw [← hleft]; exact this
 have hpm : ax Tryz.prog 21 [.ag a.c, .d (.sl ([aQ, bP].map sc))] (.d (.sl ([m0, m1].map nc))) 0 := by
  have := eD a [aQ, bP] (by simp)
  rw [fY (fun s hs => by
   rcases List.mem_cons.1 hs with rfl | hs
   · obtain ⟨i, c, h1, _⟩ := hok.fr; exact ⟨i, h1⟩
   rcases List.mem_cons.1 hs with rfl | hs
   · obtain ⟨i, c, h1, _⟩ := hok.to; exact ⟨i, h1⟩
   cases hs)] at this
  rw [← hm0, ← hm1]; exact this
 have hll : left.length ≤ 16 := by rw [← hleft]; show (on.map _).length ≤ _; rw [List.length_map]; exact hol
 rw [show on.map (bN a.cols) = left from hleft, hm0, hm1] at hoo
 refine W.skip (qs (W.seq (W.bd aa (by kernel_rfl) ?_)))
 refine ak (ev aa rfl) rfl ?_
 refine ak (ev aa rfl) rfl ?_
 refine ak (ah rfl rfl rfl hpl rfl) rfl ?_
 refine ak (ev aa rfl) rfl ?_
 refine ak (aI aa rfl rfl rfl rfl rfl rfl rfl rfl rfl) rfl ?_
 refine ak (ah rfl rfl rfl hpm rfl) rfl ?_
 iterate 2 refine ak (ev aa rfl) rfl ?_
 refine CH.nil ?_
 refine qs (W.seq (W.region ?_))
 iterate 2 refine pE rfl ?_
 refine WO.nil (qs ?_)
 iterate 2 refine W.seq ?_
 refine W.region (pE rfl (pE rfl ?_))
 iterate 2 refine pE rfl ?_
 refine WO.nil (qs (W.block (W.mK (d := 10) rfl rfl ?_)))
 refine W.len (t := 40) rfl rfl (fun hlen => ?_)
 try simp only [List.length_map, Ex.aF] at hlen
 refine W.aS (ι := {x : Nat × List Pc // match x with | (i, L) => i ≤ a.rows.length ∧ L.length ≤ i ∧ L ++ pieces left m0 m1 (a.rows.drop i) = pieces left m0 m1 a.rows})
  (fun x => match x.1 with | (i, L) => [(4, .ptr 0 0), (10, .xs 1 (L.map Pc.c)), (42, .d (.v (.int .i64 ((i : Nat) : Int))))]) [(6, _), (8, _), (9, _), (11, _), (40, _), (41, _)]
  (fun x => match x.1 with | (i, L) => [(0, [.d (.v (.slice none 0 0)), .d (.v (.slice none 0 0))])]) [] [1] 2 (fun x => match x.1 with | (i, L) => a.rows.length - i)
  [1, 2] ⟨(0, []), ?_⟩ rfl ?_ ⟨rfl, rfl, rfl, rfl, rfl, rfl, rfl, rfl, rfl, rfl, rfl, rfl, trivial⟩ ?_ trivial rfl ?_
 · exact ⟨Nat.zero_le _, Nat.zero_le _, rfl⟩
 · repeat' first | exact trivial | refine ⟨rfl, ?_⟩
 · repeat' first | exact trivial | refine ⟨rfl, ?_⟩
 rintro ⟨⟨i, L⟩, hk, hn, hI⟩
 show W _ _ _ _ _ ⟨[(4, .ptr 0 0), (10, .xs 1 (L.map Pc.c)), (42, .d (.v (.int .i64 ((i : Nat) : Int)))), (6, _), (8, _), (9, _), (11, _), (40, _), (41, _)], [(0, [.d (.v (.slice none 0 0)), .d (.v (.slice none 0 0))])], [1], 2⟩
 refine W.seq (W.region (pE rfl (WO.nil (qs (W.seq (aY (l := a.rows) (k := i) rfl (by simp [Ex.aF, aH]) hk (fun z hx hd hlt => ?_) (fun he hd => ?_)))))))
 ·
  rw [hd] at hI
  simp only [pieces] at hI
  have hxm := List.mem_of_getElem? hx
  have hxl := (hra z hxm).1
  have hsx := mN z m0 m1 (by rw [hxl]; exact hoo.m0) (by rw [hxl]; exact hoo.m1)
  have hpx := im z left (by omega) (fun q hq => by rw [hxl]; exact hoo.left q hq)
  refine W.skip (qs (W.seq (W.block (W.seq (W.region (pu (indexAddr aa rfl rfl rfl rfl rfl rfl (Int.natCast_nonneg _) (aD hx) rfl) rfl ?_))))))
  refine pE rfl (pE rfl (WO.nil (qs (W.seq (W.region ?_)))))
  iterate 2 refine pE rfl ?_
  refine pu (ah rfl rfl rfl hsx rfl) rfl ?_
  iterate 3 refine pE rfl ?_
  refine a7 aa rfl rfl rfl (aP aa rfl rfl rfl rfl rfl rfl rfl rfl (pE rfl (WO.nil (qs (W.seq ?_)))))
  apply aE; (case hb => rfl)
  ·
   iterate 2 refine pE rfl ?_
   apply e5; (case hj => rfl); (case hl => rfl)
   ·
    intro g53
    refine ab rfl rfl (pE rfl (ab rfl rfl (pE rfl (ab rfl rfl ?_))))
    iterate 2 refine pE rfl ?_
    refine WO.nil (ay rfl rfl rfl)
   intro g53
   iterate 3 refine aq rfl rfl rfl rfl ?_
   refine pE rfl (WO.nil (ay rfl rfl rfl))
  refine qs (an rfl (fun h57 => ?_) (fun h57 => ?_))
  ·
   have hin : kY z m0 m1 = true := by
    revert h57
    unfold kY
    cases eg z m0 m1 <;> simp
   rw [if_pos hin] at hI
   refine W.fV aa [] [] [] [] 7 (by kernel_rfl) (by kernel_rfl) rfl rfl ?_
   refine' aZ (ev aa rfl) ?p_1 rfl rfl rfl (by kernel_rfl) rfl ?h_1
   case' h_1 => skip
   case p_1 => refine ⟨fun ha => (au ha (by kernel_rfl)).elim, ?_⟩ <;> intro ha <;> first | exact ⟨ev aa rfl, fun h => nomatch h⟩ | exact (au ha (by kernel_rfl)).elim
   refine' aZ (ev aa rfl) ?p_2 rfl rfl rfl (by kernel_rfl) rfl ?h_2
   case' h_2 => skip
   case p_2 => refine ⟨fun ha => (au ha (by kernel_rfl)).elim, ?_⟩ <;> intro ha <;> first | exact ⟨ev aa rfl, fun h => nomatch h⟩ | exact (au ha (by kernel_rfl)).elim
   refine' aZ (ev aa rfl) ?p_3 rfl rfl rfl (by kernel_rfl) rfl ?h_3
   case' h_3 => skip
   case p_3 => refine ⟨fun ha => (au ha (by kernel_rfl)).elim, ?_⟩ <;> intro ha <;> first | exact ⟨ev aa rfl, fun h => nomatch h⟩ | exact (au ha (by kernel_rfl)).elim
   refine' aZ (ah rfl rfl rfl hpx rfl) ?p_4 rfl rfl rfl (by kernel_rfl) rfl ?h_4
   case' h_4 => skip
   case p_4 => refine ⟨fun ha => (au ha (by kernel_rfl)).elim, ?_⟩ <;> intro ha <;> first | exact ⟨ah rfl rfl rfl hpx rfl, fun h => nomatch h⟩ | exact (au ha (by kernel_rfl)).elim
   refine' aZ (ev aa rfl) ?p_5 rfl rfl rfl (by kernel_rfl) rfl ?h_5
   case' h_5 => skip
   case p_5 => refine ⟨fun ha => (au ha (by kernel_rfl)).elim, ?_⟩ <;> intro ha <;> first | exact ⟨ev aa rfl, fun h => nomatch h⟩ | exact ⟨cX aa rfl rfl rfl rfl, fun h => nomatch h⟩ | exact ⟨cT aa rfl rfl rfl rfl rfl, fun h => nomatch h⟩ | exact (au ha (by kernel_rfl)).elim
   refine' aZ (build aa rfl rfl rfl rfl) ?p_6 rfl rfl rfl (by kernel_rfl) rfl ?h_6
   case' h_6 => skip
   case p_6 => refine ⟨fun ha => (au ha (by kernel_rfl)).elim, ?_⟩ <;> intro ha <;> first | exact ⟨build aa rfl rfl rfl rfl, fun h => nomatch h⟩ | exact (au ha (by kernel_rfl)).elim
   refine' aZ (aI aa rfl rfl rfl rfl rfl rfl rfl rfl rfl) ?p_7 rfl rfl rfl (by kernel_rfl) rfl ?h_7
   case' h_7 => skip
   case p_7 => refine ⟨fun ha => (au ha (by kernel_rfl)).elim, ?_⟩ <;> intro ha <;> first | exact ⟨aI aa rfl rfl rfl rfl rfl rfl rfl rfl rfl, fun h => nomatch h⟩ | exact (au ha (by kernel_rfl)).elim
   refine CD.nil ?_ rfl
   refine iZ (es2 := [(nC left m0 m1 z).c]) (r := (L ++ [nC left m0 m1 z]).map Pc.c) aa rfl rfl rfl rfl rfl rfl rfl rfl rfl rfl (iu _ _) (by rw [iu]; exact b8 _) (by show ((L.map Pc.c).length + 1) * 40 ≤ _; rw [List.length_map]; omega) rfl ?_
   refine pE rfl (WO.nil (aV (qs (W.region ?_))))
   iterate 2 refine pE rfl ?_
   refine WO.nil ?_
   have hbr := hin
   (have _hb : kY z m0 m1 = true := hbr; refine W.aT [0, 3] ⟨(i + 1, L ++ [nC left m0 m1 z]), ?_⟩ ?_ rfl ?_ ⟨rfl, rfl, rfl, rfl, rfl, rfl, rfl, rfl, rfl, rfl, rfl, rfl, trivial⟩ ?_ trivial rfl)
   · exact ⟨hlt, (by first | (rw [List.length_append]; simp; omega) | omega), (by first | exact hI | (rw [List.append_assoc]; exact hI))⟩
   · dsimp only; omega
   · repeat' first | exact trivial | refine ⟨rfl, ?_⟩ | refine ⟨aC (by assumption) (by assumption), ?_⟩
   repeat' first | exact trivial | refine ⟨rfl, ?_⟩
  have hin : kY z m0 m1 = false := by
   revert h57
   unfold kY
   cases eg z m0 m1 <;> simp
  rw [if_neg (by simp [hin])] at hI
  refine W.skip (aV (qs (W.region ?_)))
  iterate 2 refine pE rfl ?_
  refine WO.nil ?_
  have hbr := hin
  (have _hb : kY z m0 m1 = false := hbr; refine W.aT [0, 1] ⟨(i + 1, L), ?_⟩ ?_ rfl ?_ ⟨rfl, rfl, rfl, rfl, rfl, rfl, rfl, rfl, rfl, rfl, rfl, rfl, trivial⟩ ?_ trivial rfl)
  · exact ⟨hlt, (by first | (rw [List.length_append]; simp; omega) | omega), (by first | exact hI | (rw [List.append_assoc]; exact hI))⟩
  · dsimp only; omega
  · repeat' first | exact trivial | refine ⟨rfl, ?_⟩ | refine ⟨aC (by assumption) (by assumption), ?_⟩
  repeat' first | exact trivial | refine ⟨rfl, ?_⟩
 rw [hd] at hI
 simp only [pieces, List.append_nil] at hI
 rw [← hI] at hpos hsrt
 have hL2 : L.length ≤ 20000 := by omega
 have hst : eU bA L = srt := hsrt
 have hsl0 : srt.length = L.length := by rw [← hst]; exact (gV bA L).len
 have hkey : ∀ p ∈ J, p.key.length ≤ 16 := by
  have h1 : ∀ p ∈ srt, p.key.length = left.length := fun p hp => by
   have h2 : p ∈ L := by rw [← hst] at hp; exact (gV bA L).perm.mem_iff.1 hp
   rw [hI] at h2
   exact jO left m0 m1 a.rows p h2
  intro p hp
  rw [← hJJ] at hp
  have := kO srt [] h1 (fun p hp => nomatch hp) p hp
  omega
 have hJn : J.length ≤ 20000 := by rw [← hJJ]; have := ky srt []; simp at this; omega
 refine W.exit (aK (aN (aL (qs (W.seq ?_)))))
 have hlp : 0 < (L.map Pc.c).length := by rw [List.length_map]; exact hpos
 refine wN 10 rfl rfl rfl hlp rfl (fun cap13 k13 => ?_)
 have hsl := qn L k13 cap13 (by omega)
 have hll2 : (L.map Pc.c).length = L.length := List.length_map _
 rw [← hll2, hst] at hsl
 refine W.region (pE rfl (gU 2 rfl rfl rfl rfl hsl rfl ?_))
 refine WO.nil (qs ?_)
 iterate 2 refine W.seq ?_
 refine rv (sz := 3) 10 rfl rfl rfl (by rw [List.length_map, List.length_map, hsl0]) (b8 _) rfl rfl ?_
 refine W.region ?_
 iterate 3 refine pE rfl ?_
 refine WO.nil (qs (W.block (W.mK (d := 11) rfl rfl ?_)))
 have hsm : srt.length ≤ maxLen := by simp only [maxLen]; omega
 refine W.aS (ι := {x : Nat × List Pc // match x with | (j, out) => j ≤ srt.length ∧ out.length ≤ j ∧ fL out (srt.drop j) = J})
  (fun x => match x.1 with | (j, out) => [(4, .ptr 0 0), (11, .xs 1 (out.map Pc.c)), (71, .d (.v (.int .i64 ((j : Nat) : Int))))]) [(6, _), (69, _), (70, _)]
  (fun x => match x.1 with | (j, out) => [(0, [.d (.v (.slice none 0 0)), .d (.v (.slice none 0 0))])]) [] [1] 2 (fun x => match x.1 with | (j, out) => srt.length - j)
  [0, 4] ⟨(0, []), ?_⟩ rfl ?_ ⟨rfl, rfl, rfl, rfl, rfl, rfl, trivial⟩ ?_ trivial rfl ?_
 · exact ⟨Nat.zero_le _, Nat.zero_le _, hJJ⟩
 · repeat' first | exact trivial | refine ⟨rfl, ?_⟩
 · repeat' first | exact trivial | refine ⟨rfl, ?_⟩
 rintro ⟨⟨j, out⟩, hk, hn2, hR⟩
 show W _ _ _ _ _ ⟨[(4, .ptr 0 0), (11, .xs 1 (out.map Pc.c)), (71, .d (.v (.int .i64 ((j : Nat) : Int)))), (6, _), (69, _), (70, _)], [(0, [.d (.v (.slice none 0 0)), .d (.v (.slice none 0 0))])], [1], 2⟩
 refine W.seq (W.region (pE rfl (WO.nil (qs (W.seq (aY (l := srt) (k := j) rfl (by simp [Ex.aF, aH]) hk (fun p hx hd hlt => ?_) (fun he hd => ?_)))))))
 ·
  rw [hd] at hR
  simp only [fL] at hR
  have hsub : IntKind.i64.wrap (((out.map Pc.c).length : Int) - 1) = ((out.length : Int) - 1) := by rw [List.length_map, wrap64 (by omega)]
  have hla : ∀ h : decide (0 ≤ (out.length : Int) - 1) = true, 0 < out.length ∧ 0 ≤ (out.length : Int) - 1 ∧ (out.map Pc.c)[((out.length : Int) - 1).toNat]? = some (cN out).c := by
   intro h
   have h0 : 0 < out.length := by simp at h; omega
   refine ⟨h0, by omega, ?_⟩
   rw [show ((out.length : Int) - 1).toNat = out.length - 1 by omega]
   exact dr (by omega)
  refine W.skip (qs (W.seq (W.block (W.seq (W.region (pu (indexAddr aa rfl rfl rfl rfl rfl rfl (Int.natCast_nonneg _) (aD hx) rfl) rfl ?_))))))
  refine pE rfl (a7 aa rfl rfl rfl (aP aa rfl rfl rfl rfl rfl rfl rfl rfl (WO.nil (qs (W.seq (W.region (pE rfl (pu (sS aa rfl rfl rfl rfl) rfl ?_))))))))
  refine pu (bH (ev aa rfl) hsub) rfl ?_
  refine pE rfl (WO.nil (qs (W.seq ?_)))
  apply gp aa; (case hb => rfl); (case hB => kernel_rfl)
  ·
   iterate 3 refine ak (ev aa rfl) rfl ?_
   apply eG; (case hj => rfl); (case hl => rfl)
   ·
    intro g80
    refine aB rfl rfl (ev aa rfl) rfl ?_
    refine aB rfl rfl (ev aa rfl) rfl ?_
    refine aB rfl rfl (fR (l := (cN out).c) aa rfl rfl rfl rfl rfl rfl (hla g80).2.1 (hla g80).2.2 rfl) rfl ?_
    refine aB rfl rfl (dn aa rfl rfl rfl rfl rfl rfl) rfl ?_
    refine aB rfl rfl (ji aa rfl rfl rfl) rfl ?_
    refine aB rfl rfl (ev aa rfl) rfl ?_
    refine aB rfl rfl (ev aa rfl) rfl ?_
    refine aB rfl rfl (ah rfl rfl rfl (mC (cN out).key p.key) rfl) rfl ?_
    iterate 2 refine ak (ev aa rfl) rfl ?_
    apply eG; (case hj => rfl); (case hl => rfl)
    ·
     intro g90
     refine aB rfl rfl (ev aa rfl) rfl ?_
     refine aB rfl rfl (ev aa rfl) rfl ?_
     refine aB rfl rfl (ev aa rfl) rfl ?_
     refine aB rfl rfl (ev aa rfl) rfl ?_
     refine aB rfl rfl (ev aa rfl) rfl ?_
     refine aB rfl rfl (fR (l := (cN out).c) aa rfl rfl rfl rfl rfl rfl (hla g80).2.1 (hla g80).2.2 rfl) rfl ?_
     refine aB rfl rfl (dn aa rfl rfl rfl rfl rfl rfl) rfl ?_
     refine aB rfl rfl (dn aa rfl rfl rfl rfl rfl rfl) rfl ?_
     refine aB rfl rfl (ji aa rfl rfl rfl) rfl ?_
     refine aB rfl rfl (ev aa rfl) rfl ?_
     refine ak (ev aa rfl) rfl ?_
     refine CH.nil ?_
     refine ay rfl rfl rfl
    intro g90
    iterate 10 refine bt rfl rfl rfl rfl ?_
    refine ak (ev aa rfl) rfl ?_
    refine CH.nil ?_
    refine ay rfl rfl rfl
   intro g80
   iterate 8 refine bt rfl rfl rfl rfl ?_
   iterate 2 refine ak (ev aa rfl) rfl ?_
   iterate 10 refine bt rfl rfl rfl rfl ?_
   refine ak (ev aa rfl) rfl ?_
   refine CH.nil ?_
   refine ay rfl rfl rfl
  refine qs (an rfl (fun h101 => ?_) (fun h101 => ?_))
  ·
   have htp : et out p = true := by
    revert h101
    unfold et
    by_cases q : 0 < out.length
    ·
     have q1 : 0 ≤ (out.length : Int) - 1 := by omega
     have q2 : 1 ≤ (out.length : Int) := by omega
     simp [q, q1, q2]
    have q1 : ¬ (0 ≤ (out.length : Int) - 1) := by omega
    have q2 : ¬ (1 ≤ (out.length : Int)) := by omega
    simp [q, q1, q2]
   rw [if_pos htp] at hR
   have h0 : 0 < out.length := by unfold et at htp; simp at htp; exact htp.1
   have hk0 : 0 ≤ (out.length : Int) - 1 := by omega
   have hat : (out.map Pc.c)[((out.length : Int) - 1).toNat]? = some (cN out).c := by
    rw [show ((out.length : Int) - 1).toNat = out.length - 1 by omega]
    exact dr (by omega)
   have hset : (out.map Pc.c).set ((out.length : Int) - 1).toNat (kF (cN out) p).c = (out.set (out.length - 1) (kF (cN out) p)).map Pc.c := by
    rw [show ((out.length : Int) - 1).toNat = out.length - 1 by omega]
    exact gR
   refine W.fV aa [] [] [] [] 12 (by kernel_rfl) (by kernel_rfl) rfl rfl ?_
   refine' aZ (ev aa rfl) ?p_8 rfl rfl rfl (by kernel_rfl) rfl ?h_8
   case' h_8 => skip
   case p_8 => refine ⟨fun ha => (au ha (by kernel_rfl)).elim, ?_⟩ <;> intro ha <;> first | exact ⟨ev aa rfl, fun h => nomatch h⟩ | exact (au ha (by kernel_rfl)).elim
   refine' aZ (ev aa rfl) ?p_9 rfl rfl rfl (by kernel_rfl) rfl ?h_9
   case' h_9 => skip
   case p_9 => refine ⟨fun ha => (au ha (by kernel_rfl)).elim, ?_⟩ <;> intro ha <;> first | exact ⟨ev aa rfl, fun h => nomatch h⟩ | exact (au ha (by kernel_rfl)).elim
   refine' aZ (ev aa rfl) ?p_10 rfl rfl rfl (by kernel_rfl) rfl ?h_10
   case' h_10 => skip
   case p_10 => refine ⟨fun ha => (au ha (by kernel_rfl)).elim, ?_⟩ <;> intro ha <;> first | exact ⟨ev aa rfl, fun h => nomatch h⟩ | exact (au ha (by kernel_rfl)).elim
   refine' aZ (ev aa rfl) ?p_11 rfl rfl rfl (by kernel_rfl) rfl ?h_11
   case' h_11 => skip
   case p_11 => refine ⟨fun ha => (au ha (by kernel_rfl)).elim, ?_⟩ <;> intro ha <;> first | exact ⟨ev aa rfl, fun h => nomatch h⟩ | exact (au ha (by kernel_rfl)).elim
   refine' aZ (fR (l := (cN out).c) aa rfl rfl rfl rfl rfl rfl hk0 hat rfl) ?p_12 rfl rfl rfl (by kernel_rfl) rfl ?h_12
   case' h_12 => skip
   case p_12 => refine ⟨fun ha => (au ha (by kernel_rfl)).elim, ?_⟩ <;> intro ha <;> first | exact ⟨fR (l := (cN out).c) aa rfl rfl rfl rfl rfl rfl hk0 hat rfl, fun h => nomatch h⟩ | exact (au ha (by kernel_rfl)).elim
   refine' aZ (dn aa rfl rfl rfl rfl rfl rfl) ?p_13 rfl rfl rfl (by kernel_rfl) rfl ?h_13
   case' h_13 => skip
   case p_13 => refine ⟨fun ha => (au ha (by kernel_rfl)).elim, ?_⟩ <;> intro ha <;> first | exact ⟨dn aa rfl rfl rfl rfl rfl rfl, fun h => nomatch h⟩ | exact (au ha (by kernel_rfl)).elim
   refine' aZ (dn aa rfl rfl rfl rfl rfl rfl) ?p_14 rfl rfl rfl (by kernel_rfl) rfl ?h_14
   case' h_14 => skip
   case p_14 => refine ⟨fun ha => (au ha (by kernel_rfl)).elim, ?_⟩ <;> intro ha <;> first | exact ⟨dn aa rfl rfl rfl rfl rfl rfl, fun h => nomatch h⟩ | exact (au ha (by kernel_rfl)).elim
   refine' aZ (ji aa rfl rfl rfl) ?p_15 rfl rfl rfl (by kernel_rfl) rfl ?h_15
   case' h_15 => skip
   case p_15 => refine ⟨fun ha => (au ha (by kernel_rfl)).elim, ?_⟩ <;> intro ha <;> first | exact ⟨ji aa rfl rfl rfl, fun h => nomatch h⟩ | exact (au ha (by kernel_rfl)).elim
   refine' aZ (ev aa rfl) ?p_16 rfl rfl rfl (by kernel_rfl) rfl ?h_16
   case' h_16 => skip
   case p_16 => refine ⟨fun ha => (au ha (by kernel_rfl)).elim, ?_⟩ <;> intro ha <;> first | exact ⟨ev aa rfl, fun h => nomatch h⟩ | exact (au ha (by kernel_rfl)).elim
   refine' aZ (ev aa rfl) ?p_17 rfl rfl rfl (by kernel_rfl) rfl ?h_17
   case' h_17 => skip
   case p_17 => refine ⟨fun ha => (au ha (by kernel_rfl)).elim, ?_⟩ <;> intro ha <;> first | exact ⟨ev aa rfl, fun h => nomatch h⟩ | exact (au ha (by kernel_rfl)).elim
   refine' aZ (ev aa rfl) ?p_18 rfl rfl rfl (by kernel_rfl) rfl ?h_18
   case' h_18 => skip
   case p_18 => refine ⟨fun ha => (au ha (by kernel_rfl)).elim, ?_⟩ <;> intro ha <;> first | exact ⟨ev aa rfl, fun h => nomatch h⟩ | exact ⟨cX aa rfl rfl rfl rfl, fun h => nomatch h⟩ | exact ⟨cT aa rfl rfl rfl rfl rfl, fun h => nomatch h⟩ | exact (au ha (by kernel_rfl)).elim
   refine' aZ (ev aa rfl) ?p_19 rfl rfl rfl (by kernel_rfl) rfl ?h_19
   case' h_19 => skip
   case p_19 => refine ⟨fun ha => (au ha (by kernel_rfl)).elim, ?_⟩ <;> intro ha <;> first | exact ⟨ev aa rfl, fun h => nomatch h⟩ | exact (au ha (by kernel_rfl)).elim
   refine CD.nil ?_ rfl
   refine pu (fR (l := (cN out).c) aa rfl rfl rfl rfl rfl rfl hk0 hat rfl) rfl ?_
   refine pu (dn aa rfl rfl rfl rfl rfl rfl) rfl ?_
   refine pu (dn aa rfl rfl rfl rfl rfl rfl) rfl ?_
   refine oY aa 11 rfl rfl rfl rfl hat rfl rfl rfl rfl rfl rfl hset rfl ?_
   refine WO.nil (aV (qs (W.region ?_)))
   iterate 2 refine pE rfl ?_
   refine WO.nil ?_
   have hbr := htp
   (have _hb : et out p = true := hbr; refine W.aT [0, 3] ⟨(j + 1, out.set (out.length - 1) (kF (cN out) p)), ?_⟩ ?_ rfl ?_ ⟨rfl, rfl, rfl, rfl, rfl, rfl, trivial⟩ ?_ trivial rfl)
   · exact ⟨hlt, (by first | (rw [List.length_append]; simp; omega) | (rw [List.length_set]; omega)), hR⟩
   · dsimp only; omega
   · repeat' first | exact trivial | refine ⟨rfl, ?_⟩ | refine ⟨aC (by assumption) (by assumption), ?_⟩
   repeat' first | exact trivial | refine ⟨rfl, ?_⟩
  have htp : et out p = false := by
   revert h101
   unfold et
   by_cases q : 0 < out.length
   ·
    have q1 : 0 ≤ (out.length : Int) - 1 := by omega
    have q2 : 1 ≤ (out.length : Int) := by omega
    simp [q, q1, q2]
   have q1 : ¬ (0 ≤ (out.length : Int) - 1) := by omega
   have q2 : ¬ (1 ≤ (out.length : Int)) := by omega
   simp [q, q1, q2]
  rw [if_neg (by simp [htp])] at hR
  refine W.region (pE rfl (pE rfl (pu (aI aa rfl rfl rfl rfl rfl rfl rfl rfl rfl) rfl ?_)))
  refine iZ (es2 := [p.c]) (r := (out ++ [p]).map Pc.c) aa rfl rfl rfl rfl rfl rfl rfl rfl rfl rfl (iu _ _) (by rw [iu]; exact b8 _) (by show ((out.map Pc.c).length + 1) * 40 ≤ _; rw [List.length_map]; omega) rfl ?_
  refine pE rfl (WO.nil (aV (qs (W.region ?_))))
  iterate 2 refine pE rfl ?_
  refine WO.nil ?_
  have hbr := htp
  (have _hb : et out p = false := hbr; refine W.aT [0, 3] ⟨(j + 1, out ++ [p]), ?_⟩ ?_ rfl ?_ ⟨rfl, rfl, rfl, rfl, rfl, rfl, trivial⟩ ?_ trivial rfl)
  · exact ⟨hlt, (by first | (rw [List.length_append]; simp; omega) | (rw [List.length_set]; omega)), hR⟩
  · dsimp only; omega
  · repeat' first | exact trivial | refine ⟨rfl, ?_⟩ | refine ⟨aC (by assumption) (by assumption), ?_⟩
  repeat' first | exact trivial | refine ⟨rfl, ?_⟩
 rw [hd] at hR
 simp only [fL] at hR
 refine W.exit (aK (aN (aL (qs (W.seq (pC 11 rfl rfl rfl rfl ?_))))))
 refine nT 11 rfl rfl ?_
 refine W.region (pE rfl (pu (build aa rfl rfl rfl rfl) rfl ?_))
 refine a7 aa rfl rfl rfl (aP aa rfl rfl rfl rfl rfl rfl rfl rfl (WO.nil (qs ?_)))
 iterate 2 refine W.seq ?_
 refine W.region ?_
 iterate 3 refine pE rfl ?_
 refine WO.nil (qs (W.block (eZ 3 1 rfl rfl rfl ?_)))
 refine W.len (t := 124) rfl rfl (fun hlen => ?_)
 try simp only [List.length_map, Ex.aF] at hlen
 refine W.aS (ι := {x : Nat × List (List aO) // match x with | (k, rows) => k ≤ out.length ∧ rows = (out.take k).map jW})
  (fun x => match x.1 with | (k, rows) => [(4, .ptr 0 0), (19, .ptr 1 0), (126, .d (.v (.int .i64 ((k : Nat) : Int))))]) [(124, _), (125, _)]
  (fun x => match x.1 with | (k, rows) => [(0, [.d (.v (.slice none 0 0)), .d (.v (.slice none 0 0))]), (1, [.d (.sl (CT0.1.map Col.c)), .own 2 (rows.map rc)])]) [] [2] 3 (fun x => match x.1 with | (k, rows) => out.length - k)
  [0, 3, 4] ⟨(0, []), ?_⟩ rfl ?_ ⟨rfl, rfl, rfl, rfl, trivial⟩ ?_ trivial rfl ?_
 · exact ⟨Nat.zero_le _, rfl⟩
 · repeat' first | exact trivial | refine ⟨rfl, ?_⟩
 · repeat' first | exact trivial | refine ⟨rfl, ?_⟩
 rintro ⟨⟨k, rows⟩, hk, hW⟩
 show W _ _ _ _ _ ⟨[(4, .ptr 0 0), (19, .ptr 1 0), (126, .d (.v (.int .i64 ((k : Nat) : Int)))), (124, _), (125, _)], [(0, [.d (.v (.slice none 0 0)), .d (.v (.slice none 0 0))]), (1, [.d (.sl (CT0.1.map Col.c)), .own 2 (rows.map rc)])], [2], 3⟩
 refine W.seq (W.region (pE rfl (WO.nil (qs (W.seq (aY (l := out) (k := k) rfl (by simp [Ex.aF, aH]) hk (fun q hx hd hlt => ?_) (fun he hd => ?_)))))))
 ·
  have hq16 : q.key.length ≤ 16 := hkey q (by rw [← hR]; exact List.mem_of_getElem? hx)
  have hrl : rows.length ≤ 20000 := by rw [hW, List.length_map, List.length_take]; rw [← hR] at hJn; omega
  have hrow : q.key ++ [⟨2, q.fr, B #[]⟩, ⟨2, q.to, B #[]⟩] = jW q := rfl
  refine W.skip (qs (W.seq (W.block (W.seq (W.region (pu (indexAddr aa rfl rfl rfl rfl rfl rfl (Int.natCast_nonneg _) (aD hx) rfl) rfl ?_))))))
  refine pE rfl (a7 aa rfl rfl rfl (aP aa rfl rfl rfl rfl rfl rfl rfl rfl (WO.nil (qs ?_))))
  refine' W.fV aa [_, _] [[4, 2], [5, 2], [6, 5]] [5, 6, 7] [4, 14] 16 (by kernel_rfl) (by kernel_rfl) rfl rfl ?hL_20
  case' hL_20 => skip
  refine' aZ (ev aa rfl) ?p_21 rfl rfl rfl (by kernel_rfl) rfl ?h_21
  case' h_21 => skip
  refine' aZ (ev aa rfl) ?p_22 rfl rfl rfl (by kernel_rfl) rfl ?h_22
  case' h_22 => skip
  refine' aZ (ev aa rfl) ?p_23 rfl rfl rfl (by kernel_rfl) rfl ?h_23
  case' h_23 => skip
  refine' aZ (ev aa rfl) ?p_24 rfl rfl rfl (by kernel_rfl) rfl ?h_24
  case' h_24 => skip
  refine' lS ?x_25 rfl rfl rfl (by kernel_rfl) (fun h => (au h (by kernel_rfl)).elim) rfl ?h_25
  case x_25 =>
   intro b hb g; cases b
   · exact (au hb (by kernel_rfl)).elim
   refine fh rfl rfl rfl (kL q.key (by omega)) (by rfl) rfl rfl ?_
   refine WO.nil ?_
   refine' jD rfl ?_ ?_ ?_ ?_
   all_goals try exact rfl
  case' h_25 => skip
  refine' aZ (ev aa rfl) ?p_26 rfl rfl rfl (by kernel_rfl) rfl ?h_26
  case' h_26 => skip
  refine' aZ (ev aa rfl) ?p_27 rfl rfl rfl (by kernel_rfl) rfl ?h_27
  case' h_27 => skip
  refine' aZ (ev aa rfl) ?p_28 rfl rfl rfl (by kernel_rfl) rfl ?h_28
  case' h_28 => skip
  refine' aZ (build aa rfl rfl rfl rfl) ?p_29 rfl rfl rfl (by kernel_rfl) rfl ?h_29
  case' h_29 => skip
  refine' aZ (ev aa rfl) ?p_30 rfl rfl rfl (by kernel_rfl) rfl ?h_30
  case' h_30 => skip
  refine' aZ (ev aa rfl) ?p_31 rfl rfl rfl (by kernel_rfl) rfl ?h_31
  case' h_31 => skip
  refine' aZ (ev aa rfl) ?p_32 rfl rfl rfl (by kernel_rfl) rfl ?h_32
  case' h_32 => skip
  refine' aZ (build aa rfl rfl rfl rfl) ?p_33 rfl rfl rfl (by kernel_rfl) rfl ?h_33
  case' h_33 => skip
  refine' aZ (aI aa rfl rfl rfl rfl rfl rfl rfl rfl rfl) ?p_34 rfl rfl rfl (by kernel_rfl) rfl ?h_34
  case' h_34 => skip
  refine' lS ?x_35 rfl rfl rfl (by kernel_rfl) (fun h => (au h (by kernel_rfl)).elim) rfl ?h_35
  case x_35 =>
   intro b hb g; cases b
   · exact (au hb (by kernel_rfl)).elim
   refine cP (fn := aO.c) (l := q.key) (l2 := [⟨2, q.fr, B #[]⟩, ⟨2, q.to, B #[]⟩]) aa rfl rfl rfl rfl rfl rfl rfl rfl rfl rfl (fun _ => rfl) (by show (q.key.length + 2) * 32 ≤ _; omega) ?_
   refine WO.nil ?_
   refine' jD rfl ?_ ?_ ?_ ?_
   all_goals try exact rfl
  case' h_35 => skip
  case p_21 => refine ⟨fun ha => (au ha (by kernel_rfl)).elim, ?_, fun ha => (au ha (by kernel_rfl)).elim, ?_, fun ha => (au ha (by kernel_rfl)).elim, ?_⟩ <;> intro ha <;> first | exact ⟨ev aa rfl, fun h => nomatch h⟩ | exact (au ha (by kernel_rfl)).elim
  case p_22 => refine ⟨fun ha => (au ha (by kernel_rfl)).elim, ?_, fun ha => (au ha (by kernel_rfl)).elim, ?_, fun ha => (au ha (by kernel_rfl)).elim, ?_⟩ <;> intro ha <;> first | exact ⟨ev aa rfl, fun h => nomatch h⟩ | exact ⟨cX aa rfl rfl rfl rfl, fun h => nomatch h⟩ | exact ⟨cT aa rfl rfl rfl rfl rfl, fun h => nomatch h⟩ | exact (au ha (by kernel_rfl)).elim
  case p_23 => refine ⟨fun ha => (au ha (by kernel_rfl)).elim, ?_, fun ha => (au ha (by kernel_rfl)).elim, ?_, fun ha => (au ha (by kernel_rfl)).elim, ?_⟩ <;> intro ha <;> first | exact ⟨ev aa rfl, fun h => nomatch h⟩ | exact (au ha (by kernel_rfl)).elim
  case p_24 => refine ⟨fun ha => (au ha (by kernel_rfl)).elim, ?_, fun ha => (au ha (by kernel_rfl)).elim, ?_, fun ha => (au ha (by kernel_rfl)).elim, ?_⟩ <;> intro ha <;> first | exact ⟨ev aa rfl, fun h => nomatch h⟩ | exact ⟨cX aa rfl rfl rfl rfl, fun h => nomatch h⟩ | exact ⟨cT aa rfl rfl rfl rfl rfl, fun h => nomatch h⟩ | exact (au ha (by kernel_rfl)).elim
  case p_26 => refine ⟨fun ha => (au ha (by kernel_rfl)).elim, ?_, fun ha => (au ha (by kernel_rfl)).elim, ?_, fun ha => (au ha (by kernel_rfl)).elim, ?_⟩ <;> intro ha <;> first | exact ⟨ev aa rfl, fun h => nomatch h⟩ | exact (au ha (by kernel_rfl)).elim
  case p_27 => refine ⟨fun ha => (au ha (by kernel_rfl)).elim, ?_, fun ha => (au ha (by kernel_rfl)).elim, ?_, fun ha => (au ha (by kernel_rfl)).elim, ?_⟩ <;> intro ha <;> first | exact ⟨ev aa rfl, fun h => nomatch h⟩ | exact (au ha (by kernel_rfl)).elim
  case p_28 => refine ⟨fun ha => (au ha (by kernel_rfl)).elim, ?_, fun ha => (au ha (by kernel_rfl)).elim, ?_, fun ha => (au ha (by kernel_rfl)).elim, ?_⟩ <;> intro ha <;> first | exact ⟨ev aa rfl, fun h => nomatch h⟩ | exact ⟨cX aa rfl rfl rfl rfl, fun h => nomatch h⟩ | exact ⟨cT aa rfl rfl rfl rfl rfl, fun h => nomatch h⟩ | exact (au ha (by kernel_rfl)).elim
  case p_29 => refine ⟨fun ha => (au ha (by kernel_rfl)).elim, ?_, fun ha => (au ha (by kernel_rfl)).elim, ?_, fun ha => (au ha (by kernel_rfl)).elim, ?_⟩ <;> intro ha <;> first | exact ⟨build aa rfl rfl rfl rfl, fun h => nomatch h⟩ | exact (au ha (by kernel_rfl)).elim
  case p_30 => refine ⟨fun ha => (au ha (by kernel_rfl)).elim, ?_, fun ha => (au ha (by kernel_rfl)).elim, ?_, fun ha => (au ha (by kernel_rfl)).elim, ?_⟩ <;> intro ha <;> first | exact ⟨ev aa rfl, fun h => nomatch h⟩ | exact (au ha (by kernel_rfl)).elim
  case p_31 => refine ⟨fun ha => (au ha (by kernel_rfl)).elim, ?_, fun ha => (au ha (by kernel_rfl)).elim, ?_, fun ha => (au ha (by kernel_rfl)).elim, ?_⟩ <;> intro ha <;> first | exact ⟨ev aa rfl, fun h => nomatch h⟩ | exact (au ha (by kernel_rfl)).elim
  case p_32 => refine ⟨fun ha => (au ha (by kernel_rfl)).elim, ?_, fun ha => (au ha (by kernel_rfl)).elim, ?_, fun ha => (au ha (by kernel_rfl)).elim, ?_⟩ <;> intro ha <;> first | exact ⟨ev aa rfl, fun h => nomatch h⟩ | exact ⟨cX aa rfl rfl rfl rfl, fun h => nomatch h⟩ | exact ⟨cT aa rfl rfl rfl rfl rfl, fun h => nomatch h⟩ | exact (au ha (by kernel_rfl)).elim
  case p_33 => refine ⟨fun ha => (au ha (by kernel_rfl)).elim, ?_, fun ha => (au ha (by kernel_rfl)).elim, ?_, fun ha => (au ha (by kernel_rfl)).elim, ?_⟩ <;> intro ha <;> first | exact ⟨build aa rfl rfl rfl rfl, fun h => nomatch h⟩ | exact (au ha (by kernel_rfl)).elim
  case p_34 => refine ⟨fun ha => (au ha (by kernel_rfl)).elim, ?_, fun ha => (au ha (by kernel_rfl)).elim, ?_, fun ha => (au ha (by kernel_rfl)).elim, ?_⟩ <;> intro ha <;> first | exact ⟨aI aa rfl rfl rfl rfl rfl rfl rfl rfl rfl, fun h => nomatch h⟩ | exact (au ha (by kernel_rfl)).elim
  refine' aZ (aI aa rfl rfl rfl rfl rfl rfl rfl rfl rfl) ?p_36 rfl rfl rfl (by kernel_rfl) rfl ?h_36
  case' h_36 => skip
  case p_36 => refine ⟨fun ha => (au ha (by kernel_rfl)).elim, ?_, fun ha => (au ha (by kernel_rfl)).elim, ?_, fun ha => (au ha (by kernel_rfl)).elim, ?_⟩ <;> intro ha <;> first | exact ⟨aI aa rfl rfl rfl rfl rfl rfl rfl rfl rfl, fun h => nomatch h⟩ | exact (au ha (by kernel_rfl)).elim
  refine CD.nil ?_ rfl
  refine br (fn := rc) (a := jW q) aa rfl rfl rfl rfl rfl rfl rfl rfl rfl rfl (fun _ => rfl) (by show (rows.length + 1) * 24 ≤ _; omega) ?_
  refine pE rfl (aP aa rfl rfl rfl rfl rfl rfl rfl rfl (WO.nil (aV (qs (W.region ?_)))))
  iterate 2 refine pE rfl ?_
  refine WO.nil (W.aT [0, 1, 6] ⟨(k + 1, rows ++ [jW q]), ?_⟩ ?_ rfl ?_ ⟨rfl, rfl, rfl, rfl, trivial⟩ ?_ trivial rfl)
  · exact ⟨hlt, by rw [hW, List.take_add_one, hx]; simp⟩
  · dsimp only; omega
  · repeat' first | exact trivial | refine ⟨rfl, ?_⟩ | refine ⟨aC (by assumption) (by assumption), ?_⟩
  repeat' first | exact trivial | refine ⟨rfl, ?_⟩
 have hg : cv a on = (⟨CT0.1, rows⟩, 0) := by
  rw [hgo, hW, ← hR, List.take_of_length_le (by have := congrArg List.length hd; simp at this; omega)]
 refine W.exit (aK (aN (aL (qs (W.seq (W.region (pE rfl (aP aa rfl rfl rfl rfl rfl rfl rfl rfl (pE rfl (WO.nil (qs ?_)))))))))))
 try refine ck 1 0 rfl rfl rfl ?_
 try refine ck 1 1 rfl rfl rfl ?_
 refine W.ret (QV.ao aa trivial rfl ?_)
 (rw [hg]; rfl)
end Go.Proofs.YtjenenllmjlimaaGreat
namespace Go.Proofs.YtjenenllmjlimaaGreat
open Go.Ab Go.Tb
set_option maxRecDepth 10000
attribute [local irreducible] W WO Pu QS QB QL QF QV bQ CH QE
theorem qI (a : bC) (on : List ByteArray) (hon : on.length ≤ 400) (hpos : pieces (k9 a on) (bN a.cols aQ) (bN a.cols bP) a.rows = []) : ax Tryz.prog 13 [.ag a.c, .d (.sl (on.map sc))]
  (.tup [.ag (cv a on).1.c, .d (.v (.int .i64 (cv a on).2))]) 0 := by
 have hcol := jm 9 on [a] (by simp) hon
 rw [oL] at hcol
 obtain ⟨CT0, hCT⟩ : ∃ c, fO 9 on a = c := ⟨_, rfl⟩
 rw [hCT] at hcol
 obtain ⟨m0, hm0⟩ : ∃ i, bN a.cols aQ = i := ⟨_, rfl⟩
 obtain ⟨m1, hm1⟩ : ∃ i, bN a.cols bP = i := ⟨_, rfl⟩
 obtain ⟨left, hleft⟩ : ∃ l, k9 a on = l := ⟨_, rfl⟩
 rw [hm0, hm1, hleft] at hpos
 refine ax.fx aa (n := 150) (rs := [.cell 4 25, .tmp 5]) Tryz.func13 (by kernel_rfl) rfl Tryz.ntmps13 Tryz.results13 rfl fun C hC hG => ?_
 refine W.seq (W.region (be rfl rfl rfl (a7 aa rfl rfl rfl (pE rfl (WO.nil (qs (W.seq (W.region (pE rfl (pE rfl (pu (aI aa rfl rfl rfl rfl rfl rfl rfl rfl rfl) rfl ?_)))))))))))
 refine pu (ah rfl rfl rfl hcol rfl) rfl ?_
 iterate 5 refine pE rfl ?_
 refine WO.nil (qs ?_)
 iterate 2 refine W.seq ?_
 refine W.region ?_
 iterate 2 refine pE rfl ?_
 refine WO.nil (qs (an rfl (fun h30 => ?_) (fun h30 => ?_)))
 ·
  have he : CT0.2 ≠ 0 := by simpa using h30
  have hg : cv a on = (gh, CT0.2) := by unfold cv; rw [hCT, if_pos he]
  refine W.seq (W.region (pu (build aa rfl rfl rfl rfl) rfl ?_))
  refine pE rfl (aP aa rfl rfl rfl rfl rfl rfl rfl rfl (pE rfl (WO.nil (qs ?_))))
  try refine ck 1 0 rfl rfl rfl ?_
  try refine ck 1 1 rfl rfl rfl ?_
  refine W.ret (ae (QV.ao aa trivial rfl ?_))
  (rw [hg]; rfl)
 have he : CT0.2 = 0 := by simpa using h30
 have hok := vF (by rw [hCT]; exact he)
 have hoo := wT hok
 have haz := dq hok.ga
 have hol := hok.len
 have hra := eM hok.ga
 obtain ⟨srt, hsrt⟩ : ∃ s, eU bA (pieces left m0 m1 a.rows) = s := ⟨_, rfl⟩
 obtain ⟨J, hJJ⟩ : ∃ s, fL [] srt = s := ⟨_, rfl⟩
 have hgo : cv a on = (⟨CT0.1, J.map jW⟩, 0) := by unfold cv qV; rw [hCT, if_neg (by simp [he]), hleft, hm0, hm1, hsrt, hJJ]
 have hpl : ax Tryz.prog 21 [.ag a.c, .d (.sl (on.map sc))] (.d (.sl (left.map nc))) 0 := by
  have := eD a on (by omega)
  rw [fY (fun s hs => by obtain ⟨i, c, h1, _⟩ := hok.ons s hs; exact ⟨i, h1⟩)] at this
  rw [← hleft]; exact this
 have hpm : ax Tryz.prog 21 [.ag a.c, .d (.sl ([aQ, bP].map sc))] (.d (.sl ([m0, m1].map nc))) 0 := by
  have := eD a [aQ, bP] (by simp)
  rw [fY (fun s hs => by
   rcases List.mem_cons.1 hs with rfl | hs
   · obtain ⟨i, c, h1, _⟩ := hok.fr; exact ⟨i, h1⟩
   rcases List.mem_cons.1 hs with rfl | hs
   · obtain ⟨i, c, h1, _⟩ := hok.to; exact ⟨i, h1⟩
   cases hs)] at this
  rw [← hm0, ← hm1]; exact this
 have hll : left.length ≤ 16 := by rw [← hleft]; show (on.map _).length ≤ _; rw [List.length_map]; exact hol
 rw [show on.map (bN a.cols) = left from hleft, hm0, hm1] at hoo
 refine W.skip (qs (W.seq (W.bd aa (by kernel_rfl) ?_)))
 refine ak (ev aa rfl) rfl ?_
 refine ak (ev aa rfl) rfl ?_
 refine ak (ah rfl rfl rfl hpl rfl) rfl ?_
 refine ak (ev aa rfl) rfl ?_
 refine ak (aI aa rfl rfl rfl rfl rfl rfl rfl rfl rfl) rfl ?_
 refine ak (ah rfl rfl rfl hpm rfl) rfl ?_
 iterate 2 refine ak (ev aa rfl) rfl ?_
 refine CH.nil ?_
 refine qs (W.seq (W.region ?_))
 iterate 2 refine pE rfl ?_
 refine WO.nil (qs ?_)
 iterate 2 refine W.seq ?_
 refine W.region (pE rfl (pE rfl ?_))
 iterate 2 refine pE rfl ?_
 refine WO.nil (qs (W.block (W.mK (d := 10) rfl rfl ?_)))
 refine W.len (t := 40) rfl rfl (fun hlen => ?_)
 try simp only [List.length_map, Ex.aF] at hlen
 refine W.aS (ι := {x : Nat × List Pc // match x with | (i, L) => i ≤ a.rows.length ∧ L.length ≤ i ∧ L ++ pieces left m0 m1 (a.rows.drop i) = pieces left m0 m1 a.rows})
  (fun x => match x.1 with | (i, L) => [(4, .ptr 0 0), (10, .xs 1 (L.map Pc.c)), (42, .d (.v (.int .i64 ((i : Nat) : Int))))]) [(6, _), (8, _), (9, _), (11, _), (40, _), (41, _)]
  (fun x => match x.1 with | (i, L) => [(0, [.d (.v (.slice none 0 0)), .d (.v (.slice none 0 0))])]) [] [1] 2 (fun x => match x.1 with | (i, L) => a.rows.length - i)
  [1, 2] ⟨(0, []), ?_⟩ rfl ?_ ⟨rfl, rfl, rfl, rfl, rfl, rfl, rfl, rfl, rfl, rfl, rfl, rfl, trivial⟩ ?_ trivial rfl ?_
 · exact ⟨Nat.zero_le _, Nat.zero_le _, rfl⟩
 · repeat' first | exact trivial | refine ⟨rfl, ?_⟩
 · repeat' first | exact trivial | refine ⟨rfl, ?_⟩
 rintro ⟨⟨i, L⟩, hk, hn, hI⟩
 show W _ _ _ _ _ ⟨[(4, .ptr 0 0), (10, .xs 1 (L.map Pc.c)), (42, .d (.v (.int .i64 ((i : Nat) : Int)))), (6, _), (8, _), (9, _), (11, _), (40, _), (41, _)], [(0, [.d (.v (.slice none 0 0)), .d (.v (.slice none 0 0))])], [1], 2⟩
 refine W.seq (W.region (pE rfl (WO.nil (qs (W.seq (aY (l := a.rows) (k := i) rfl (by simp [Ex.aF, aH]) hk (fun z hx hd hlt => ?_) (fun he hd => ?_)))))))
 ·
  rw [hd] at hI
  simp only [pieces] at hI
  have hxm := List.mem_of_getElem? hx
  have hxl := (hra z hxm).1
  have hsx := mN z m0 m1 (by rw [hxl]; exact hoo.m0) (by rw [hxl]; exact hoo.m1)
  have hpx := im z left (by omega) (fun q hq => by rw [hxl]; exact hoo.left q hq)
  refine W.skip (qs (W.seq (W.block (W.seq (W.region (pu (indexAddr aa rfl rfl rfl rfl rfl rfl (Int.natCast_nonneg _) (aD hx) rfl) rfl ?_))))))
  refine pE rfl (pE rfl (WO.nil (qs (W.seq (W.region ?_)))))
  iterate 2 refine pE rfl ?_
  refine pu (ah rfl rfl rfl hsx rfl) rfl ?_
  iterate 3 refine pE rfl ?_
  refine a7 aa rfl rfl rfl (aP aa rfl rfl rfl rfl rfl rfl rfl rfl (pE rfl (WO.nil (qs (W.seq ?_)))))
  apply aE; (case hb => rfl)
  ·
   iterate 2 refine pE rfl ?_
   apply e5; (case hj => rfl); (case hl => rfl)
   ·
    intro g53
    refine ab rfl rfl (pE rfl (ab rfl rfl (pE rfl (ab rfl rfl ?_))))
    iterate 2 refine pE rfl ?_
    refine WO.nil (ay rfl rfl rfl)
   intro g53
   iterate 3 refine aq rfl rfl rfl rfl ?_
   refine pE rfl (WO.nil (ay rfl rfl rfl))
  refine qs (an rfl (fun h57 => ?_) (fun h57 => ?_))
  ·
   have hin : kY z m0 m1 = true := by
    revert h57
    unfold kY
    cases eg z m0 m1 <;> simp
   rw [if_pos hin] at hI
   refine W.fV aa [] [] [] [] 7 (by kernel_rfl) (by kernel_rfl) rfl rfl ?_
   refine' aZ (ev aa rfl) ?p_1 rfl rfl rfl (by kernel_rfl) rfl ?h_1
   case' h_1 => skip
   case p_1 => refine ⟨fun ha => (au ha (by kernel_rfl)).elim, ?_⟩ <;> intro ha <;> first | exact ⟨ev aa rfl, fun h => nomatch h⟩ | exact (au ha (by kernel_rfl)).elim
   refine' aZ (ev aa rfl) ?p_2 rfl rfl rfl (by kernel_rfl) rfl ?h_2
   case' h_2 => skip
   case p_2 => refine ⟨fun ha => (au ha (by kernel_rfl)).elim, ?_⟩ <;> intro ha <;> first | exact ⟨ev aa rfl, fun h => nomatch h⟩ | exact (au ha (by kernel_rfl)).elim
   refine' aZ (ev aa rfl) ?p_3 rfl rfl rfl (by kernel_rfl) rfl ?h_3
   case' h_3 => skip
   case p_3 => refine ⟨fun ha => (au ha (by kernel_rfl)).elim, ?_⟩ <;> intro ha <;> first | exact ⟨ev aa rfl, fun h => nomatch h⟩ | exact (au ha (by kernel_rfl)).elim
   refine' aZ (ah rfl rfl rfl hpx rfl) ?p_4 rfl rfl rfl (by kernel_rfl) rfl ?h_4
   case' h_4 => skip
   case p_4 => refine ⟨fun ha => (au ha (by kernel_rfl)).elim, ?_⟩ <;> intro ha <;> first | exact ⟨ah rfl rfl rfl hpx rfl, fun h => nomatch h⟩ | exact (au ha (by kernel_rfl)).elim
   refine' aZ (ev aa rfl) ?p_5 rfl rfl rfl (by kernel_rfl) rfl ?h_5
   case' h_5 => skip
   case p_5 => refine ⟨fun ha => (au ha (by kernel_rfl)).elim, ?_⟩ <;> intro ha <;> first | exact ⟨ev aa rfl, fun h => nomatch h⟩ | exact ⟨cX aa rfl rfl rfl rfl, fun h => nomatch h⟩ | exact ⟨cT aa rfl rfl rfl rfl rfl, fun h => nomatch h⟩ | exact (au ha (by kernel_rfl)).elim
   refine' aZ (build aa rfl rfl rfl rfl) ?p_6 rfl rfl rfl (by kernel_rfl) rfl ?h_6
   case' h_6 => skip
   case p_6 => refine ⟨fun ha => (au ha (by kernel_rfl)).elim, ?_⟩ <;> intro ha <;> first | exact ⟨build aa rfl rfl rfl rfl, fun h => nomatch h⟩ | exact (au ha (by kernel_rfl)).elim
   refine' aZ (aI aa rfl rfl rfl rfl rfl rfl rfl rfl rfl) ?p_7 rfl rfl rfl (by kernel_rfl) rfl ?h_7
   case' h_7 => skip
   case p_7 => refine ⟨fun ha => (au ha (by kernel_rfl)).elim, ?_⟩ <;> intro ha <;> first | exact ⟨aI aa rfl rfl rfl rfl rfl rfl rfl rfl rfl, fun h => nomatch h⟩ | exact (au ha (by kernel_rfl)).elim
   refine CD.nil ?_ rfl
   refine iZ (es2 := [(nC left m0 m1 z).c]) (r := (L ++ [nC left m0 m1 z]).map Pc.c) aa rfl rfl rfl rfl rfl rfl rfl rfl rfl rfl (iu _ _) (by rw [iu]; exact b8 _) (by show ((L.map Pc.c).length + 1) * 40 ≤ _; rw [List.length_map]; omega) rfl ?_
   refine pE rfl (WO.nil (aV (qs (W.region ?_))))
   iterate 2 refine pE rfl ?_
   refine WO.nil ?_
   have hbr := hin
   (have _hb : kY z m0 m1 = true := hbr; refine W.aT [0, 3] ⟨(i + 1, L ++ [nC left m0 m1 z]), ?_⟩ ?_ rfl ?_ ⟨rfl, rfl, rfl, rfl, rfl, rfl, rfl, rfl, rfl, rfl, rfl, rfl, trivial⟩ ?_ trivial rfl)
   · exact ⟨hlt, (by first | (rw [List.length_append]; simp; omega) | omega), (by first | exact hI | (rw [List.append_assoc]; exact hI))⟩
   · dsimp only; omega
   · repeat' first | exact trivial | refine ⟨rfl, ?_⟩ | refine ⟨aC (by assumption) (by assumption), ?_⟩
   repeat' first | exact trivial | refine ⟨rfl, ?_⟩
  have hin : kY z m0 m1 = false := by
   revert h57
   unfold kY
   cases eg z m0 m1 <;> simp
  rw [if_neg (by simp [hin])] at hI
  refine W.skip (aV (qs (W.region ?_)))
  iterate 2 refine pE rfl ?_
  refine WO.nil ?_
  have hbr := hin
  (have _hb : kY z m0 m1 = false := hbr; refine W.aT [0, 1] ⟨(i + 1, L), ?_⟩ ?_ rfl ?_ ⟨rfl, rfl, rfl, rfl, rfl, rfl, rfl, rfl, rfl, rfl, rfl, rfl, trivial⟩ ?_ trivial rfl)
  · exact ⟨hlt, (by first | (rw [List.length_append]; simp; omega) | omega), (by first | exact hI | (rw [List.append_assoc]; exact hI))⟩
  · dsimp only; omega
  · repeat' first | exact trivial | refine ⟨rfl, ?_⟩ | refine ⟨aC (by assumption) (by assumption), ?_⟩
  repeat' first | exact trivial | refine ⟨rfl, ?_⟩
 rw [hd] at hI
 simp only [pieces, List.append_nil] at hI
 rw [← hI] at hpos hsrt
 have hL2 : L.length ≤ 20000 := by omega
 have hst : eU bA L = srt := hsrt
 have hsl0 : srt.length = L.length := by rw [← hst]; exact (gV bA L).len
 have hkey : ∀ p ∈ J, p.key.length ≤ 16 := by
  have h1 : ∀ p ∈ srt, p.key.length = left.length := fun p hp => by
   have h2 : p ∈ L := by rw [← hst] at hp; exact (gV bA L).perm.mem_iff.1 hp
   rw [hI] at h2
   exact jO left m0 m1 a.rows p h2
  intro p hp
  rw [← hJJ] at hp
  have := kO srt [] h1 (fun p hp => nomatch hp) p hp
  omega
 have hJn : J.length ≤ 20000 := by rw [← hJJ]; have := ky srt []; simp at this; omega
 refine W.exit (aK (aN (aL (qs (W.seq ?_)))))
 have hL0 : L = [] := hpos
 subst hL0
 have hs0 : srt = [] := List.length_eq_zero_iff.1 hsl0
 subst hs0
 refine pC 10 rfl rfl rfl rfl ?_
 refine nT 10 rfl rfl ?_
 refine W.region (pE rfl (pu (ah rfl rfl rfl o9 rfl) rfl ?_))
 refine WO.nil (qs ?_)
 iterate 2 refine W.seq ?_
 refine W.region ?_
 iterate 3 refine pE rfl ?_
 refine WO.nil (qs (W.block (W.mK (d := 11) rfl rfl ?_)))
 have hsm : ([] : List Pc).length ≤ maxLen := by simp only [maxLen]; omega
 refine W.aS (ι := {x : Nat × List Pc // match x with | (j, out) => j ≤ ([] : List Pc).length ∧ out.length ≤ j ∧ fL out (([] : List Pc).drop j) = J})
  (fun x => match x.1 with | (j, out) => [(4, .ptr 0 0), (11, .xs 1 (out.map Pc.c)), (71, .d (.v (.int .i64 ((j : Nat) : Int))))]) [(6, _), (69, _), (70, _)]
  (fun x => match x.1 with | (j, out) => [(0, [.d (.v (.slice none 0 0)), .d (.v (.slice none 0 0))])]) [] [1] 2 (fun x => match x.1 with | (j, out) => ([] : List Pc).length - j)
  [0, 3] ⟨(0, []), ?_⟩ rfl ?_ ⟨rfl, rfl, rfl, rfl, rfl, rfl, trivial⟩ ?_ trivial rfl ?_
 · exact ⟨Nat.zero_le _, Nat.zero_le _, hJJ⟩
 · repeat' first | exact trivial | refine ⟨rfl, ?_⟩
 · repeat' first | exact trivial | refine ⟨rfl, ?_⟩
 rintro ⟨⟨j, out⟩, hk, hn2, hR⟩
 show W _ _ _ _ _ ⟨[(4, .ptr 0 0), (11, .xs 1 (out.map Pc.c)), (71, .d (.v (.int .i64 ((j : Nat) : Int)))), (6, _), (69, _), (70, _)], [(0, [.d (.v (.slice none 0 0)), .d (.v (.slice none 0 0))])], [1], 2⟩
 refine W.seq (W.region (pE rfl (WO.nil (qs (W.seq (aY (l := ([] : List Pc)) (k := j) rfl (by simp [Ex.aF, aH]) hk (fun p hx hd hlt => ?_) (fun he hd => ?_)))))))
 ·
  rw [hd] at hR
  simp only [fL] at hR
  have hsub : IntKind.i64.wrap (((out.map Pc.c).length : Int) - 1) = ((out.length : Int) - 1) := by rw [List.length_map, wrap64 (by omega)]
  have hla : ∀ h : decide (0 ≤ (out.length : Int) - 1) = true, 0 < out.length ∧ 0 ≤ (out.length : Int) - 1 ∧ (out.map Pc.c)[((out.length : Int) - 1).toNat]? = some (cN out).c := by
   intro h
   have h0 : 0 < out.length := by simp at h; omega
   refine ⟨h0, by omega, ?_⟩
   rw [show ((out.length : Int) - 1).toNat = out.length - 1 by omega]
   exact dr (by omega)
  refine W.skip (qs (W.seq (W.block (W.seq (W.region (pu (indexAddr aa rfl rfl rfl rfl rfl rfl (Int.natCast_nonneg _) (aD hx) rfl) rfl ?_))))))
  refine pE rfl (a7 aa rfl rfl rfl (aP aa rfl rfl rfl rfl rfl rfl rfl rfl (WO.nil (qs (W.seq (W.region (pE rfl (pu (sS aa rfl rfl rfl rfl) rfl ?_))))))))
  refine pu (bH (ev aa rfl) hsub) rfl ?_
  refine pE rfl (WO.nil (qs (W.seq ?_)))
  apply gp aa; (case hb => rfl); (case hB => kernel_rfl)
  ·
   iterate 3 refine ak (ev aa rfl) rfl ?_
   apply eG; (case hj => rfl); (case hl => rfl)
   ·
    intro g80
    refine aB rfl rfl (ev aa rfl) rfl ?_
    refine aB rfl rfl (ev aa rfl) rfl ?_
    refine aB rfl rfl (fR (l := (cN out).c) aa rfl rfl rfl rfl rfl rfl (hla g80).2.1 (hla g80).2.2 rfl) rfl ?_
    refine aB rfl rfl (dn aa rfl rfl rfl rfl rfl rfl) rfl ?_
    refine aB rfl rfl (ji aa rfl rfl rfl) rfl ?_
    refine aB rfl rfl (ev aa rfl) rfl ?_
    refine aB rfl rfl (ev aa rfl) rfl ?_
    refine aB rfl rfl (ah rfl rfl rfl (mC (cN out).key p.key) rfl) rfl ?_
    iterate 2 refine ak (ev aa rfl) rfl ?_
    apply eG; (case hj => rfl); (case hl => rfl)
    ·
     intro g90
     refine aB rfl rfl (ev aa rfl) rfl ?_
     refine aB rfl rfl (ev aa rfl) rfl ?_
     refine aB rfl rfl (ev aa rfl) rfl ?_
     refine aB rfl rfl (ev aa rfl) rfl ?_
     refine aB rfl rfl (ev aa rfl) rfl ?_
     refine aB rfl rfl (fR (l := (cN out).c) aa rfl rfl rfl rfl rfl rfl (hla g80).2.1 (hla g80).2.2 rfl) rfl ?_
     refine aB rfl rfl (dn aa rfl rfl rfl rfl rfl rfl) rfl ?_
     refine aB rfl rfl (dn aa rfl rfl rfl rfl rfl rfl) rfl ?_
     refine aB rfl rfl (ji aa rfl rfl rfl) rfl ?_
     refine aB rfl rfl (ev aa rfl) rfl ?_
     refine ak (ev aa rfl) rfl ?_
     refine CH.nil ?_
     refine ay rfl rfl rfl
    intro g90
    iterate 10 refine bt rfl rfl rfl rfl ?_
    refine ak (ev aa rfl) rfl ?_
    refine CH.nil ?_
    refine ay rfl rfl rfl
   intro g80
   iterate 8 refine bt rfl rfl rfl rfl ?_
   iterate 2 refine ak (ev aa rfl) rfl ?_
   iterate 10 refine bt rfl rfl rfl rfl ?_
   refine ak (ev aa rfl) rfl ?_
   refine CH.nil ?_
   refine ay rfl rfl rfl
  refine qs (an rfl (fun h101 => ?_) (fun h101 => ?_))
  ·
   have htp : et out p = true := by
    revert h101
    unfold et
    by_cases q : 0 < out.length
    ·
     have q1 : 0 ≤ (out.length : Int) - 1 := by omega
     have q2 : 1 ≤ (out.length : Int) := by omega
     simp [q, q1, q2]
    have q1 : ¬ (0 ≤ (out.length : Int) - 1) := by omega
    have q2 : ¬ (1 ≤ (out.length : Int)) := by omega
    simp [q, q1, q2]
   rw [if_pos htp] at hR
   have h0 : 0 < out.length := by unfold et at htp; simp at htp; exact htp.1
   have hk0 : 0 ≤ (out.length : Int) - 1 := by omega
   have hat : (out.map Pc.c)[((out.length : Int) - 1).toNat]? = some (cN out).c := by
    rw [show ((out.length : Int) - 1).toNat = out.length - 1 by omega]
    exact dr (by omega)
   have hset : (out.map Pc.c).set ((out.length : Int) - 1).toNat (kF (cN out) p).c = (out.set (out.length - 1) (kF (cN out) p)).map Pc.c := by
    rw [show ((out.length : Int) - 1).toNat = out.length - 1 by omega]
    exact gR
   refine W.fV aa [] [] [] [] 12 (by kernel_rfl) (by kernel_rfl) rfl rfl ?_
   refine' aZ (ev aa rfl) ?p_8 rfl rfl rfl (by kernel_rfl) rfl ?h_8
   case' h_8 => skip
   case p_8 => refine ⟨fun ha => (au ha (by kernel_rfl)).elim, ?_⟩ <;> intro ha <;> first | exact ⟨ev aa rfl, fun h => nomatch h⟩ | exact (au ha (by kernel_rfl)).elim
   refine' aZ (ev aa rfl) ?p_9 rfl rfl rfl (by kernel_rfl) rfl ?h_9
   case' h_9 => skip
   case p_9 => refine ⟨fun ha => (au ha (by kernel_rfl)).elim, ?_⟩ <;> intro ha <;> first | exact ⟨ev aa rfl, fun h => nomatch h⟩ | exact (au ha (by kernel_rfl)).elim
   refine' aZ (ev aa rfl) ?p_10 rfl rfl rfl (by kernel_rfl) rfl ?h_10
   case' h_10 => skip
   case p_10 => refine ⟨fun ha => (au ha (by kernel_rfl)).elim, ?_⟩ <;> intro ha <;> first | exact ⟨ev aa rfl, fun h => nomatch h⟩ | exact (au ha (by kernel_rfl)).elim
   refine' aZ (ev aa rfl) ?p_11 rfl rfl rfl (by kernel_rfl) rfl ?h_11
   case' h_11 => skip
   case p_11 => refine ⟨fun ha => (au ha (by kernel_rfl)).elim, ?_⟩ <;> intro ha <;> first | exact ⟨ev aa rfl, fun h => nomatch h⟩ | exact (au ha (by kernel_rfl)).elim
   refine' aZ (fR (l := (cN out).c) aa rfl rfl rfl rfl rfl rfl hk0 hat rfl) ?p_12 rfl rfl rfl (by kernel_rfl) rfl ?h_12
   case' h_12 => skip
   case p_12 => refine ⟨fun ha => (au ha (by kernel_rfl)).elim, ?_⟩ <;> intro ha <;> first | exact ⟨fR (l := (cN out).c) aa rfl rfl rfl rfl rfl rfl hk0 hat rfl, fun h => nomatch h⟩ | exact (au ha (by kernel_rfl)).elim
   refine' aZ (dn aa rfl rfl rfl rfl rfl rfl) ?p_13 rfl rfl rfl (by kernel_rfl) rfl ?h_13
   case' h_13 => skip
   case p_13 => refine ⟨fun ha => (au ha (by kernel_rfl)).elim, ?_⟩ <;> intro ha <;> first | exact ⟨dn aa rfl rfl rfl rfl rfl rfl, fun h => nomatch h⟩ | exact (au ha (by kernel_rfl)).elim
   refine' aZ (dn aa rfl rfl rfl rfl rfl rfl) ?p_14 rfl rfl rfl (by kernel_rfl) rfl ?h_14
   case' h_14 => skip
   case p_14 => refine ⟨fun ha => (au ha (by kernel_rfl)).elim, ?_⟩ <;> intro ha <;> first | exact ⟨dn aa rfl rfl rfl rfl rfl rfl, fun h => nomatch h⟩ | exact (au ha (by kernel_rfl)).elim
   refine' aZ (ji aa rfl rfl rfl) ?p_15 rfl rfl rfl (by kernel_rfl) rfl ?h_15
   case' h_15 => skip
   case p_15 => refine ⟨fun ha => (au ha (by kernel_rfl)).elim, ?_⟩ <;> intro ha <;> first | exact ⟨ji aa rfl rfl rfl, fun h => nomatch h⟩ | exact (au ha (by kernel_rfl)).elim
   refine' aZ (ev aa rfl) ?p_16 rfl rfl rfl (by kernel_rfl) rfl ?h_16
   case' h_16 => skip
   case p_16 => refine ⟨fun ha => (au ha (by kernel_rfl)).elim, ?_⟩ <;> intro ha <;> first | exact ⟨ev aa rfl, fun h => nomatch h⟩ | exact (au ha (by kernel_rfl)).elim
   refine' aZ (ev aa rfl) ?p_17 rfl rfl rfl (by kernel_rfl) rfl ?h_17
   case' h_17 => skip
   case p_17 => refine ⟨fun ha => (au ha (by kernel_rfl)).elim, ?_⟩ <;> intro ha <;> first | exact ⟨ev aa rfl, fun h => nomatch h⟩ | exact (au ha (by kernel_rfl)).elim
   refine' aZ (ev aa rfl) ?p_18 rfl rfl rfl (by kernel_rfl) rfl ?h_18
   case' h_18 => skip
   case p_18 => refine ⟨fun ha => (au ha (by kernel_rfl)).elim, ?_⟩ <;> intro ha <;> first | exact ⟨ev aa rfl, fun h => nomatch h⟩ | exact ⟨cX aa rfl rfl rfl rfl, fun h => nomatch h⟩ | exact ⟨cT aa rfl rfl rfl rfl rfl, fun h => nomatch h⟩ | exact (au ha (by kernel_rfl)).elim
   refine' aZ (ev aa rfl) ?p_19 rfl rfl rfl (by kernel_rfl) rfl ?h_19
   case' h_19 => skip
   case p_19 => refine ⟨fun ha => (au ha (by kernel_rfl)).elim, ?_⟩ <;> intro ha <;> first | exact ⟨ev aa rfl, fun h => nomatch h⟩ | exact (au ha (by kernel_rfl)).elim
   refine CD.nil ?_ rfl
   refine pu (fR (l := (cN out).c) aa rfl rfl rfl rfl rfl rfl hk0 hat rfl) rfl ?_
   refine pu (dn aa rfl rfl rfl rfl rfl rfl) rfl ?_
   refine pu (dn aa rfl rfl rfl rfl rfl rfl) rfl ?_
   refine oY aa 11 rfl rfl rfl rfl hat rfl rfl rfl rfl rfl rfl hset rfl ?_
   refine WO.nil (aV (qs (W.region ?_)))
   iterate 2 refine pE rfl ?_
   refine WO.nil ?_
   have hbr := htp
   (have _hb : et out p = true := hbr; refine W.aT [0, 3] ⟨(j + 1, out.set (out.length - 1) (kF (cN out) p)), ?_⟩ ?_ rfl ?_ ⟨rfl, rfl, rfl, rfl, rfl, rfl, trivial⟩ ?_ trivial rfl)
   · exact ⟨hlt, (by first | (rw [List.length_append]; simp; omega) | (rw [List.length_set]; omega)), hR⟩
   · dsimp only; omega
   · repeat' first | exact trivial | refine ⟨rfl, ?_⟩ | refine ⟨aC (by assumption) (by assumption), ?_⟩
   repeat' first | exact trivial | refine ⟨rfl, ?_⟩
  have htp : et out p = false := by
   revert h101
   unfold et
   by_cases q : 0 < out.length
   ·
    have q1 : 0 ≤ (out.length : Int) - 1 := by omega
    have q2 : 1 ≤ (out.length : Int) := by omega
    simp [q, q1, q2]
   have q1 : ¬ (0 ≤ (out.length : Int) - 1) := by omega
   have q2 : ¬ (1 ≤ (out.length : Int)) := by omega
   simp [q, q1, q2]
  rw [if_neg (by simp [htp])] at hR
  refine W.region (pE rfl (pE rfl (pu (aI aa rfl rfl rfl rfl rfl rfl rfl rfl rfl) rfl ?_)))
  refine iZ (es2 := [p.c]) (r := (out ++ [p]).map Pc.c) aa rfl rfl rfl rfl rfl rfl rfl rfl rfl rfl (iu _ _) (by rw [iu]; exact b8 _) (by show ((out.map Pc.c).length + 1) * 40 ≤ _; rw [List.length_map]; omega) rfl ?_
  refine pE rfl (WO.nil (aV (qs (W.region ?_))))
  iterate 2 refine pE rfl ?_
  refine WO.nil ?_
  have hbr := htp
  (have _hb : et out p = false := hbr; refine W.aT [0, 3] ⟨(j + 1, out ++ [p]), ?_⟩ ?_ rfl ?_ ⟨rfl, rfl, rfl, rfl, rfl, rfl, trivial⟩ ?_ trivial rfl)
  · exact ⟨hlt, (by first | (rw [List.length_append]; simp; omega) | (rw [List.length_set]; omega)), hR⟩
  · dsimp only; omega
  · repeat' first | exact trivial | refine ⟨rfl, ?_⟩ | refine ⟨aC (by assumption) (by assumption), ?_⟩
  repeat' first | exact trivial | refine ⟨rfl, ?_⟩
 rw [hd] at hR
 simp only [fL] at hR
 refine W.exit (aK (aN (aL (qs (W.seq (pC 11 rfl rfl rfl rfl ?_))))))
 refine nT 11 rfl rfl ?_
 refine W.region (pE rfl (pu (build aa rfl rfl rfl rfl) rfl ?_))
 refine a7 aa rfl rfl rfl (aP aa rfl rfl rfl rfl rfl rfl rfl rfl (WO.nil (qs ?_)))
 iterate 2 refine W.seq ?_
 refine W.region ?_
 iterate 3 refine pE rfl ?_
 refine WO.nil (qs (W.block (eZ 3 1 rfl rfl rfl ?_)))
 refine W.len (t := 124) rfl rfl (fun hlen => ?_)
 try simp only [List.length_map, Ex.aF] at hlen
 refine W.aS (ι := {x : Nat × List (List aO) // match x with | (k, rows) => k ≤ out.length ∧ rows = (out.take k).map jW})
  (fun x => match x.1 with | (k, rows) => [(4, .ptr 0 0), (19, .ptr 1 0), (126, .d (.v (.int .i64 ((k : Nat) : Int))))]) [(124, _), (125, _)]
  (fun x => match x.1 with | (k, rows) => [(0, [.d (.v (.slice none 0 0)), .d (.v (.slice none 0 0))]), (1, [.d (.sl (CT0.1.map Col.c)), .own 2 (rows.map rc)])]) [] [2] 3 (fun x => match x.1 with | (k, rows) => out.length - k)
  [0, 3, 4] ⟨(0, []), ?_⟩ rfl ?_ ⟨rfl, rfl, rfl, rfl, trivial⟩ ?_ trivial rfl ?_
 · exact ⟨Nat.zero_le _, rfl⟩
 · repeat' first | exact trivial | refine ⟨rfl, ?_⟩
 · repeat' first | exact trivial | refine ⟨rfl, ?_⟩
 rintro ⟨⟨k, rows⟩, hk, hW⟩
 show W _ _ _ _ _ ⟨[(4, .ptr 0 0), (19, .ptr 1 0), (126, .d (.v (.int .i64 ((k : Nat) : Int)))), (124, _), (125, _)], [(0, [.d (.v (.slice none 0 0)), .d (.v (.slice none 0 0))]), (1, [.d (.sl (CT0.1.map Col.c)), .own 2 (rows.map rc)])], [2], 3⟩
 refine W.seq (W.region (pE rfl (WO.nil (qs (W.seq (aY (l := out) (k := k) rfl (by simp [Ex.aF, aH]) hk (fun q hx hd hlt => ?_) (fun he hd => ?_)))))))
 ·
  have hq16 : q.key.length ≤ 16 := hkey q (by rw [← hR]; exact List.mem_of_getElem? hx)
  have hrl : rows.length ≤ 20000 := by rw [hW, List.length_map, List.length_take]; rw [← hR] at hJn; omega
  have hrow : q.key ++ [⟨2, q.fr, B #[]⟩, ⟨2, q.to, B #[]⟩] = jW q := rfl
  refine W.skip (qs (W.seq (W.block (W.seq (W.region (pu (indexAddr aa rfl rfl rfl rfl rfl rfl (Int.natCast_nonneg _) (aD hx) rfl) rfl ?_))))))
  refine pE rfl (a7 aa rfl rfl rfl (aP aa rfl rfl rfl rfl rfl rfl rfl rfl (WO.nil (qs ?_))))
  refine' W.fV aa [_, _] [[4, 2], [5, 2], [6, 5]] [5, 6, 7] [4, 14] 16 (by kernel_rfl) (by kernel_rfl) rfl rfl ?hL_20
  case' hL_20 => skip
  refine' aZ (ev aa rfl) ?p_21 rfl rfl rfl (by kernel_rfl) rfl ?h_21
  case' h_21 => skip
  refine' aZ (ev aa rfl) ?p_22 rfl rfl rfl (by kernel_rfl) rfl ?h_22
  case' h_22 => skip
  refine' aZ (ev aa rfl) ?p_23 rfl rfl rfl (by kernel_rfl) rfl ?h_23
  case' h_23 => skip
  refine' aZ (ev aa rfl) ?p_24 rfl rfl rfl (by kernel_rfl) rfl ?h_24
  case' h_24 => skip
  refine' lS ?x_25 rfl rfl rfl (by kernel_rfl) (fun h => (au h (by kernel_rfl)).elim) rfl ?h_25
  case x_25 =>
   intro b hb g; cases b
   · exact (au hb (by kernel_rfl)).elim
   refine fh rfl rfl rfl (kL q.key (by omega)) (by rfl) rfl rfl ?_
   refine WO.nil ?_
   refine' jD rfl ?_ ?_ ?_ ?_
   all_goals try exact rfl
  case' h_25 => skip
  refine' aZ (ev aa rfl) ?p_26 rfl rfl rfl (by kernel_rfl) rfl ?h_26
  case' h_26 => skip
  refine' aZ (ev aa rfl) ?p_27 rfl rfl rfl (by kernel_rfl) rfl ?h_27
  case' h_27 => skip
  refine' aZ (ev aa rfl) ?p_28 rfl rfl rfl (by kernel_rfl) rfl ?h_28
  case' h_28 => skip
  refine' aZ (build aa rfl rfl rfl rfl) ?p_29 rfl rfl rfl (by kernel_rfl) rfl ?h_29
  case' h_29 => skip
  refine' aZ (ev aa rfl) ?p_30 rfl rfl rfl (by kernel_rfl) rfl ?h_30
  case' h_30 => skip
  refine' aZ (ev aa rfl) ?p_31 rfl rfl rfl (by kernel_rfl) rfl ?h_31
  case' h_31 => skip
  refine' aZ (ev aa rfl) ?p_32 rfl rfl rfl (by kernel_rfl) rfl ?h_32
  case' h_32 => skip
  refine' aZ (build aa rfl rfl rfl rfl) ?p_33 rfl rfl rfl (by kernel_rfl) rfl ?h_33
  case' h_33 => skip
  refine' aZ (aI aa rfl rfl rfl rfl rfl rfl rfl rfl rfl) ?p_34 rfl rfl rfl (by kernel_rfl) rfl ?h_34
  case' h_34 => skip
  refine' lS ?x_35 rfl rfl rfl (by kernel_rfl) (fun h => (au h (by kernel_rfl)).elim) rfl ?h_35
  case x_35 =>
   intro b hb g; cases b
   · exact (au hb (by kernel_rfl)).elim
   refine cP (fn := aO.c) (l := q.key) (l2 := [⟨2, q.fr, B #[]⟩, ⟨2, q.to, B #[]⟩]) aa rfl rfl rfl rfl rfl rfl rfl rfl rfl rfl (fun _ => rfl) (by show (q.key.length + 2) * 32 ≤ _; omega) ?_
   refine WO.nil ?_
   refine' jD rfl ?_ ?_ ?_ ?_
   all_goals try exact rfl
  case' h_35 => skip
  case p_21 => refine ⟨fun ha => (au ha (by kernel_rfl)).elim, ?_, fun ha => (au ha (by kernel_rfl)).elim, ?_, fun ha => (au ha (by kernel_rfl)).elim, ?_⟩ <;> intro ha <;> first | exact ⟨ev aa rfl, fun h => nomatch h⟩ | exact (au ha (by kernel_rfl)).elim
  case p_22 => refine ⟨fun ha => (au ha (by kernel_rfl)).elim, ?_, fun ha => (au ha (by kernel_rfl)).elim, ?_, fun ha => (au ha (by kernel_rfl)).elim, ?_⟩ <;> intro ha <;> first | exact ⟨ev aa rfl, fun h => nomatch h⟩ | exact ⟨cX aa rfl rfl rfl rfl, fun h => nomatch h⟩ | exact ⟨cT aa rfl rfl rfl rfl rfl, fun h => nomatch h⟩ | exact (au ha (by kernel_rfl)).elim
  case p_23 => refine ⟨fun ha => (au ha (by kernel_rfl)).elim, ?_, fun ha => (au ha (by kernel_rfl)).elim, ?_, fun ha => (au ha (by kernel_rfl)).elim, ?_⟩ <;> intro ha <;> first | exact ⟨ev aa rfl, fun h => nomatch h⟩ | exact (au ha (by kernel_rfl)).elim
  case p_24 => refine ⟨fun ha => (au ha (by kernel_rfl)).elim, ?_, fun ha => (au ha (by kernel_rfl)).elim, ?_, fun ha => (au ha (by kernel_rfl)).elim, ?_⟩ <;> intro ha <;> first | exact ⟨ev aa rfl, fun h => nomatch h⟩ | exact ⟨cX aa rfl rfl rfl rfl, fun h => nomatch h⟩ | exact ⟨cT aa rfl rfl rfl rfl rfl, fun h => nomatch h⟩ | exact (au ha (by kernel_rfl)).elim
  case p_26 => refine ⟨fun ha => (au ha (by kernel_rfl)).elim, ?_, fun ha => (au ha (by kernel_rfl)).elim, ?_, fun ha => (au ha (by kernel_rfl)).elim, ?_⟩ <;> intro ha <;> first | exact ⟨ev aa rfl, fun h => nomatch h⟩ | exact (au ha (by kernel_rfl)).elim
  case p_27 => refine ⟨fun ha => (au ha (by kernel_rfl)).elim, ?_, fun ha => (au ha (by kernel_rfl)).elim, ?_, fun ha => (au ha (by kernel_rfl)).elim, ?_⟩ <;> intro ha <;> first | exact ⟨ev aa rfl, fun h => nomatch h⟩ | exact (au ha (by kernel_rfl)).elim
  case p_28 => refine ⟨fun ha => (au ha (by kernel_rfl)).elim, ?_, fun ha => (au ha (by kernel_rfl)).elim, ?_, fun ha => (au ha (by kernel_rfl)).elim, ?_⟩ <;> intro ha <;> first | exact ⟨ev aa rfl, fun h => nomatch h⟩ | exact ⟨cX aa rfl rfl rfl rfl, fun h => nomatch h⟩ | exact ⟨cT aa rfl rfl rfl rfl rfl, fun h => nomatch h⟩ | exact (au ha (by kernel_rfl)).elim
  case p_29 => refine ⟨fun ha => (au ha (by kernel_rfl)).elim, ?_, fun ha => (au ha (by kernel_rfl)).elim, ?_, fun ha => (au ha (by kernel_rfl)).elim, ?_⟩ <;> intro ha <;> first | exact ⟨build aa rfl rfl rfl rfl, fun h => nomatch h⟩ | exact (au ha (by kernel_rfl)).elim
  case p_30 => refine ⟨fun ha => (au ha (by kernel_rfl)).elim, ?_, fun ha => (au ha (by kernel_rfl)).elim, ?_, fun ha => (au ha (by kernel_rfl)).elim, ?_⟩ <;> intro ha <;> first | exact ⟨ev aa rfl, fun h => nomatch h⟩ | exact (au ha (by kernel_rfl)).elim
  case p_31 => refine ⟨fun ha => (au ha (by kernel_rfl)).elim, ?_, fun ha => (au ha (by kernel_rfl)).elim, ?_, fun ha => (au ha (by kernel_rfl)).elim, ?_⟩ <;> intro ha <;> first | exact ⟨ev aa rfl, fun h => nomatch h⟩ | exact (au ha (by kernel_rfl)).elim
  case p_32 => refine ⟨fun ha => (au ha (by kernel_rfl)).elim, ?_, fun ha => (au ha (by kernel_rfl)).elim, ?_, fun ha => (au ha (by kernel_rfl)).elim, ?_⟩ <;> intro ha <;> first | exact ⟨ev aa rfl, fun h => nomatch h⟩ | exact ⟨cX aa rfl rfl rfl rfl, fun h => nomatch h⟩ | exact ⟨cT aa rfl rfl rfl rfl rfl, fun h => nomatch h⟩ | exact (au ha (by kernel_rfl)).elim
  case p_33 => refine ⟨fun ha => (au ha (by kernel_rfl)).elim, ?_, fun ha => (au ha (by kernel_rfl)).elim, ?_, fun ha => (au ha (by kernel_rfl)).elim, ?_⟩ <;> intro ha <;> first | exact ⟨build aa rfl rfl rfl rfl, fun h => nomatch h⟩ | exact (au ha (by kernel_rfl)).elim
  case p_34 => refine ⟨fun ha => (au ha (by kernel_rfl)).elim, ?_, fun ha => (au ha (by kernel_rfl)).elim, ?_, fun ha => (au ha (by kernel_rfl)).elim, ?_⟩ <;> intro ha <;> first | exact ⟨aI aa rfl rfl rfl rfl rfl rfl rfl rfl rfl, fun h => nomatch h⟩ | exact (au ha (by kernel_rfl)).elim
  refine' aZ (aI aa rfl rfl rfl rfl rfl rfl rfl rfl rfl) ?p_36 rfl rfl rfl (by kernel_rfl) rfl ?h_36
  case' h_36 => skip
  case p_36 => refine ⟨fun ha => (au ha (by kernel_rfl)).elim, ?_, fun ha => (au ha (by kernel_rfl)).elim, ?_, fun ha => (au ha (by kernel_rfl)).elim, ?_⟩ <;> intro ha <;> first | exact ⟨aI aa rfl rfl rfl rfl rfl rfl rfl rfl rfl, fun h => nomatch h⟩ | exact (au ha (by kernel_rfl)).elim
  refine CD.nil ?_ rfl
  refine br (fn := rc) (a := jW q) aa rfl rfl rfl rfl rfl rfl rfl rfl rfl rfl (fun _ => rfl) (by show (rows.length + 1) * 24 ≤ _; omega) ?_
  refine pE rfl (aP aa rfl rfl rfl rfl rfl rfl rfl rfl (WO.nil (aV (qs (W.region ?_)))))
  iterate 2 refine pE rfl ?_
  refine WO.nil (W.aT [0, 1, 6] ⟨(k + 1, rows ++ [jW q]), ?_⟩ ?_ rfl ?_ ⟨rfl, rfl, rfl, rfl, trivial⟩ ?_ trivial rfl)
  · exact ⟨hlt, by rw [hW, List.take_add_one, hx]; simp⟩
  · dsimp only; omega
  · repeat' first | exact trivial | refine ⟨rfl, ?_⟩ | refine ⟨aC (by assumption) (by assumption), ?_⟩
  repeat' first | exact trivial | refine ⟨rfl, ?_⟩
 have hg : cv a on = (⟨CT0.1, rows⟩, 0) := by
  rw [hgo, hW, ← hR, List.take_of_length_le (by have := congrArg List.length hd; simp at this; omega)]
 refine W.exit (aK (aN (aL (qs (W.seq (W.region (pE rfl (aP aa rfl rfl rfl rfl rfl rfl rfl rfl (pE rfl (WO.nil (qs ?_)))))))))))
 try refine ck 1 0 rfl rfl rfl ?_
 try refine ck 1 1 rfl rfl rfl ?_
 refine W.ret (QV.ao aa trivial rfl ?_)
 (rw [hg]; rfl)
theorem rC (a : bC) (on : List ByteArray) (hon : on.length ≤ 400) : ax Tryz.prog 13 [.ag a.c, .d (.sl (on.map sc))]
  (.tup [.ag (cv a on).1.c, .d (.v (.int .i64 (cv a on).2))]) 0 := by
 rcases Nat.eq_zero_or_pos (pieces (k9 a on) (bN a.cols aQ) (bN a.cols bP) a.rows).length with h | h
 · exact qI a on hon (List.length_eq_zero_iff.1 h)
 exact qJ a on hon h
end Go.Proofs.YtjenenllmjlimaaGreat
namespace Go.Proofs.YtjenenllmjlimaaGreat
open Go.Ab Go.Tb
set_option maxRecDepth 10000
attribute [local irreducible] W WO Pu QS QB QL QF QV bQ CH QE
theorem cw (n : Int) : ax Tryz.prog 18 [.d (.v (.int .i64 n))] (.ag (cZ n).c) 0 := by
 refine ax.fx aa (n := 5) (rs := [.cell 2 39]) Tryz.func18 (by kernel_rfl) rfl Tryz.ntmps18 Tryz.results18 rfl fun C hC hG => ?_
 refine W.seq (W.region (a7 aa rfl rfl rfl (WO.nil (qs (W.seq (W.region (pE rfl (pu (build aa rfl rfl rfl rfl) rfl ?_))))))))
 refine aP aa rfl rfl rfl rfl rfl rfl rfl rfl (WO.nil (qs (W.ret (QV.ao aa trivial rfl ?_))))
 rfl
theorem kv (s : ByteArray) : ax Tryz.prog 17 [.d (.v (.string s))] (.ag (mX s).c) 0 := by
 refine ax.fx aa (n := 5) (rs := [.cell 2 39]) Tryz.func17 (by kernel_rfl) rfl Tryz.ntmps17 Tryz.results17 rfl fun C hC hG => ?_
 refine W.seq (W.region (a7 aa rfl rfl rfl (WO.nil (qs (W.seq (W.region (pE rfl (pu (build aa rfl rfl rfl rfl) rfl ?_))))))))
 refine aP aa rfl rfl rfl rfl rfl rfl rfl rfl (WO.nil (qs (W.ret (QV.ao aa trivial rfl ?_))))
 rfl
theorem eE (l : List Int) (h : l.length ≤ 100000) : ax Tryz.prog 19 [.d (.sl (l.map ic))] (.d (.sl ((l.map cZ).map aO.c))) 0 := by
 have hlm : l.length ≤ maxLen := by simp only [maxLen]; omega
 refine ax.aR (n := 20) (ts := [2]) Tryz.func19 (by kernel_rfl) rfl Tryz.ntmps19 Tryz.results19 rfl rfl fun C hC hG => ?_
 refine W.seq (W.region (pE rfl (WO.nil (qs (W.seq (W.region (pE rfl (WO.nil (qs ?_)))))))))
 iterate 2 refine W.seq ?_
 refine W.region (pE rfl (WO.nil (qs (W.block (aG (d := 3) rfl rfl ?_)))))
 refine W.aS (ι := {x : Nat × List aO // match x with | (k, out) => k ≤ l.length ∧ out = (l.take k).map cZ})
  (fun x => match x.1 with | (k, out) => [(3, .own 0 (out.map aO.c)), (4, .d (.v (.int .i64 ((k : Nat) : Int))))]) [(0, _)]
  (fun x => match x.1 with | (k, out) => []) [] [0] 1 (fun x => match x.1 with | (k, out) => l.length - k)
  [0] ⟨(0, []), ?_⟩ rfl ?_ ⟨rfl, rfl, trivial⟩ ?_ trivial rfl ?_
 · exact ⟨Nat.zero_le _, rfl⟩
 · repeat' first | exact trivial | refine ⟨rfl, ?_⟩
 · repeat' exact trivial
 rintro ⟨⟨k, out⟩, hk, hI⟩
 show W _ _ _ _ _ ⟨[(3, .own 0 (out.map aO.c)), (4, .d (.v (.int .i64 ((k : Nat) : Int)))), (0, _)], [], [0], 1⟩
 iterate 2 refine W.seq ?_
 refine W.region ?_
 iterate 4 refine pE rfl ?_
 refine WO.nil (qs (aY (l := l) (k := k) rfl (by simp [Ex.aF, aH]) hk (fun s hx hd hlt => ?_) (fun he hd => ?_)))
 ·
  have hol : out.length ≤ k := by rw [hI]; simp; omega
  refine W.skip (qs (W.seq (W.block (W.region ?_))))
  iterate 3 refine pE rfl ?_
  refine pu (indexAddr aa rfl rfl rfl rfl rfl rfl (Int.natCast_nonneg _) (aD (by assumption)) rfl) rfl ?_
  refine pE rfl (pu (ah rfl rfl rfl ((cw _)) rfl) rfl ?_)
  refine pu (aI aa rfl rfl rfl rfl rfl rfl rfl rfl rfl) rfl ?_
  refine br (fn := aO.c) (a := cZ s) aa rfl rfl rfl rfl rfl rfl rfl rfl rfl rfl (fun _ => rfl) (by show (out.length + 1) * 32 ≤ _; omega) ?_
  refine pE rfl (WO.nil (aV (qs (W.region ?_))))
  iterate 3 refine pE rfl ?_
  refine WO.nil (W.aT [1] ⟨(k + 1, out ++ [cZ s]), ?_⟩ ?_ rfl ?_ ⟨rfl, rfl, trivial⟩ ?_ trivial rfl)
  · exact ⟨hlt, by rw [hI, List.take_add_one, hx]; simp⟩
  · dsimp only; omega
  · repeat' first | exact trivial | refine ⟨rfl, ?_⟩ | refine ⟨aC (by assumption) (by assumption), ?_⟩
  repeat' exact trivial
 have hfin : out = l.map cZ := by rw [hI, List.take_of_length_le (by have := congrArg List.length hd; simp at this; omega)]
 refine W.exit (aK (aN (aL (qs (W.seq (W.region ?_))))))
 iterate 2 refine pE rfl ?_
 refine WO.nil (qs (W.ret (QF.ao trivial rfl ?_)))
 simp only [norm, az]; rw [hfin]; rfl
theorem ku (l : List ByteArray) (h : l.length ≤ 100000) : ax Tryz.prog 16 [.d (.sl (l.map sc))] (.d (.sl ((l.map fI).map Col.c))) 0 := by
 have hlm : l.length ≤ maxLen := by simp only [maxLen]; omega
 refine ax.aR (n := 28) (ts := [2]) Tryz.func16 (by kernel_rfl) rfl Tryz.ntmps16 Tryz.results16 rfl rfl fun C hC hG => ?_
 refine W.seq (W.region (pE rfl (WO.nil (qs (W.seq (W.region (pE rfl (WO.nil (qs ?_)))))))))
 iterate 2 refine W.seq ?_
 refine W.region (pE rfl (WO.nil (qs (W.block (aG (d := 3) rfl rfl ?_)))))
 refine W.aS (ι := {x : Nat × List Col // match x with | (k, out) => k ≤ l.length ∧ out = (l.take k).map fI})
  (fun x => match x.1 with | (k, out) => [(3, .own 0 (out.map Col.c)), (4, .d (.v (.int .i64 ((k : Nat) : Int))))]) [(0, _)]
  (fun x => match x.1 with | (k, out) => []) [] [0] 1 (fun x => match x.1 with | (k, out) => l.length - k)
  [0] ⟨(0, []), ?_⟩ rfl ?_ ⟨rfl, rfl, trivial⟩ ?_ trivial rfl ?_
 · exact ⟨Nat.zero_le _, rfl⟩
 · repeat' first | exact trivial | refine ⟨rfl, ?_⟩
 · repeat' exact trivial
 rintro ⟨⟨k, out⟩, hk, hI⟩
 show W _ _ _ _ _ ⟨[(3, .own 0 (out.map Col.c)), (4, .d (.v (.int .i64 ((k : Nat) : Int)))), (0, _)], [], [0], 1⟩
 iterate 2 refine W.seq ?_
 refine W.region ?_
 iterate 4 refine pE rfl ?_
 refine WO.nil (qs (aY (l := l) (k := k) rfl (by simp [Ex.aF, aH]) hk (fun s hx hd hlt => ?_) (fun he hd => ?_)))
 ·
  have hol : out.length ≤ k := by rw [hI]; simp; omega
  refine W.skip (qs (W.seq (W.block (W.seq (W.region ?_)))))
  iterate 2 refine pE rfl ?_
  refine pu (indexAddr aa rfl rfl rfl rfl rfl rfl (Int.natCast_nonneg _) (aD (by assumption)) rfl) rfl ?_
  refine pE rfl (pu (build aa rfl rfl rfl rfl) rfl ?_)
  refine a7 aa rfl rfl rfl (aP aa rfl rfl rfl rfl rfl rfl rfl rfl (WO.nil (qs ?_)))
  iterate 2 refine W.seq ?_
  refine W.region ?_
  iterate 2 refine pE rfl ?_
  refine pu (indexAddr aa rfl rfl rfl rfl rfl rfl (Int.natCast_nonneg _) (aD (by assumption)) rfl) rfl ?_
  refine pE rfl (pE rfl (WO.nil (qs (an rfl (fun h21 => ?_) (fun h21 => ?_)))))
  ·
   have hs : s = B #[107] := by simpa using h21
   have hlc : fI s = ⟨s, 3⟩ := by unfold fI; rw [if_pos hs]
   refine W.region (pE rfl (aP aa rfl rfl rfl rfl rfl rfl rfl rfl (WO.nil (qs (W.region (pE rfl (pE rfl (pu (aI aa rfl rfl rfl rfl rfl rfl rfl rfl rfl) rfl ?_))))))))
   refine br (fn := Col.c) (a := fI s) aa rfl rfl (by rw [hlc]; rfl) rfl rfl rfl rfl rfl rfl rfl (fun _ => rfl) (by show (out.length + 1) * 24 ≤ _; omega) ?_
   refine pE rfl (WO.nil (aV (qs (W.region ?_))))
   iterate 3 refine pE rfl ?_
   refine WO.nil (W.aT [2] ⟨(k + 1, out ++ [fI s]), ?_⟩ ?_ rfl ?_ ⟨rfl, rfl, trivial⟩ ?_ trivial rfl)
   · exact ⟨hlt, by rw [hI, List.take_add_one, hx]; simp⟩
   · dsimp only; omega
   · repeat' first | exact trivial | refine ⟨rfl, ?_⟩ | refine ⟨aC (by assumption) (by assumption), ?_⟩
   repeat' exact trivial
  have hs : ¬ s = B #[107] := by simpa using h21
  have hlc : fI s = ⟨s, 2⟩ := by unfold fI; rw [if_neg hs]
  refine W.skip (qs (W.region (pE rfl (pE rfl (pu (aI aa rfl rfl rfl rfl rfl rfl rfl rfl rfl) rfl ?_)))))
  refine br (fn := Col.c) (a := fI s) aa rfl rfl (by rw [hlc]; rfl) rfl rfl rfl rfl rfl rfl rfl (fun _ => rfl) (by show (out.length + 1) * 24 ≤ _; omega) ?_
  refine pE rfl (WO.nil (aV (qs (W.region ?_))))
  iterate 3 refine pE rfl ?_
  refine WO.nil (W.aT [2] ⟨(k + 1, out ++ [fI s]), ?_⟩ ?_ rfl ?_ ⟨rfl, rfl, trivial⟩ ?_ trivial rfl)
  · exact ⟨hlt, by rw [hI, List.take_add_one, hx]; simp⟩
  · dsimp only; omega
  · repeat' first | exact trivial | refine ⟨rfl, ?_⟩ | refine ⟨aC (by assumption) (by assumption), ?_⟩
  repeat' exact trivial
 have hfin : out = l.map fI := by rw [hI, List.take_of_length_le (by have := congrArg List.length hd; simp at this; omega)]
 refine W.exit (aK (aN (aL (qs (W.seq (W.region ?_))))))
 iterate 2 refine pE rfl ?_
 refine WO.nil (qs (W.ret (QF.ao trivial rfl ?_)))
 simp only [norm, az]; rw [hfin]; rfl
theorem tO (a b : List aO) : ax Tryz.prog 52 [.d (.sl (a.map aO.c)), .d (.sl (b.map aO.c))] (.d (.v (.bool (decide (a = b))))) 0 := by
 refine ax.aR (n := 26) (ts := [4]) Tryz.func52 (by kernel_rfl) rfl Tryz.ntmps52 Tryz.results52 rfl rfl fun C hC hG => ?_
 refine W.seq (W.region (pE rfl (WO.nil (qs ?_))))
 iterate 2 refine W.seq ?_
 refine W.region ?_
 iterate 5 refine pE rfl ?_
 refine WO.nil (qs (an rfl (fun h10 => ?_) (fun h10 => ?_)))
 ·
  have hg : decide (a = b) = false := decide_eq_false (by rintro rfl; simp at h10)
  refine W.seq (W.region (pE rfl (WO.nil (qs (W.ret (ae (QF.ao trivial rfl ?_)))))))
  rw [hg]; rfl
 have hl2 : a.length = b.length := by simp at h10; omega
 refine W.skip (qs ?_)
 iterate 2 refine W.seq ?_
 refine W.region (pE rfl (WO.nil (qs (W.block (W.len (t := 0) rfl rfl (fun hlen => ?_))))))
 try simp only [List.length_map, Ex.aF] at hlen
 refine W.aS (ι := {x : Nat // match x with | k => k ≤ a.length ∧ (a.drop k = b.drop k ↔ a = b)})
  (fun x => match x.1 with | k => [(5, .d (.v (.int .i64 ((k : Nat) : Int))))]) [(0, _), (1, _)]
  (fun x => match x.1 with | k => []) [] [] 0 (fun x => match x.1 with | k => a.length - k)
  [] ⟨0, ?_⟩ rfl ?_ ⟨rfl, rfl, rfl, rfl, trivial⟩ ?_ trivial rfl ?_
 · exact ⟨Nat.zero_le _, by simp⟩
 · repeat' first | exact trivial | refine ⟨rfl, ?_⟩
 · repeat' exact trivial
 rintro ⟨k, hk, hI⟩
 show W _ _ _ _ _ ⟨[(5, .d (.v (.int .i64 ((k : Nat) : Int)))), (0, _), (1, _)], [], [], 0⟩
 iterate 2 refine W.seq ?_
 refine W.region ?_
 iterate 4 refine pE rfl ?_
 refine WO.nil (qs (aY (l := a) (k := k) rfl (by simp [Ex.aF, aH]) hk (fun x hx hd hlt => ?_) (fun he hd => ?_)))
 ·
  obtain ⟨y, hy⟩ : ∃ y, b[k]? = some y := ⟨b[k]'(by omega), by simp⟩
  have hd2 : b.drop k = y :: b.drop (k + 1) := by
   have hlt2 : k < b.length := by omega
   have := List.drop_eq_getElem_cons hlt2
   rw [this, (List.getElem?_eq_some_iff.1 hy).2]
  rw [hd, hd2] at hI
  refine W.skip (qs (W.seq (W.block (W.seq (W.bd aa (by kernel_rfl) ?_)))))
  iterate 2 refine ak (ev aa rfl) rfl ?_
  refine ak (indexAddr aa rfl rfl rfl rfl rfl rfl (Int.natCast_nonneg _) (aD hx) rfl) rfl ?_
  refine ak (ev aa rfl) rfl ?_
  iterate 2 refine ak (ev aa rfl) rfl ?_
  refine ak (indexAddr (l := y.c) aa rfl rfl rfl rfl rfl rfl (Int.natCast_nonneg _) (aD hy) rfl) rfl ?_
  refine ak (ev aa rfl) rfl ?_
  refine ak (ev aa rfl) rfl ?_
  refine CH.nil ?_
  refine qs (an rfl (fun h25 => ?_) (fun h25 => ?_))
  ·
   have hxy : x ≠ y := by rintro rfl; simp at h25
   have hg : decide (a = b) = false := decide_eq_false (fun q => by have := hI.2 q; simp at this; exact hxy this.1)
   refine W.seq (W.region (pE rfl (WO.nil (qs (W.ret (ar (ae (aX (ar (ae (QF.ao trivial rfl ?_)))))))))))
   rw [hg]; rfl
  have hxy : x = y := by
   have := kM (a := x) (b := y)
   exact of_decide_eq_true (by rw [← this]; simpa using h25)
  have hn : a.drop (k + 1) = b.drop (k + 1) ↔ a = b := by rw [← hI, hxy]; simp
  refine W.skip (aV (qs (W.region ?_)))
  iterate 3 refine pE rfl ?_
  refine WO.nil (W.aT [] ⟨k + 1, ?_⟩ ?_ rfl ?_ ⟨rfl, rfl, rfl, rfl, trivial⟩ ?_ trivial rfl)
  · exact ⟨hlt, hn⟩
  · dsimp only; omega
  · repeat' first | exact trivial | refine ⟨aC (by assumption) (by assumption), ?_⟩
  repeat' exact trivial
 have hd2 : b.drop k = [] := List.drop_eq_nil_of_le (by have := congrArg List.length hd; simp at this; omega)
 rw [hd, hd2] at hI
 have hg : decide (a = b) = true := decide_eq_true (hI.1 rfl)
 refine W.exit (aK (aN (aL (qs (W.seq (W.region (pE rfl (WO.nil (qs (W.ret (QF.ao trivial rfl ?_)))))))))))
 rw [hg]; rfl
theorem tp (a b : List aO) : ax Tryz.prog 33 [.d (.sl (a.map aO.c)), .d (.sl (b.map aO.c))] (.d (.v (.bool (decide (a = b))))) 0 := by
 refine ax.aR (n := 8) (ts := [4]) Tryz.func33 (by kernel_rfl) rfl Tryz.ntmps33 Tryz.results33 rfl rfl fun C hC hG => ?_
 refine W.seq (W.region (pE rfl (WO.nil (qs (W.seq (W.region ?_))))))
 iterate 2 refine pE rfl ?_
 refine pu (ah rfl rfl rfl (tO a b) rfl) rfl ?_
 refine pE rfl (WO.nil (qs (W.ret (QF.ao trivial rfl ?_))))
 rfl
theorem pO (t : bC) : ax Tryz.prog 15 [.ag t.c] (.d (.v (.bool (kt t)))) 0 := by
 refine ax.aR (n := 36) (ts := [2]) Tryz.func15 (by kernel_rfl) rfl Tryz.ntmps15 Tryz.results15 rfl rfl fun C hC hG => ?_
 refine W.seq (W.region (be rfl rfl rfl (pE rfl (WO.nil (qs (W.seq (W.region (pE rfl (pE rfl ?_)))))))))
 iterate 2 refine pE rfl ?_
 refine WO.nil (qs ?_)
 iterate 2 refine W.seq ?_
 refine W.region (pE rfl (WO.nil (qs (W.block (fu (g := 0) (j := 1) rfl rfl (fun hlen => ?_))))))
 rw [List.length_map] at hlen
 refine W.aS (ι := {x : Nat × Int // match x with | (k, n) => k ≤ t.rows.length ∧ j8 (t.rows.drop k) n = j8 t.rows (t.cols.length : Int)})
  (fun x => match x.1 with | (k, n) => [(1, .ptr 0 0), (3, .d (.v (.int .i64 (n)))), (4, .d (.v (.int .i64 ((k : Nat) : Int))))]) []
  (fun x => match x.1 with | (k, n) => [(0, t.c.map A.d)]) [] [] 1 (fun x => match x.1 with | (k, n) => t.rows.length - k)
  [0] ⟨(0, ((t.cols.map Col.c).length : Int)), ?_⟩ rfl ?_ trivial ?_ trivial rfl ?_
 · exact ⟨Nat.zero_le _, by rw [List.length_map]; rfl⟩
 · repeat' first | exact trivial | refine ⟨rfl, ?_⟩
 · repeat' first | exact trivial | refine ⟨rfl, ?_⟩
 rintro ⟨⟨k, n⟩, hk, hI⟩
 show W _ _ _ _ _ ⟨[(1, .ptr 0 0), (3, .d (.v (.int .i64 (n)))), (4, .d (.v (.int .i64 ((k : Nat) : Int))))], [(0, t.c.map A.d)], [], 1⟩
 iterate 2 refine W.seq ?_
 apply aE; (case hb => rfl)
 ·
  iterate 2 refine pE rfl ?_
  refine pE rfl ?_
  iterate 3 refine pE rfl ?_
  apply aw; (case hj => rfl); (case hl => rfl)
  ·
   refine ab rfl rfl (pE rfl (ab rfl rfl ?_))
   iterate 2 refine pE rfl ?_
   refine WO.nil (ay rfl rfl rfl)
  iterate 2 refine aq rfl rfl rfl rfl ?_
  refine pE rfl (WO.nil (ay rfl rfl rfl))
 refine qs (an rfl (fun h16 => ?_) (fun h16 => ?_))
 ·
  have hlt : k < t.rows.length := by
   revert h16
   by_cases q : (k : Int) < (t.rows.length : Int)
   · intro _; omega
   simp [q]
  have hn6 : n ≤ 600 := by
   revert h16
   by_cases q : n ≤ 600
   · intro _; exact q
   simp [q]
  obtain ⟨x, hx⟩ : ∃ x, t.rows[k]? = some x := ⟨t.rows[k], by simp [hlt]⟩
  have hd : t.rows.drop k = x :: t.rows.drop (k + 1) := by
   have := List.drop_eq_getElem_cons hlt
   rw [this, (List.getElem?_eq_some_iff.1 hx).2]
  rw [hd] at hI
  simp only [j8] at hI
  rw [if_pos hn6] at hI
  refine W.skip (qs (W.seq (W.block (W.region ?_))))
  iterate 3 refine pE rfl ?_
  refine pE rfl (pE rfl (pu (indexAddr aa rfl rfl rfl rfl rfl rfl (Int.natCast_nonneg _) (aD hx) rfl) rfl ?_))
  refine pE rfl ?_
  iterate 3 refine pE rfl ?_
  refine WO.nil (aV (qs (W.region ?_)))
  iterate 3 refine pE rfl ?_
  refine WO.nil (W.aT [0] ⟨(k + 1, IntKind.i64.wrap (IntKind.i64.wrap (n + 1) + ((x.map aO.c).length : Int))), ?_⟩ ?_ rfl ?_ trivial ?_ trivial rfl)
  · exact ⟨hlt, by rw [List.length_map]; exact hI⟩
  · dsimp only; omega
  · repeat' first | exact trivial | refine ⟨rfl, ?_⟩ | refine ⟨aC (by assumption) (by assumption), ?_⟩
  repeat' first | exact trivial | refine ⟨rfl, ?_⟩
 have hfin : j8 t.rows (t.cols.length : Int) = n := by
  rw [← hI]
  cases hdd : t.rows.drop k with
  | nil => rfl
  | cons x r =>
   have hlt : k < t.rows.length := by have := congrArg List.length hdd; simp at this; omega
   have q : (k : Int) < (t.rows.length : Int) := by omega
   have q2 : ¬ n ≤ 600 := by
    intro q2
    revert h16
    simp [q, q2]
   simp only [j8]
   rw [if_neg q2]
 refine W.exit (aK (aN (aL (qs (W.seq ?_)))))
 apply aE; (case hb => rfl)
 ·
  iterate 3 refine pE rfl ?_
  apply aw; (case hj => rfl); (case hl => rfl)
  ·
   refine ab rfl rfl (pE rfl (ab rfl rfl (pE rfl (ab rfl rfl (pE rfl (ab rfl rfl ?_))))))
   iterate 3 refine pE rfl ?_
   refine WO.nil (ay rfl rfl rfl)
  iterate 4 refine aq rfl rfl rfl rfl ?_
  iterate 2 refine pE rfl ?_
  refine WO.nil (ay rfl rfl rfl)
 refine qs (W.ret (QF.ao trivial rfl ?_))
 simp only [norm, az]; unfold kt; rw [hfin]; first | rfl | (simp; done) | skip
end Go.Proofs.YtjenenllmjlimaaGreat
namespace Go.Proofs.YtjenenllmjlimaaGreat
open Go.Ab Go.Tb
set_option maxRecDepth 10000
attribute [local irreducible] W WO Pu QS QB QL QF QV bQ CH QE
theorem vS (a b : bC) (on : List ByteArray) : ax Tryz.prog 6 [.ag a.c, .ag b.c, .d (.sl (on.map sc))] (.d (.v (.bool (oI a b on)))) 0 := by
 refine ax.aR (n := 18) (ts := [6]) Tryz.func6 (by kernel_rfl) rfl Tryz.ntmps6 Tryz.results6 rfl rfl fun C hC hG => ?_
 refine W.seq (W.region (be rfl rfl rfl (be rfl rfl rfl (pE rfl (WO.nil (qs (W.seq ?_)))))))
 apply aE; (case hb => rfl)
 ·
  refine pE rfl (pu (ah rfl rfl rfl (pO a) rfl) rfl ?_)
  refine pE rfl ?_
  apply aw; (case hj => rfl); (case hl => rfl)
  ·
   refine ab rfl rfl (pE rfl (ab rfl rfl (pu (ah rfl rfl rfl (pO b) rfl) rfl ?_)))
   iterate 2 refine pE rfl ?_
   apply aw; (case hj => rfl); (case hl => rfl)
   ·
    refine ab rfl rfl (pE rfl (ab rfl rfl (pE rfl (ab rfl rfl ?_))))
    iterate 3 refine pE rfl ?_
    refine WO.nil (ay rfl rfl rfl)
   iterate 3 refine aq rfl rfl rfl rfl ?_
   iterate 2 refine pE rfl ?_
   refine WO.nil (ay rfl rfl rfl)
  iterate 2 refine aq rfl rfl rfl rfl ?_
  iterate 2 refine pE rfl ?_
  iterate 3 refine aq rfl rfl rfl rfl ?_
  iterate 2 refine pE rfl ?_
  refine WO.nil (ay rfl rfl rfl)
 refine qs (W.ret (QF.ao trivial rfl ?_))
 simp only [norm, az]; unfold oI; rw [List.length_map]; cases kt a <;> cases kt b <;> rfl
theorem uE {a b : Col} : (decide (a.name = b.name) && decide (a.type = b.type)) = decide (a = b) := by
 obtain ⟨x, y⟩ := a
 obtain ⟨x', y'⟩ := b
 simp only [Col.mk.injEq]
 by_cases h1 : x = x' <;> by_cases h2 : y = y' <;> simp [h1, h2]
theorem ru (a b : bC) : ax Tryz.prog 10 [.ag a.c, .ag b.c] (.d (.v (.bool (decide (a = b))))) 0 := by
 refine ax.aR (n := 60) (ts := [4]) Tryz.func10 (by kernel_rfl) rfl Tryz.ntmps10 Tryz.results10 rfl rfl fun C hC hG => ?_
 refine W.seq (W.region (be rfl rfl rfl (be rfl rfl rfl (pE rfl (WO.nil (qs ?_))))))
 iterate 2 refine W.seq ?_
 apply aE; (case hb => rfl)
 ·
  refine pE rfl (pE rfl ?_)
  iterate 2 refine pE rfl ?_
  refine pE rfl ?_
  iterate 3 refine pE rfl ?_
  apply aw; (case hj => rfl); (case hl => rfl)
  ·
   iterate 7 refine aq rfl rfl rfl rfl ?_
   refine pE rfl (WO.nil (ay rfl rfl rfl))
  refine ab rfl rfl (pE rfl (ab rfl rfl (pE rfl (ab rfl rfl (pE rfl (ab rfl rfl (pE rfl (ab rfl rfl (pE rfl (ab rfl rfl (pE rfl (ab rfl rfl ?_))))))))))))
  iterate 2 refine pE rfl ?_
  refine WO.nil (ay rfl rfl rfl)
 refine qs (an rfl (fun h22 => ?_) (fun h22 => ?_))
 ·
  have hg : decide (a = b) = false := decide_eq_false (by rintro rfl; simp at h22)
  refine W.seq (W.region (pE rfl (WO.nil (qs (W.ret (ae (QF.ao trivial rfl ?_)))))))
  rw [hg]; rfl
 have hl2 : a.cols.length = b.cols.length ∧ a.rows.length = b.rows.length := by
  revert h22
  by_cases q : (a.cols.length : Int) = (b.cols.length : Int)
  ·
   simp only [List.length_map, q, decide_true, Bool.not_true, cond_false]
   intro h
   simp at h
   omega
  simp [q]
 refine W.skip (qs ?_)
 iterate 2 refine W.seq ?_
 refine W.region (pE rfl (WO.nil (qs (W.block (fu (g := 0) (j := 0) rfl rfl (fun hlen0 => ?_))))))
 rw [List.length_map] at hlen0
 refine fu (g := 0) (j := 1) rfl rfl (fun hlen1 => ?_)
 rw [List.length_map] at hlen1
 refine W.aS (ι := {x : Nat // match x with | k => k ≤ a.cols.length ∧ (a.cols.drop k = b.cols.drop k ↔ a.cols = b.cols)})
  (fun x => match x.1 with | k => [(2, .ptr 0 0), (3, .ptr 1 0), (5, .d (.v (.int .i64 ((k : Nat) : Int))))]) []
  (fun x => match x.1 with | k => [(0, a.c.map A.d), (1, b.c.map A.d)]) [] [] 2 (fun x => match x.1 with | k => a.cols.length - k)
  [0, 1] ⟨0, ?_⟩ rfl ?_ trivial ?_ trivial rfl ?_
 · exact ⟨Nat.zero_le _, by simp⟩
 · repeat' first | exact trivial | refine ⟨rfl, ?_⟩
 · repeat' first | exact trivial | refine ⟨rfl, ?_⟩
 rintro ⟨k, hk, hI⟩
 show W _ _ _ _ _ ⟨[(2, .ptr 0 0), (3, .ptr 1 0), (5, .d (.v (.int .i64 ((k : Nat) : Int))))], [(0, a.c.map A.d), (1, b.c.map A.d)], [], 2⟩
 iterate 2 refine W.seq ?_
 refine W.region ?_
 iterate 2 refine pE rfl ?_
 refine pE rfl ?_
 iterate 2 refine pE rfl ?_
 refine WO.nil (qs (aY (l := a.cols) (k := k) rfl (by simp [Ex.aF, aH]) hk (fun x hx hd hlt => ?_) (fun he hd => ?_)))
 ·
  obtain ⟨y, hy⟩ : ∃ y, b.cols[k]? = some y := ⟨b.cols[k]'(by omega), by simp⟩
  have hd2 : b.cols.drop k = y :: b.cols.drop (k + 1) := by
   have hlt2 : k < b.cols.length := by omega
   have := List.drop_eq_getElem_cons hlt2
   rw [this, (List.getElem?_eq_some_iff.1 hy).2]
  rw [hd, hd2] at hI
  refine W.skip (qs (W.seq (W.block (W.seq (W.bd aa (by kernel_rfl) ?_)))))
  refine ak (ev aa rfl) rfl ?_
  refine ak (ev aa rfl) rfl ?_
  refine ak (ev aa rfl) rfl ?_
  refine ak (indexAddr aa rfl rfl rfl rfl rfl rfl (Int.natCast_nonneg _) (aD hx) rfl) rfl ?_
  refine ak (ev aa rfl) rfl ?_
  refine ak (ev aa rfl) rfl ?_
  refine ak (ev aa rfl) rfl ?_
  refine ak (ev aa rfl) rfl ?_
  refine ak (indexAddr (l := y.c) aa rfl rfl rfl rfl rfl rfl (Int.natCast_nonneg _) (aD hy) rfl) rfl ?_
  refine ak (ev aa rfl) rfl ?_
  refine ak (ev aa rfl) rfl ?_
  refine CH.nil ?_
  refine qs (an rfl (fun h40 => ?_) (fun h40 => ?_))
  ·
   have hxy : x ≠ y := by rintro rfl; simp at h40
   have hg : decide (a = b) = false := decide_eq_false (fun q => by have := hI.2 (by rw [q]); simp at this; exact hxy this.1)
   refine W.seq (W.region (pE rfl (WO.nil (qs (W.ret (ar (ae (aX (ar (ae (QF.ao trivial rfl ?_)))))))))))
   rw [hg]; rfl
  have hxy : x = y := by
   have := uE (a := x) (b := y)
   exact of_decide_eq_true (by rw [← this]; simpa using h40)
  have hn : a.cols.drop (k + 1) = b.cols.drop (k + 1) ↔ a.cols = b.cols := by rw [← hI, hxy]; simp
  refine W.skip (aV (qs (W.region ?_)))
  iterate 3 refine pE rfl ?_
  refine WO.nil (W.aT [0, 1] ⟨k + 1, ?_⟩ ?_ rfl ?_ trivial ?_ trivial rfl)
  · exact ⟨hlt, hn⟩
  · dsimp only; omega
  · repeat' first | exact trivial | refine ⟨rfl, ?_⟩ | refine ⟨aC (by assumption) (by assumption), ?_⟩
  repeat' first | exact trivial | refine ⟨rfl, ?_⟩
 have hd2 : b.cols.drop k = [] := List.drop_eq_nil_of_le (by have := congrArg List.length hd; simp at this; omega)
 rw [hd, hd2] at hI
 have hce : a.cols = b.cols := hI.1 rfl
 refine W.exit (aK (aN (aL (qs ?_))))
 iterate 2 refine W.seq ?_
 refine W.region (pE rfl (WO.nil (qs (W.block ?_))))
 refine W.aS (ι := {x : Nat // match x with | k => k ≤ a.rows.length ∧ (a.rows.drop k = b.rows.drop k ↔ a.rows = b.rows)})
  (fun x => match x.1 with | k => [(2, .ptr 0 0), (3, .ptr 1 0), (6, .d (.v (.int .i64 ((k : Nat) : Int))))]) []
  (fun x => match x.1 with | k => [(0, a.c.map A.d), (1, b.c.map A.d)]) [] [] 2 (fun x => match x.1 with | k => a.rows.length - k)
  [0, 1] ⟨0, ?_⟩ rfl ?_ trivial ?_ trivial rfl ?_
 · exact ⟨Nat.zero_le _, by simp⟩
 · repeat' first | exact trivial | refine ⟨rfl, ?_⟩
 · repeat' first | exact trivial | refine ⟨rfl, ?_⟩
 rintro ⟨k, hk, hR⟩
 show W _ _ _ _ _ ⟨[(2, .ptr 0 0), (3, .ptr 1 0), (6, .d (.v (.int .i64 ((k : Nat) : Int))))], [(0, a.c.map A.d), (1, b.c.map A.d)], [], 2⟩
 iterate 2 refine W.seq ?_
 refine W.region ?_
 iterate 2 refine pE rfl ?_
 refine pE rfl ?_
 iterate 2 refine pE rfl ?_
 refine WO.nil (qs (aY (l := a.rows) (k := k) rfl (by simp [Ex.aF, aH]) hk (fun x hx hd hlt => ?_) (fun he hd => ?_)))
 ·
  obtain ⟨y, hy⟩ : ∃ y, b.rows[k]? = some y := ⟨b.rows[k]'(by omega), by simp⟩
  have hd2 : b.rows.drop k = y :: b.rows.drop (k + 1) := by
   have hlt2 : k < b.rows.length := by omega
   have := List.drop_eq_getElem_cons hlt2
   rw [this, (List.getElem?_eq_some_iff.1 hy).2]
  rw [hd, hd2] at hR
  refine W.skip (qs (W.seq (W.block (W.seq (W.bd aa (by kernel_rfl) ?_)))))
  refine ak (ev aa rfl) rfl ?_
  refine ak (ev aa rfl) rfl ?_
  refine ak (ev aa rfl) rfl ?_
  refine ak (indexAddr aa rfl rfl rfl rfl rfl rfl (Int.natCast_nonneg _) (aD hx) rfl) rfl ?_
  refine ak (ev aa rfl) rfl ?_
  refine ak (ev aa rfl) rfl ?_
  refine ak (ev aa rfl) rfl ?_
  refine ak (ev aa rfl) rfl ?_
  refine ak (indexAddr (l := rc y) aa rfl rfl rfl rfl rfl rfl (Int.natCast_nonneg _) (aD hy) rfl) rfl ?_
  refine ak (ev aa rfl) rfl ?_
  refine ak (ah rfl rfl rfl (tp x y) rfl) rfl ?_
  refine ak (ev aa rfl) rfl ?_
  refine CH.nil ?_
  refine qs (an rfl (fun h59 => ?_) (fun h59 => ?_))
  ·
   have hxy : x ≠ y := by simpa using h59
   have hg : decide (a = b) = false := decide_eq_false (fun q => by have := hR.2 (by rw [q]); simp at this; exact hxy this.1)
   refine W.seq (W.region (pE rfl (WO.nil (qs (W.ret (ar (ae (aX (ar (ae (QF.ao trivial rfl ?_)))))))))))
   rw [hg]; rfl
  have hxy : x = y := by simpa using h59
  have hn : a.rows.drop (k + 1) = b.rows.drop (k + 1) ↔ a.rows = b.rows := by rw [← hR, hxy]; simp
  refine W.skip (aV (qs (W.region ?_)))
  iterate 3 refine pE rfl ?_
  refine WO.nil (W.aT [0, 1] ⟨k + 1, ?_⟩ ?_ rfl ?_ trivial ?_ trivial rfl)
  · exact ⟨hlt, hn⟩
  · dsimp only; omega
  · repeat' first | exact trivial | refine ⟨rfl, ?_⟩ | refine ⟨aC (by assumption) (by assumption), ?_⟩
  repeat' first | exact trivial | refine ⟨rfl, ?_⟩
 have hd2 : b.rows.drop k = [] := List.drop_eq_nil_of_le (by have := congrArg List.length hd; simp at this; omega)
 rw [hd, hd2] at hR
 have hg : decide (a = b) = true := decide_eq_true (by cases a; cases b; simp only [bC.mk.injEq]; exact ⟨hce, hR.1 rfl⟩)
 refine W.exit (aK (aN (aL (qs (W.seq (W.region (pE rfl (WO.nil (qs (W.ret (QF.ao trivial rfl ?_)))))))))))
 rw [hg]; rfl
def wK : ByteArray := B #[107]
def wV : ByteArray := B #[118]
def tA : bC := ⟨[wK, aQ, bP].map fI, [[mX (B #[120]), cZ 0, cZ 10], [mX (B #[121]), cZ 0, cZ 10]]⟩
def tB : bC := ⟨[wK, aQ, bP, wV].map fI, [[mX (B #[120]), cZ 5, cZ 20, cZ 1], [mX (B #[120]), cZ 10, cZ 12, cZ 2]]⟩
def tW : bC := ⟨[wK, aQ, bP, wV].map fI, [[mX (B #[120]), cZ 5, cZ 10, cZ 1]]⟩
def tC : bC := ⟨[aQ].map fI, [[7].map cZ, [2].map cZ]⟩
def tD : bC := ⟨[aQ, wV].map fI, [[3, 1].map cZ, [5, 2].map cZ, [5, 3].map cZ, [9, 4].map cZ]⟩
def tN : bC := ⟨[aQ, wV].map fI, [[7, 3].map cZ, [cZ 2, c9]]⟩
def tS : bC := ⟨[aQ, bP].map fI, [[0, 3].map cZ, [7, 9].map cZ, [8, 8].map cZ, [3, 5].map cZ]⟩
def tU : bC := ⟨[aQ, bP].map fI, [[0, 5].map cZ, [7, 9].map cZ]⟩
set_option maxRecDepth 100000 in
theorem xL : fa tA tB [wK] = (tW, 0) := by decide +kernel
set_option maxRecDepth 100000 in
theorem xU : fa tA tB [] = (gh, 4) := by decide +kernel
set_option maxRecDepth 100000 in
theorem xV : cY tC tD [] = (tN, 0) := by decide +kernel
set_option maxRecDepth 100000 in
theorem xW : cv tS [] = (tU, 0) := by decide +kernel
end Go.Proofs.YtjenenllmjlimaaGreat
namespace Go.Proofs.YtjenenllmjlimaaGreat
open Go.Ab Go.Tb
set_option maxRecDepth 10000
attribute [local irreducible] W WO Pu QS QB QL QF QV bQ CH QE
theorem pX : ax Tryz.prog 7 [] (.d (.v (.bool true))) 0 := by
 have hov1 : ax Tryz.prog 8 [.ag tA.c, .ag tB.c, .d (.sl ([wK].map sc))] (.tup [.ag tW.c, .d (.v (.int .i64 0))]) 0 := by have := oJ tA tB [wK] (by decide); rw [xL] at this; exact this
 have hov2 : ax Tryz.prog 8 [.ag tA.c, .ag tB.c, .d (.sl (([] : List ByteArray).map sc))] (.tup [.ag gh.c, .d (.v (.int .i64 4))]) 0 := by have := oJ tA tB [] (by decide); rw [xU] at this; exact this
 have hne : ax Tryz.prog 11 [.ag tC.c, .ag tD.c, .d (.sl (([] : List ByteArray).map sc))] (.tup [.ag tN.c, .d (.v (.int .i64 0))]) 0 := by have := nW tC tD [] (by decide); rw [xV] at this; exact this
 have hco : ax Tryz.prog 13 [.ag tS.c, .d (.sl (([] : List ByteArray).map sc))] (.tup [.ag tU.c, .d (.v (.int .i64 0))]) 0 := by have := rC tS [] (by decide); rw [xW] at this; exact this
 have hs : ∀ t : bC, ax Tryz.prog 10 [.ag t.c, .ag t.c] (.d (.v (.bool true))) 0 := fun t => by have := ru t t; rw [decide_eq_true (rfl : t = t)] at this; exact this
 refine ax.aR (n := 154) (ts := [0]) Tryz.func7 (by kernel_rfl) rfl Tryz.ntmps7 Tryz.results7 rfl rfl fun C hC hG => ?_
 refine W.seq (W.region (pE rfl (WO.nil (qs (W.seq (W.region (pu (aI aa rfl rfl rfl rfl rfl rfl rfl rfl rfl) rfl ?_)))))))
 refine pu (ah rfl rfl rfl (ku [wK, aQ, bP] (by decide)) rfl) rfl ?_
 refine pu (ah rfl rfl rfl ((kv _)) rfl) rfl ?_
 refine pu (ah rfl rfl rfl ((cw _)) rfl) rfl ?_
 refine pu (ah rfl rfl rfl ((cw _)) rfl) rfl ?_
 refine pu (aI aa rfl rfl rfl rfl rfl rfl rfl rfl rfl) rfl ?_
 refine pu (ah rfl rfl rfl ((kv _)) rfl) rfl ?_
 refine pu (ah rfl rfl rfl ((cw _)) rfl) rfl ?_
 refine pu (ah rfl rfl rfl ((cw _)) rfl) rfl ?_
 refine pu (aI aa rfl rfl rfl rfl rfl rfl rfl rfl rfl) rfl ?_
 refine pu (aI aa rfl rfl rfl rfl rfl rfl rfl rfl rfl) rfl ?_
 refine pu (build aa rfl rfl rfl rfl) rfl ?_
 refine a7 aa rfl rfl rfl (aP aa rfl rfl rfl rfl rfl rfl rfl rfl (WO.nil (qs (W.seq (W.region (pu (aI aa rfl rfl rfl rfl rfl rfl rfl rfl rfl) rfl ?_))))))
 refine pu (ah rfl rfl rfl (ku [wK, aQ, bP, wV] (by decide)) rfl) rfl ?_
 refine pu (ah rfl rfl rfl ((kv _)) rfl) rfl ?_
 refine pu (ah rfl rfl rfl ((cw _)) rfl) rfl ?_
 refine pu (ah rfl rfl rfl ((cw _)) rfl) rfl ?_
 refine pu (ah rfl rfl rfl ((cw _)) rfl) rfl ?_
 refine pu (aI aa rfl rfl rfl rfl rfl rfl rfl rfl rfl) rfl ?_
 refine pu (ah rfl rfl rfl ((kv _)) rfl) rfl ?_
 refine pu (ah rfl rfl rfl ((cw _)) rfl) rfl ?_
 refine pu (ah rfl rfl rfl ((cw _)) rfl) rfl ?_
 refine pu (ah rfl rfl rfl ((cw _)) rfl) rfl ?_
 refine pu (aI aa rfl rfl rfl rfl rfl rfl rfl rfl rfl) rfl ?_
 refine pu (aI aa rfl rfl rfl rfl rfl rfl rfl rfl rfl) rfl ?_
 refine pu (build aa rfl rfl rfl rfl) rfl ?_
 refine a7 aa rfl rfl rfl (aP aa rfl rfl rfl rfl rfl rfl rfl rfl (WO.nil (qs (W.seq (W.region (pE rfl (pE rfl (pu (aI aa rfl rfl rfl rfl rfl rfl rfl rfl rfl) rfl ?_))))))))
 refine pu (ah rfl rfl rfl hov1 rfl) rfl ?_
 iterate 3 refine pE rfl ?_
 refine a7 aa rfl rfl rfl (aP aa rfl rfl rfl rfl rfl rfl rfl rfl (pE rfl (WO.nil (qs (W.seq (W.region (pE rfl (pE rfl (pu (pd rfl rfl rfl hov2 rfl) rfl ?_)))))))))
 iterate 3 refine pE rfl ?_
 refine a7 aa rfl rfl rfl (aP aa rfl rfl rfl rfl rfl rfl rfl rfl (pE rfl (WO.nil (qs (W.seq (W.jT aa 10 1 (by kernel_rfl) rfl rfl ?_))))))
 refine bq rfl (ev aa rfl) rfl ?_
 refine bq rfl (ev aa rfl) rfl ?_
 refine bq rfl (ah rfl rfl rfl ((kv _)) rfl) rfl ?_
 refine bq rfl (ah rfl rfl rfl ((cw _)) rfl) rfl ?_
 refine bq rfl (ah rfl rfl rfl ((cw _)) rfl) rfl ?_
 refine bq rfl (ah rfl rfl rfl ((cw _)) rfl) rfl ?_
 refine bq rfl (aI aa rfl rfl rfl rfl rfl rfl rfl rfl rfl) rfl ?_
 refine bq rfl (aI aa rfl rfl rfl rfl rfl rfl rfl rfl rfl) rfl ?_
 refine bq rfl (build aa rfl rfl rfl rfl) rfl ?_
 refine gB 0 rfl rfl rfl rfl rfl rfl ?_
 refine CE.nil ?_
 refine aP aa rfl rfl rfl rfl rfl rfl rfl rfl (WO.nil (qs (W.seq (W.region (pu (aI aa rfl rfl rfl rfl rfl rfl rfl rfl rfl) rfl ?_)))))
 refine pu (ah rfl rfl rfl (ku [aQ] (by decide)) rfl) rfl ?_
 refine pu (aI aa rfl rfl rfl rfl rfl rfl rfl rfl rfl) rfl ?_
 refine pu (ah rfl rfl rfl (eE [7] (by decide)) rfl) rfl ?_
 refine pu (aI aa rfl rfl rfl rfl rfl rfl rfl rfl rfl) rfl ?_
 refine pu (ah rfl rfl rfl (eE [2] (by decide)) rfl) rfl ?_
 refine pu (aI aa rfl rfl rfl rfl rfl rfl rfl rfl rfl) rfl ?_
 refine pu (build aa rfl rfl rfl rfl) rfl ?_
 refine a7 aa rfl rfl rfl (aP aa rfl rfl rfl rfl rfl rfl rfl rfl (WO.nil (qs (W.seq (W.region (pu (aI aa rfl rfl rfl rfl rfl rfl rfl rfl rfl) rfl ?_))))))
 refine pu (ah rfl rfl rfl (ku [aQ, wV] (by decide)) rfl) rfl ?_
 refine pu (aI aa rfl rfl rfl rfl rfl rfl rfl rfl rfl) rfl ?_
 refine pu (ah rfl rfl rfl (eE [3, 1] (by decide)) rfl) rfl ?_
 refine pu (aI aa rfl rfl rfl rfl rfl rfl rfl rfl rfl) rfl ?_
 refine pu (ah rfl rfl rfl (eE [5, 2] (by decide)) rfl) rfl ?_
 refine pu (aI aa rfl rfl rfl rfl rfl rfl rfl rfl rfl) rfl ?_
 refine pu (ah rfl rfl rfl (eE [5, 3] (by decide)) rfl) rfl ?_
 refine pu (aI aa rfl rfl rfl rfl rfl rfl rfl rfl rfl) rfl ?_
 refine pu (ah rfl rfl rfl (eE [9, 4] (by decide)) rfl) rfl ?_
 refine pu (aI aa rfl rfl rfl rfl rfl rfl rfl rfl rfl) rfl ?_
 refine pu (build aa rfl rfl rfl rfl) rfl ?_
 refine a7 aa rfl rfl rfl (aP aa rfl rfl rfl rfl rfl rfl rfl rfl (WO.nil (qs (W.seq (W.region (pE rfl (pE rfl (pu (pd rfl rfl rfl hne rfl) rfl ?_))))))))
 iterate 3 refine pE rfl ?_
 refine a7 aa rfl rfl rfl (aP aa rfl rfl rfl rfl rfl rfl rfl rfl (pE rfl (WO.nil (qs (W.seq (W.jT aa 10 1 (by kernel_rfl) rfl rfl ?_))))))
 refine bq rfl (ev aa rfl) rfl ?_
 refine bq rfl (ev aa rfl) rfl ?_
 refine bq rfl (aI aa rfl rfl rfl rfl rfl rfl rfl rfl rfl) rfl ?_
 refine bq rfl (ah rfl rfl rfl (eE [7, 3] (by decide)) rfl) rfl ?_
 refine bq rfl (ah rfl rfl rfl ((cw _)) rfl) rfl ?_
 refine bq rfl (build aa rfl rfl rfl rfl) rfl ?_
 refine bq rfl (aI aa rfl rfl rfl rfl rfl rfl rfl rfl rfl) rfl ?_
 refine bq rfl (aI aa rfl rfl rfl rfl rfl rfl rfl rfl rfl) rfl ?_
 refine bq rfl (build aa rfl rfl rfl rfl) rfl ?_
 refine gB 0 rfl rfl rfl rfl rfl rfl ?_
 refine CE.nil ?_
 refine aP aa rfl rfl rfl rfl rfl rfl rfl rfl (WO.nil (qs (W.seq (W.region (pu (aI aa rfl rfl rfl rfl rfl rfl rfl rfl rfl) rfl ?_)))))
 refine pu (ah rfl rfl rfl (ku [aQ, bP] (by decide)) rfl) rfl ?_
 refine pu (aI aa rfl rfl rfl rfl rfl rfl rfl rfl rfl) rfl ?_
 refine pu (ah rfl rfl rfl (eE [0, 3] (by decide)) rfl) rfl ?_
 refine pu (aI aa rfl rfl rfl rfl rfl rfl rfl rfl rfl) rfl ?_
 refine pu (ah rfl rfl rfl (eE [7, 9] (by decide)) rfl) rfl ?_
 refine pu (aI aa rfl rfl rfl rfl rfl rfl rfl rfl rfl) rfl ?_
 refine pu (ah rfl rfl rfl (eE [8, 8] (by decide)) rfl) rfl ?_
 refine pu (aI aa rfl rfl rfl rfl rfl rfl rfl rfl rfl) rfl ?_
 refine pu (ah rfl rfl rfl (eE [3, 5] (by decide)) rfl) rfl ?_
 refine pu (aI aa rfl rfl rfl rfl rfl rfl rfl rfl rfl) rfl ?_
 refine pu (build aa rfl rfl rfl rfl) rfl ?_
 refine a7 aa rfl rfl rfl (aP aa rfl rfl rfl rfl rfl rfl rfl rfl (WO.nil (qs (W.seq (W.region (pE rfl (pu (pd rfl rfl rfl hco rfl) rfl ?_)))))))
 iterate 3 refine pE rfl ?_
 refine a7 aa rfl rfl rfl (aP aa rfl rfl rfl rfl rfl rfl rfl rfl (pE rfl (WO.nil (qs (W.seq (W.jT aa 9 1 (by kernel_rfl) rfl rfl ?_))))))
 refine bq rfl (ev aa rfl) rfl ?_
 refine bq rfl (ev aa rfl) rfl ?_
 refine bq rfl (aI aa rfl rfl rfl rfl rfl rfl rfl rfl rfl) rfl ?_
 refine bq rfl (ah rfl rfl rfl (eE [0, 5] (by decide)) rfl) rfl ?_
 refine bq rfl (aI aa rfl rfl rfl rfl rfl rfl rfl rfl rfl) rfl ?_
 refine bq rfl (ah rfl rfl rfl (eE [7, 9] (by decide)) rfl) rfl ?_
 refine bq rfl (aI aa rfl rfl rfl rfl rfl rfl rfl rfl rfl) rfl ?_
 refine bq rfl (build aa rfl rfl rfl rfl) rfl ?_
 refine gB 0 rfl rfl rfl rfl rfl rfl ?_
 refine CE.nil ?_
 refine aP aa rfl rfl rfl rfl rfl rfl rfl rfl (WO.nil (qs (W.seq ?_)))
 apply aE; (case hb => rfl)
 ·
  refine pE rfl (pE rfl (pu (ah rfl rfl rfl (hs tW) rfl) rfl ?_))
  refine pE rfl ?_
  apply aw; (case hj => rfl); (case hl => rfl)
  ·
   refine ab rfl rfl (pE rfl (ab rfl rfl ?_))
   iterate 3 refine pE rfl ?_
   apply aw; (case hj => rfl); (case hl => rfl)
   ·
    refine ab rfl rfl (pE rfl (ab rfl rfl ?_))
    iterate 3 refine pE rfl ?_
    apply aw; (case hj => rfl); (case hl => rfl)
    ·
     refine ab rfl rfl (pE rfl (ab rfl rfl (pE rfl (ab rfl rfl (pu (ah rfl rfl rfl (hs tN) rfl) rfl ?_)))))
     iterate 2 refine pE rfl ?_
     apply aw; (case hj => rfl); (case hl => rfl)
     ·
      refine ab rfl rfl (pE rfl (ab rfl rfl ?_))
      iterate 3 refine pE rfl ?_
      apply aw; (case hj => rfl); (case hl => rfl)
      ·
       refine ab rfl rfl (pE rfl (ab rfl rfl (pE rfl (ab rfl rfl (pu (ah rfl rfl rfl (hs tU) rfl) rfl ?_)))))
       iterate 2 refine pE rfl ?_
       apply aw; (case hj => rfl); (case hl => rfl)
       ·
        refine ab rfl rfl (pE rfl (ab rfl rfl ?_))
        iterate 3 refine pE rfl ?_
        refine WO.nil (ay rfl rfl rfl)
       iterate 2 refine aq rfl rfl rfl rfl ?_
       iterate 2 refine pE rfl ?_
       refine WO.nil (ay rfl rfl rfl)
      iterate 3 refine aq rfl rfl rfl rfl ?_
      iterate 2 refine pE rfl ?_
      iterate 2 refine aq rfl rfl rfl rfl ?_
      iterate 2 refine pE rfl ?_
      refine WO.nil (ay rfl rfl rfl)
     iterate 2 refine aq rfl rfl rfl rfl ?_
     iterate 2 refine pE rfl ?_
     iterate 3 refine aq rfl rfl rfl rfl ?_
     iterate 2 refine pE rfl ?_
     iterate 2 refine aq rfl rfl rfl rfl ?_
     iterate 2 refine pE rfl ?_
     refine WO.nil (ay rfl rfl rfl)
    iterate 3 refine aq rfl rfl rfl rfl ?_
    iterate 2 refine pE rfl ?_
    iterate 2 refine aq rfl rfl rfl rfl ?_
    iterate 2 refine pE rfl ?_
    iterate 3 refine aq rfl rfl rfl rfl ?_
    iterate 2 refine pE rfl ?_
    iterate 2 refine aq rfl rfl rfl rfl ?_
    iterate 2 refine pE rfl ?_
    refine WO.nil (ay rfl rfl rfl)
   iterate 2 refine aq rfl rfl rfl rfl ?_
   iterate 2 refine pE rfl ?_
   iterate 3 refine aq rfl rfl rfl rfl ?_
   iterate 2 refine pE rfl ?_
   iterate 2 refine aq rfl rfl rfl rfl ?_
   iterate 2 refine pE rfl ?_
   iterate 3 refine aq rfl rfl rfl rfl ?_
   iterate 2 refine pE rfl ?_
   iterate 2 refine aq rfl rfl rfl rfl ?_
   iterate 2 refine pE rfl ?_
   refine WO.nil (ay rfl rfl rfl)
  iterate 2 refine aq rfl rfl rfl rfl ?_
  iterate 2 refine pE rfl ?_
  iterate 2 refine aq rfl rfl rfl rfl ?_
  iterate 2 refine pE rfl ?_
  iterate 3 refine aq rfl rfl rfl rfl ?_
  iterate 2 refine pE rfl ?_
  iterate 2 refine aq rfl rfl rfl rfl ?_
  iterate 2 refine pE rfl ?_
  iterate 3 refine aq rfl rfl rfl rfl ?_
  iterate 2 refine pE rfl ?_
  iterate 2 refine aq rfl rfl rfl rfl ?_
  iterate 2 refine pE rfl ?_
  refine WO.nil (ay rfl rfl rfl)
 refine qs (W.ret (QF.ao trivial rfl ?_))
 rfl
end Go.Proofs.YtjenenllmjlimaaGreat
namespace Go.Proofs.YtjenenllmjlimaaGreat
open Go.Ab Go.Tb
set_option maxRecDepth 10000
attribute [local irreducible] W WO Pu QS QB QL QF QV bQ CH QE
theorem rG (op : Int) (on : List ByteArray) (a b : bC) (hon : on.length ≤ 400) (hop : op = 7 ∨ op = 8 ∨ op = 9) : ax Tryz.prog 28 [.ag a.c, .ag b.c, .d (.v (.int .i64 op)), .d (.sl (on.map sc))]
  (.tup [.d (.sl ((iF op on a b).1.map Col.c)), .d (.v (.int .i64 (iF op on a b).2))]) 0 := by
 have hfs : ∀ w, kS (dp op on w) := fun w => ⟨Nat.zero_le _, hon, Nat.zero_le _, Nat.zero_le _⟩
 refine ax.aR (n := 41) (ts := [8, 9]) Tryz.func28 (by kernel_rfl) rfl Tryz.ntmps28 Tryz.results28 rfl rfl fun C hC hG => ?_
 refine W.seq (W.region (be rfl rfl rfl (be rfl rfl rfl ?_)))
 iterate 2 refine pE rfl ?_
 refine WO.nil (qs (W.seq (W.region (pE rfl (pu (ah rfl rfl rfl (qh a) rfl) rfl ?_)))))
 refine pE rfl (WO.nil (qs ?_))
 iterate 2 refine W.seq ?_
 refine W.region ?_
 iterate 2 refine pE rfl ?_
 refine WO.nil (qs (an rfl (fun h16 => ?_) (fun h16 => ?_)))
 ·
  have hc : bm a ≠ 0 := by simpa using h16
  have hg : iF op on a b = ([], bm a) := by unfold iF fO dK; rw [if_pos hc, if_pos hc]; split <;> rfl
  refine W.seq (W.region ?_)
  iterate 3 refine pE rfl ?_
  refine WO.nil (qs ?_)
  try refine aG (d := 8) rfl rfl ?_
  refine W.ret (ae (QF.ao trivial rfl ?_))
  (rw [hg]; rfl)
 have hc : bm a = 0 := by simpa using h16
 have haz := dq hc
 refine W.skip (qs (W.seq (W.region ?_)))
 iterate 2 refine pE rfl ?_
 refine pu (build aa rfl rfl rfl rfl) rfl ?_
 try refine vk 20 rfl rfl rfl ?_
 refine a7 aa rfl rfl rfl (aP aa rfl rfl rfl rfl rfl rfl rfl rfl (WO.nil (qs (W.seq (W.region (pE rfl (WO.nil (qs ?_))))))))
 iterate 2 refine W.seq ?_
 refine aG (d := 12) rfl rfl ?_
 refine W.region ?_
 iterate 2 refine pE rfl ?_
 refine WO.nil (qs (an rfl (fun h22 => ?_) (fun h22 => ?_)))
 ·
  have h9 : op ≠ 9 := by simpa using h22
  refine W.seq (W.region (pE rfl (pu (ah rfl rfl rfl (qh b) rfl) rfl ?_)))
  refine pE rfl (WO.nil (qs ?_))
  iterate 2 refine W.seq ?_
  refine W.region ?_
  iterate 2 refine pE rfl ?_
  refine WO.nil (qs (an rfl (fun h26 => ?_) (fun h26 => ?_)))
  ·
   have hc2 : bm b ≠ 0 := by simpa using h26
   have hg : iF op on a b = ([], bm b) := by unfold iF dK; rw [if_neg h9, if_neg (by simp [hc]), if_pos hc2]
   refine W.seq (W.region ?_)
   iterate 3 refine pE rfl ?_
   refine WO.nil (qs ?_)
   try refine aG (d := 8) rfl rfl ?_
   refine W.ret (ae (ae (QF.ao trivial rfl ?_)))
   (rw [hg]; rfl)
  have hc2 : bm b = 0 := by simpa using h26
  have hbz := dq hc2
  have hft : tg [⟨wB, b⟩] := fun x hx => by simp at hx; subst hx; show b.cols.length ≤ 1000; omega
  have hg : iF op on a b = dC [⟨wB, b⟩] a.cols (dp op on wB) := by unfold iF dK; rw [if_neg h9, if_neg (by simp [hc]), if_neg (by simp [hc2])]
  have hst := pN [⟨wB, b⟩] a.cols (dp op on wB) (hfs wB) hft (by omega)
  refine W.skip (qs (W.seq (W.region (pE rfl (aP aa rfl rfl rfl rfl rfl rfl rfl rfl (WO.nil (qs (W.region (pE rfl (pE rfl (pu (build aa rfl rfl rfl rfl) rfl ?_)))))))))))
  try refine vk 31 rfl rfl rfl ?_
  refine pu (aI aa rfl rfl rfl rfl rfl rfl rfl rfl rfl) rfl ?_
  refine br (fn := gO.c) (l := []) (a := ⟨wB, b⟩) aa rfl rfl rfl rfl rfl rfl rfl rfl rfl rfl (fun _ => rfl) (by decide) ?_
  refine pE rfl (WO.nil (qs (W.seq (W.region ?_))))
  iterate 2 refine pE rfl ?_
  refine pE rfl (pE rfl (pu (ah rfl rfl rfl hst rfl) rfl ?_))
  iterate 4 refine pE rfl ?_
  refine WO.nil (qs ?_)
  try refine aG (d := 8) rfl rfl ?_
  refine W.ret (QF.ao trivial rfl ?_)
  (rw [hg]; rfl)
 have h9 : op = 9 := by simpa using h22
 have hg : iF op on a b = dC [] a.cols (dp op on (B #[])) := by unfold iF fO; rw [if_pos h9, if_neg (by simp [hc]), h9]
 have hst := pN [] a.cols (dp op on (B #[])) (hfs _) (fun x hx => by cases hx) (by omega)
 refine W.skip (qs (W.seq (W.region ?_)))
 iterate 2 refine pE rfl ?_
 refine pE rfl (pE rfl (pu (ah rfl rfl rfl hst rfl) rfl ?_))
 iterate 4 refine pE rfl ?_
 refine WO.nil (qs ?_)
 try refine aG (d := 8) rfl rfl ?_
 refine W.ret (QF.ao trivial rfl ?_)
 (rw [hg]; rfl)
theorem uw (l : List ByteArray) (s : ByteArray) : ax Tryz.prog 51 [.d (.sl (l.map sc)), .d (.v (.string s))] (.d (.v (.bool (l.any fun x => decide (s = x))))) 0 := by
 refine ax.aR (n := 18) (ts := [4]) Tryz.func51 (by kernel_rfl) rfl Tryz.ntmps51 Tryz.results51 rfl rfl fun C hC hG => ?_
 refine W.seq (W.region (pE rfl (WO.nil (qs ?_))))
 iterate 2 refine W.seq ?_
 refine W.region (pE rfl (WO.nil (qs (W.block (W.len (t := 0) rfl rfl (fun hlen => ?_))))))
 try simp only [List.length_map, Ex.aF] at hlen
 refine W.aS (ι := {x : Nat // match x with | k => k ≤ l.length ∧ (l.drop k).any (fun x => decide (s = x)) = l.any fun x => decide (s = x)})
  (fun x => match x.1 with | k => [(5, .d (.v (.int .i64 ((k : Nat) : Int))))]) [(0, _), (1, _)]
  (fun x => match x.1 with | k => []) [] [] 0 (fun x => match x.1 with | k => l.length - k)
  [] ⟨0, ?_⟩ rfl ?_ ⟨rfl, rfl, rfl, rfl, trivial⟩ ?_ trivial rfl ?_
 · exact ⟨Nat.zero_le _, rfl⟩
 · repeat' first | exact trivial | refine ⟨rfl, ?_⟩
 · repeat' exact trivial
 rintro ⟨k, hk, hI⟩
 show W _ _ _ _ _ ⟨[(5, .d (.v (.int .i64 ((k : Nat) : Int)))), (0, _), (1, _)], [], [], 0⟩
 iterate 2 refine W.seq ?_
 refine W.region ?_
 iterate 4 refine pE rfl ?_
 refine WO.nil (qs (aY (l := l) (k := k) rfl (by simp [Ex.aF, aH]) hk (fun x hx hd hlt => ?_) (fun he hd => ?_)))
 ·
  rw [hd, List.any_cons] at hI
  refine W.skip (qs (W.seq (W.block (W.seq (W.region ?_)))))
  iterate 2 refine pE rfl ?_
  refine pu (indexAddr aa rfl rfl rfl rfl rfl rfl (Int.natCast_nonneg _) (aD hx) rfl) rfl ?_
  refine pE rfl ?_
  iterate 2 refine pE rfl ?_
  refine WO.nil (qs (an rfl (fun h17 => ?_) (fun h17 => ?_)))
  ·
   have hq : s = x := Eq.symm (by simpa using h17)
   have hg : (l.any fun x => decide (s = x)) = true := by rw [← hI, decide_eq_true hq]; rfl
   refine W.seq (W.region (pE rfl (WO.nil (qs (W.ret (ar (ae (aX (ar (ae (QF.ao trivial rfl ?_)))))))))))
   rw [hg]; rfl
  have hq : ¬ s = x := by intro q; simp [q] at h17
  rw [decide_eq_false hq, Bool.false_or] at hI
  refine W.skip (aV (qs (W.region ?_)))
  iterate 3 refine pE rfl ?_
  refine WO.nil (W.aT [] ⟨k + 1, ?_⟩ ?_ rfl ?_ ⟨rfl, rfl, rfl, rfl, trivial⟩ ?_ trivial rfl)
  · exact ⟨hlt, hI⟩
  · dsimp only; omega
  · repeat' first | exact trivial | refine ⟨aC (by assumption) (by assumption), ?_⟩
  repeat' exact trivial
 rw [hd, List.any_nil] at hI
 refine W.exit (aK (aN (aL (qs (W.seq (W.region (pE rfl (WO.nil (qs (W.ret (QF.ao trivial rfl ?_)))))))))))
 rw [← hI]; rfl
theorem qq (t : bC) {s : ByteArray} {i : Nat} (h : dy t.cols s = some i) : ax Tryz.prog 49 [.ag t.c, .d (.v (.string s))] (.d (.v (.int .i64 ((i : Nat) : Int)))) 0 := by
 have := sa t s
 rw [show (t.cols.findIdx? fun x => decide (x.name = s)) = some i from h] at this
 exact this
theorem sv (t : bC) (row : List aO) (not : List ByteArray) (h : t.cols.length ≤ 100000) (hr : row = [] ∨ t.cols.length ≤ row.length) : ax Tryz.prog 32 [.ag t.c, .d (.sl (row.map aO.c)), .d (.sl (not.map sc))]
  (.d (.sl ((eF row not t.cols).map aO.c))) 0 := by
 refine ax.aR (n := 39) (ts := [6]) Tryz.func32 (by kernel_rfl) rfl Tryz.ntmps32 Tryz.results32 rfl rfl fun C hC hG => ?_
 refine W.seq (W.region (be rfl rfl rfl (pE rfl (WO.nil (qs (W.seq (W.region (pE rfl (WO.nil (qs ?_))))))))))
 iterate 2 refine W.seq ?_
 refine W.region (pE rfl (WO.nil (qs (W.block (aG (d := 7) rfl rfl ?_)))))
 refine fu (g := 0) (j := 0) rfl rfl (fun hlen => ?_)
 rw [List.length_map] at hlen
 refine W.aS (ι := {x : Nat × List aO // match x with | (k, out) => k ≤ t.cols.length ∧ out = eF row not (t.cols.take k)})
  (fun x => match x.1 with | (k, out) => [(3, .ptr 0 0), (7, .own 1 (out.map aO.c)), (8, .d (.v (.int .i64 ((k : Nat) : Int))))]) [(1, _), (2, _)]
  (fun x => match x.1 with | (k, out) => [(0, t.c.map A.d)]) [] [1] 2 (fun x => match x.1 with | (k, out) => t.cols.length - k)
  [0, 1] ⟨(0, []), ?_⟩ rfl ?_ ⟨rfl, rfl, rfl, rfl, trivial⟩ ?_ trivial rfl ?_
 · exact ⟨Nat.zero_le _, rfl⟩
 · repeat' first | exact trivial | refine ⟨rfl, ?_⟩
 · repeat' first | exact trivial | refine ⟨rfl, ?_⟩
 rintro ⟨⟨k, out⟩, hk, hI⟩
 show W _ _ _ _ _ ⟨[(3, .ptr 0 0), (7, .own 1 (out.map aO.c)), (8, .d (.v (.int .i64 ((k : Nat) : Int)))), (1, _), (2, _)], [(0, t.c.map A.d)], [1], 2⟩
 iterate 2 refine W.seq ?_
 refine W.region ?_
 iterate 2 refine pE rfl ?_
 refine pE rfl ?_
 iterate 2 refine pE rfl ?_
 refine WO.nil (qs (aY (l := t.cols) (k := k) rfl (by simp [Ex.aF, aH]) hk (fun c hx hd hlt => ?_) (fun he hd => ?_)))
 ·
  have hol : out.length ≤ k := by rw [hI]; unfold eF; rw [List.length_map]; have := iq not (t.cols.take k) 0; simp at this; omega
  have hst := congrArg (List.map fun i => if 0 < row.length then ba row i else c9) (lr not t.cols k 0 c hx)
  rw [List.map_append, Nat.zero_add] at hst
  have hst : eF row not (t.cols.take (k + 1)) = eF row not (t.cols.take k) ++ _ := hst
  rw [← hI] at hst
  refine W.skip (qs (W.seq (W.block ?_)))
  iterate 2 refine W.seq ?_
  refine W.region ?_
  iterate 2 refine pE rfl ?_
  refine pE rfl (pE rfl (pu (indexAddr aa rfl rfl rfl rfl rfl rfl (Int.natCast_nonneg _) (aD hx) rfl) rfl ?_))
  refine pE rfl (pE rfl (pu (ah rfl rfl rfl (uw not c.name) rfl) rfl ?_))
  refine WO.nil (qs (an rfl (fun h23 => ?_) (fun h23 => ?_)))
  ·
   have hq : not.any (fun x => decide (c.name = x)) = true := by simpa using h23
   rw [if_pos hq, List.map_nil, List.append_nil] at hst
   have hbr : not.any (fun x => decide (c.name = x)) = true := hq
   refine W.exit (aK (aL (qs (W.region ?_))))
   iterate 3 refine pE rfl ?_
   refine WO.nil (W.aT [0, 1] ⟨(k + 1, out), ?_⟩ ?_ rfl ?_ ⟨rfl, rfl, rfl, rfl, trivial⟩ ?_ trivial rfl)
   · exact ⟨hlt, hst.symm⟩
   · dsimp only; omega
   · repeat' first | exact trivial | refine ⟨rfl, ?_⟩ | refine ⟨aC (by assumption) (by assumption), ?_⟩
   repeat' first | exact trivial | refine ⟨rfl, ?_⟩
  have hq : not.any (fun x => decide (c.name = x)) = false := by simpa using h23
  rw [if_neg (by simp [hq])] at hst
  refine W.skip (qs (W.seq (W.region ?_)))
  iterate 3 refine pE rfl ?_
  refine WO.nil (qs (an rfl (fun h26 => ?_) (fun h26 => ?_)))
  ·
   have hp : 0 < row.length := by simp at h26; omega
   have hrv : row[k]? = some (ba row k) := eT (by rcases hr with h | h; (rw [h] at hp; exact absurd hp (by decide)); omega)
   have hst : eF row not (t.cols.take (k + 1)) = out ++ [ba row k] := by rw [hst, List.map_singleton, if_pos hp]
   have hbr : 0 < row.length := hp
   refine W.region ?_
   iterate 3 refine pE rfl ?_
   refine pu (indexAddr aa rfl rfl rfl rfl rfl rfl (Int.natCast_nonneg _) (aD hrv) rfl) rfl ?_
   refine pE rfl (pu (aI aa rfl rfl rfl rfl rfl rfl rfl rfl rfl) rfl ?_)
   refine br (fn := aO.c) (a := ba row k) aa rfl rfl rfl rfl rfl rfl rfl rfl rfl rfl (fun _ => rfl) (by show (out.length + 1) * 32 ≤ _; omega) ?_
   refine pE rfl (WO.nil (aV (qs (W.region ?_))))
   iterate 3 refine pE rfl ?_
   refine WO.nil ?_
   (have _hb : 0 < row.length := hbr; refine W.aT [0, 2] ⟨(k + 1, out ++ [ba row k]), ?_⟩ ?_ rfl ?_ ⟨rfl, rfl, rfl, rfl, trivial⟩ ?_ trivial rfl)
   · exact ⟨hlt, hst.symm⟩
   · dsimp only; omega
   · repeat' first | exact trivial | refine ⟨rfl, ?_⟩ | refine ⟨aC (by assumption) (by assumption), ?_⟩
   repeat' first | exact trivial | refine ⟨rfl, ?_⟩
  have hp : ¬ 0 < row.length := by have q := of_decide_eq_false h26; simp only [List.length_map] at q; omega
  have hst : eF row not (t.cols.take (k + 1)) = out ++ [c9] := by rw [hst, List.map_singleton, if_neg hp]
  have hbr : ¬ 0 < row.length := hp
  refine W.region (pE rfl (pu (build aa rfl rfl rfl rfl) rfl ?_))
  refine pu (aI aa rfl rfl rfl rfl rfl rfl rfl rfl rfl) rfl ?_
  refine br (fn := aO.c) (a := c9) aa rfl rfl rfl rfl rfl rfl rfl rfl rfl rfl (fun _ => rfl) (by show (out.length + 1) * 32 ≤ _; omega) ?_
  refine pE rfl (WO.nil (aV (qs (W.region ?_))))
  iterate 3 refine pE rfl ?_
  refine WO.nil ?_
  (have _hb : ¬ 0 < row.length := hbr; refine W.aT [0, 2] ⟨(k + 1, out ++ [c9]), ?_⟩ ?_ rfl ?_ ⟨rfl, rfl, rfl, rfl, trivial⟩ ?_ trivial rfl)
  · exact ⟨hlt, hst.symm⟩
  · dsimp only; omega
  · repeat' first | exact trivial | refine ⟨rfl, ?_⟩ | refine ⟨aC (by assumption) (by assumption), ?_⟩
  repeat' first | exact trivial | refine ⟨rfl, ?_⟩
 have hfin : out = eF row not t.cols := by rw [hI, List.take_of_length_le (by have := congrArg List.length hd; simp at this; omega)]
 refine W.exit (aK (aN (aL (qs (W.seq (W.region ?_))))))
 iterate 2 refine pE rfl ?_
 refine WO.nil (qs (W.ret (QF.ao trivial rfl ?_)))
 simp only [norm, az]; rw [hfin]; rfl
end Go.Proofs.YtjenenllmjlimaaGreat
namespace Go.Proofs.YtjenenllmjlimaaGreat
open Go.Ab Go.Tb
set_option maxRecDepth 10000
attribute [local irreducible] W WO Pu QS QB QL QF QV bQ CH QE
theorem tK (a b : bC) (z y : List aO) (on : List ByteArray) (h : ∀ s ∈ on, ∃ i j, dy a.cols s = some i ∧ i < z.length ∧ dy b.cols s = some j ∧ j < y.length) : ax Tryz.prog 30 [.ag a.c, .ag b.c, .d (.sl (z.map aO.c)), .d (.sl (y.map aO.c)), .d (.sl (on.map sc))]
  (.d (.v (.bool (fS a.cols b.cols z y on)))) 0 := by
 refine ax.aR (n := 47) (ts := [10]) Tryz.func30 (by kernel_rfl) rfl Tryz.ntmps30 Tryz.results30 rfl rfl fun C hC hG => ?_
 refine W.seq (W.region (be rfl rfl rfl (be rfl rfl rfl (pE rfl (WO.nil (qs ?_))))))
 iterate 2 refine W.seq ?_
 refine W.region (pE rfl (WO.nil (qs (W.block (W.len (t := 4) rfl rfl (fun hlen => ?_))))))
 try simp only [List.length_map, Ex.aF] at hlen
 refine W.aS (ι := {x : Nat // match x with | k => k ≤ on.length ∧ fS a.cols b.cols z y (on.drop k) = fS a.cols b.cols z y on})
  (fun x => match x.1 with | k => [(5, .ptr 0 0), (6, .ptr 1 0), (11, .d (.v (.int .i64 ((k : Nat) : Int))))]) [(2, _), (3, _), (4, _)]
  (fun x => match x.1 with | k => [(0, a.c.map A.d), (1, b.c.map A.d)]) [] [] 2 (fun x => match x.1 with | k => on.length - k)
  [0, 1] ⟨0, ?_⟩ rfl ?_ ⟨rfl, rfl, rfl, rfl, rfl, rfl, trivial⟩ ?_ trivial rfl ?_
 · exact ⟨Nat.zero_le _, rfl⟩
 · repeat' first | exact trivial | refine ⟨rfl, ?_⟩
 · repeat' first | exact trivial | refine ⟨rfl, ?_⟩
 rintro ⟨k, hk, hI⟩
 show W _ _ _ _ _ ⟨[(5, .ptr 0 0), (6, .ptr 1 0), (11, .d (.v (.int .i64 ((k : Nat) : Int)))), (2, _), (3, _), (4, _)], [(0, a.c.map A.d), (1, b.c.map A.d)], [], 2⟩
 iterate 2 refine W.seq ?_
 refine W.region ?_
 iterate 4 refine pE rfl ?_
 refine WO.nil (qs (aY (l := on) (k := k) rfl (by simp [Ex.aF, aH]) hk (fun s hx hd hlt => ?_) (fun he hd => ?_)))
 ·
  rw [hd] at hI
  obtain ⟨i, j, h1, h2, h3, h4⟩ := h s (List.mem_of_getElem? hx)
  have hI : (!decide ((ba z (bN a.cols s)).kind = 0) && decide (dJ (ba z (bN a.cols s)) (ba y (bN b.cols s)) = 0) && fS a.cols b.cols z y (on.drop (k + 1))) = fS a.cols b.cols z y on := hI
  rw [cf h1, cf h3] at hI
  have hvi := eT h2
  have hvj := eT h4
  refine W.skip (qs (W.seq (W.block (W.seq (W.jT aa 21 2 (by kernel_rfl) rfl rfl ?_)))))
  refine bq rfl (ev aa rfl) rfl ?_
  refine bq rfl (ev aa rfl) rfl ?_
  refine bq rfl (ev aa rfl) rfl ?_
  refine bq rfl (ev aa rfl) rfl ?_
  refine bq rfl (indexAddr aa rfl rfl rfl rfl rfl rfl (Int.natCast_nonneg _) (aD hx) rfl) rfl ?_
  refine bq rfl (ev aa rfl) rfl ?_
  refine bq rfl (ah rfl rfl rfl (qq a h1) rfl) rfl ?_
  refine bq rfl (indexAddr (l := (ba z i).c) aa rfl rfl rfl rfl rfl rfl (Int.natCast_nonneg _) (aD hvi) rfl) rfl ?_
  refine bq rfl (ev aa rfl) rfl ?_
  refine bq rfl (ev aa rfl) rfl ?_
  refine bq rfl (ev aa rfl) rfl ?_
  refine bq rfl (ev aa rfl) rfl ?_
  refine bq rfl (ev aa rfl) rfl ?_
  refine bq rfl (indexAddr aa rfl rfl rfl rfl rfl rfl (Int.natCast_nonneg _) (aD hx) rfl) rfl ?_
  refine bq rfl (ev aa rfl) rfl ?_
  refine bq rfl (ah rfl rfl rfl (qq b h3) rfl) rfl ?_
  refine bq rfl (indexAddr (l := (ba y j).c) aa rfl rfl rfl rfl rfl rfl (Int.natCast_nonneg _) (aD hvj) rfl) rfl ?_
  refine bq rfl (ev aa rfl) rfl ?_
  refine gB 0 rfl rfl rfl rfl rfl rfl ?_
  refine gB 1 rfl rfl rfl rfl rfl rfl ?_
  refine pg 18 0 rfl rfl rfl rfl rfl rfl rfl rfl rfl rfl rfl rfl ?_
  refine CE.nil ?_
  refine aP aa rfl rfl rfl rfl rfl rfl rfl rfl (WO.nil (qs (W.seq ?_)))
  apply aE; (case hb => rfl)
  ·
   refine pE rfl (pE rfl ?_)
   iterate 2 refine pE rfl ?_
   apply aw; (case hj => rfl); (case hl => rfl)
   ·
    iterate 4 refine aq rfl rfl rfl rfl ?_
    refine pE rfl (WO.nil (ay rfl rfl rfl))
   refine ab rfl rfl (pE rfl (ab rfl rfl (pE rfl (ab rfl rfl (pu (ah rfl rfl rfl (uI (ba z i) (ba y j)) rfl) rfl ?_)))))
   refine ab rfl rfl ?_
   iterate 2 refine pE rfl ?_
   refine WO.nil (ay rfl rfl rfl)
  refine qs (an rfl (fun h46 => ?_) (fun h46 => ?_))
  ·
   have hg : fS a.cols b.cols z y on = false := by
    rw [← hI]
    revert h46
    by_cases q1 : (ba z i).kind = 0 <;> by_cases q2 : dJ (ba z i) (ba y j) = 0 <;> simp [q1, q2]
   refine W.seq (W.region (pE rfl (WO.nil (qs (W.ret (ar (ae (aX (ar (ae (QF.ao trivial rfl ?_)))))))))))
   rw [hg]; rfl
  have hn : fS a.cols b.cols z y (on.drop (k + 1)) = fS a.cols b.cols z y on := by
   rw [← hI]
   revert h46
   by_cases q1 : (ba z i).kind = 0 <;> by_cases q2 : dJ (ba z i) (ba y j) = 0 <;> simp [q1, q2]
  refine W.skip (aV (qs (W.region ?_)))
  iterate 3 refine pE rfl ?_
  refine WO.nil (W.aT [0, 1] ⟨k + 1, ?_⟩ ?_ rfl ?_ ⟨rfl, rfl, rfl, rfl, rfl, rfl, trivial⟩ ?_ trivial rfl)
  · exact ⟨hlt, hn⟩
  · dsimp only; omega
  · repeat' first | exact trivial | refine ⟨rfl, ?_⟩ | refine ⟨aC (by assumption) (by assumption), ?_⟩
  repeat' first | exact trivial | refine ⟨rfl, ?_⟩
 rw [hd] at hI
 have hg : fS a.cols b.cols z y on = true := hI.symm
 refine W.exit (aK (aN (aL (qs (W.seq (W.region (pE rfl (WO.nil (qs (W.ret (QF.ao trivial rfl ?_)))))))))))
 rw [hg]; rfl
end Go.Proofs.YtjenenllmjlimaaGreat
namespace Go.Proofs.YtjenenllmjlimaaGreat
open Go.Ab Go.Tb
set_option maxRecDepth 10000
attribute [local irreducible] W WO Pu QS QB QL QF QV bQ CH QE
end Go.Proofs.YtjenenllmjlimaaGreat
namespace Go.Proofs.YtjenenllmjlimaaGreat
open Go.Ab Go.Tb
set_option maxRecDepth 10000
attribute [local irreducible] W WO Pu QS QB QL QF QV bQ CH QE
end Go.Proofs.YtjenenllmjlimaaGreat
namespace Go.Proofs.YtjenenllmjlimaaGreat
open Go.Ab Go.Tb
set_option maxRecDepth 10000
attribute [local irreducible] W WO Pu QS QB QL QF QV bQ CH QE
def gg (bs : List (List aO)) : Option Nat → List aO
 | none => []
 | some i => dh bs i
theorem rB (a b : bC) (z : List aO) (on : List ByteArray) (o : nZ) (hok : sU a b on [aQ]) (ho : uN a b on = o) (hz : z ∈ a.rows) : ax Tryz.prog 35 [.ag a.c, .ag b.c, .d (.sl (z.map aO.c)), .d (.sl (on.map sc))]
  (.d (.sl ((gg b.rows (fm o b.rows z b.rows 0 none)).map aO.c))) 0 := by
 have hbz := dq hok.gb
 have hra := eM hok.ga
 have hrb := eM hok.gb
 have hlmb : b.rows.length ≤ maxLen := by simp only [maxLen]; omega
 obtain ⟨a0, ca0, ha0, ha0c, ha0t⟩ := hok.spa aQ (by simp)
 obtain ⟨b0, cb0, hb0, hb0c, hb0t⟩ := hok.spb aQ (by simp)
 have oa0 : o.m = a0 := by rw [← ho]; exact cf ha0
 have ob0 : o.t = b0 := by rw [← ho]; exact cf hb0
 rw [← oa0] at ha0 ha0c
 rw [← ob0] at hb0 hb0c
 have hzl := (hra z hz).1
 have hzm : z[o.m]? = some (ba z o.m) := eT (by rw [hzl]; exact (List.getElem?_eq_some_iff.1 ha0c).1)
 refine ax.aR (n := 81) (ts := [8]) Tryz.func35 (by kernel_rfl) rfl Tryz.ntmps35 Tryz.results35 rfl rfl fun C hC hG => ?_
 refine W.seq (W.region (be rfl rfl rfl (be rfl rfl rfl (pE rfl (WO.nil (qs (W.seq (W.region (pE rfl (WO.nil (qs (W.seq (W.region ?_)))))))))))))
 refine pE rfl (pE rfl (pu (ah rfl rfl rfl (qq a ha0) rfl) rfl ?_))
 refine pu (indexAddr (l := (ba z o.m).c) aa rfl rfl rfl rfl rfl rfl (Int.natCast_nonneg _) (aD hzm) rfl) rfl ?_
 refine pE rfl (a7 aa rfl rfl rfl (aP aa rfl rfl rfl rfl rfl rfl rfl rfl (WO.nil (qs (W.seq (W.region (pE rfl (pu (ah rfl rfl rfl (qq b hb0) rfl) rfl ?_))))))))
 refine pE rfl (WO.nil (qs ?_))
 iterate 2 refine W.seq ?_
 refine W.region (pE rfl (WO.nil (qs (W.block (aG (d := 9) rfl rfl ?_)))))
 refine nT 9 rfl rfl ?_
 refine W.aS (ι := {x : Nat × Option Nat // match x with | (j, best) => j ≤ b.rows.length ∧ (∀ i, best = some i → i < b.rows.length) ∧ fm o b.rows z (b.rows.drop j) j best = fm o b.rows z b.rows 0 none})
  (fun x => match x.1 with | (j, best) => [(4, .ptr 0 0), (5, .ptr 1 0), (9, .d (.sl ((gg b.rows best).map aO.c))), (10, .ptr 2 0), (12, .d (.v (.int .i64 ((j : Nat) : Int))))]) [(2, _), (3, _), (11, _)]
  (fun x => match x.1 with | (j, best) => [(0, a.c.map A.d), (1, b.c.map A.d), (2, (ba z o.m).c.map A.d)]) [] [] 3 (fun x => match x.1 with | (j, best) => b.rows.length - j)
  [0, 1, 2] ⟨(0, none), ?_⟩ rfl ?_ ⟨rfl, rfl, rfl, rfl, rfl, rfl, trivial⟩ ?_ trivial rfl ?_
 · exact ⟨Nat.zero_le _, (fun i h => by cases h), rfl⟩
 · repeat' first | exact trivial | refine ⟨rfl, ?_⟩
 · repeat' first | exact trivial | refine ⟨rfl, ?_⟩
 rintro ⟨⟨j, best⟩, hk, hbl, hJ⟩
 show W _ _ _ _ _ ⟨[(4, .ptr 0 0), (5, .ptr 1 0), (9, .d (.sl ((gg b.rows best).map aO.c))), (10, .ptr 2 0), (12, .d (.v (.int .i64 ((j : Nat) : Int)))), (2, _), (3, _), (11, _)], [(0, a.c.map A.d), (1, b.c.map A.d), (2, (ba z o.m).c.map A.d)], [], 3⟩
 iterate 2 refine W.seq ?_
 refine W.region ?_
 iterate 2 refine pE rfl ?_
 refine pE rfl ?_
 iterate 2 refine pE rfl ?_
 refine WO.nil (qs (aY (l := b.rows) (k := j) rfl (by simp [Ex.aF, aH]) hk (fun y hx hd hlt => ?_) (fun he hd => ?_)))
 ·
  rw [hd] at hJ
  simp only [fm] at hJ
  have hym := List.mem_of_getElem? hx
  have hyl := (hrb y hym).1
  have hyt : (y.map aO.c)[((o.t : Nat) : Int).toNat]? = some (ba y o.t).c := aD (eT (by rw [hyl]; exact (List.getElem?_eq_some_iff.1 hb0c).1))
  have hag := tK a b z y on (fun s hs => by
   obtain ⟨i, j, c, d, h1, h2, h3, h4, _⟩ := hok.ons s hs
   exact ⟨i, j, h1, by rw [hzl]; exact (List.getElem?_eq_some_iff.1 h3).1, h2, by rw [hyl]; exact (List.getElem?_eq_some_iff.1 h4).1⟩)
  rw [p9 hok.ga hok.gb hz hym hok.ons] at hag
  have hag : ax Tryz.prog 30 [.ag a.c, .ag b.c, .d (.sl (z.map aO.c)), .d (.sl (y.map aO.c)), .d (.sl (on.map sc))] (.d (.v (.bool (eu (bp z o.left) (bp y o.right))))) 0 := by rw [← ho]; exact hag
  have hbt : ∀ h : decide (((gg b.rows best).map aO.c).length = 0) = false, ((gg b.rows best).map aO.c)[((o.t : Nat) : Int).toNat]? = some (ba (gg b.rows best) o.t).c := by
   intro h
   cases best with
   | none => exact absurd rfl (of_decide_eq_false h)
   | some i =>
    have hr := gv (hbl i rfl)
    refine aD (eT ?_)
    show o.t < (dh b.rows i).length
    rw [(hrb _ (List.mem_of_getElem? hr)).1]
    exact (List.getElem?_eq_some_iff.1 hb0c).1
  refine W.skip (qs (W.seq (W.block (W.seq (W.region (pE rfl (pE rfl (pE rfl (pu (indexAddr aa rfl rfl rfl rfl rfl rfl (Int.natCast_nonneg _) (aD hx) rfl) rfl ?_)))))))))
  refine pE rfl (pE rfl (WO.nil (qs ?_)))
  iterate 2 refine W.seq ?_
  apply gp aa; (case hb => rfl); (case hB => kernel_rfl)
  ·
   refine ak (ev aa rfl) rfl ?_
   refine ak (ev aa rfl) rfl ?_
   iterate 2 refine ak (ev aa rfl) rfl ?_
   apply eG; (case hj => rfl); (case hl => rfl)
   ·
    intro g36
    iterate 6 refine bt rfl rfl rfl rfl ?_
    iterate 2 refine ak (ev aa rfl) rfl ?_
    iterate 8 refine bt rfl rfl rfl rfl ?_
    iterate 2 refine ak (ev aa rfl) rfl ?_
    iterate 7 refine bt rfl rfl rfl rfl ?_
    refine ak (ev aa rfl) rfl ?_
    refine CH.nil ?_
    refine ay rfl rfl rfl
   intro g36
   refine aB rfl rfl (ev aa rfl) rfl ?_
   refine aB rfl rfl (ev aa rfl) rfl ?_
   refine aB rfl rfl (indexAddr (l := (ba y o.t).c) aa rfl rfl rfl rfl rfl rfl (Int.natCast_nonneg _) hyt rfl) rfl ?_
   refine aB rfl rfl (ev aa rfl) rfl ?_
   refine aB rfl rfl (ev aa rfl) rfl ?_
   refine aB rfl rfl (ev aa rfl) rfl ?_
   iterate 2 refine ak (ev aa rfl) rfl ?_
   apply eG; (case hj => rfl); (case hl => rfl)
   ·
    intro g44
    iterate 8 refine bt rfl rfl rfl rfl ?_
    iterate 2 refine ak (ev aa rfl) rfl ?_
    iterate 7 refine bt rfl rfl rfl rfl ?_
    refine ak (ev aa rfl) rfl ?_
    refine CH.nil ?_
    refine ay rfl rfl rfl
   intro g44
   refine aB rfl rfl (ev aa rfl) rfl ?_
   refine aB rfl rfl (ev aa rfl) rfl ?_
   refine aB rfl rfl (indexAddr (l := (ba y o.t).c) aa rfl rfl rfl rfl rfl rfl (Int.natCast_nonneg _) hyt rfl) rfl ?_
   refine aB rfl rfl (ev aa rfl) rfl ?_
   refine aB rfl rfl (ev aa rfl) rfl ?_
   refine aB rfl rfl (ev aa rfl) rfl ?_
   refine aB rfl rfl (ev aa rfl) rfl ?_
   refine aB rfl rfl (ev aa rfl) rfl ?_
   iterate 2 refine ak (ev aa rfl) rfl ?_
   apply eG; (case hj => rfl); (case hl => rfl)
   ·
    intro g54
    iterate 7 refine bt rfl rfl rfl rfl ?_
    refine ak (ev aa rfl) rfl ?_
    refine CH.nil ?_
    refine ay rfl rfl rfl
   intro g54
   refine aB rfl rfl (ev aa rfl) rfl ?_
   refine aB rfl rfl (ev aa rfl) rfl ?_
   refine aB rfl rfl (ev aa rfl) rfl ?_
   refine aB rfl rfl (ev aa rfl) rfl ?_
   refine aB rfl rfl (ev aa rfl) rfl ?_
   refine aB rfl rfl (ah rfl rfl rfl hag rfl) rfl ?_
   refine aB rfl rfl (ev aa rfl) rfl ?_
   refine ak (ev aa rfl) rfl ?_
   refine CH.nil ?_
   refine ay rfl rfl rfl
  refine qs (an rfl (fun h62 => ?_) (fun h62 => ?_))
  ·
   have hsk : gE o z y = true := by
    revert h62
    unfold gE
    cases decide ((ba z o.m).kind = 0) <;> cases decide ((ba y o.t).kind = 0) <;> cases decide ((ba z o.m).n < (ba y o.t).n) <;> cases eu (bp z o.left) (bp y o.right) <;> simp
   rw [if_pos hsk] at hJ
   have hbr : gE o z y = true ∨ False := .inl hsk
   refine W.exit (aK (aL (qs (W.region ?_))))
   iterate 3 refine pE rfl ?_
   refine WO.nil (W.aT [0, 1, 2] ⟨(j + 1, best), ?_⟩ ?_ rfl ?_ ⟨rfl, rfl, rfl, rfl, rfl, rfl, trivial⟩ ?_ trivial rfl)
   · exact ⟨hlt, (by first | exact hbl | (intro i h; cases h; exact hlt)), hJ⟩
   · dsimp only; omega
   · repeat' first | exact trivial | refine ⟨rfl, ?_⟩ | refine ⟨aC (by assumption) (by assumption), ?_⟩
   repeat' first | exact trivial | refine ⟨rfl, ?_⟩
  have hsk : gE o z y = false := by
   revert h62
   unfold gE
   cases decide ((ba z o.m).kind = 0) <;> cases decide ((ba y o.t).kind = 0) <;> cases decide ((ba z o.m).n < (ba y o.t).n) <;> cases eu (bp z o.left) (bp y o.right) <;> simp
  rw [if_neg (by simp [hsk])] at hJ
  refine W.skip (qs (W.seq ?_))
  apply gp aa; (case hb => rfl); (case hB => kernel_rfl)
  ·
   iterate 4 refine ak (ev aa rfl) rfl ?_
   apply eG; (case hj => rfl); (case hl => rfl)
   ·
    intro g66
    iterate 11 refine bt rfl rfl rfl rfl ?_
    refine ak (ev aa rfl) rfl ?_
    refine CH.nil ?_
    refine ay rfl rfl rfl
   intro g66
   refine aB rfl rfl (ev aa rfl) rfl ?_
   refine aB rfl rfl (ev aa rfl) rfl ?_
   refine aB rfl rfl (indexAddr (l := (ba y o.t).c) aa rfl rfl rfl rfl rfl rfl (Int.natCast_nonneg _) hyt rfl) rfl ?_
   refine aB rfl rfl (ev aa rfl) rfl ?_
   refine aB rfl rfl (ev aa rfl) rfl ?_
   refine aB rfl rfl (ev aa rfl) rfl ?_
   refine aB rfl rfl (ev aa rfl) rfl ?_
   refine aB rfl rfl (indexAddr (l := (ba (gg b.rows best) o.t).c) aa rfl rfl rfl rfl rfl rfl (Int.natCast_nonneg _) (hbt (by have := g66; revert this; simp)) rfl) rfl ?_
   refine aB rfl rfl (ev aa rfl) rfl ?_
   refine aB rfl rfl (ev aa rfl) rfl ?_
   refine aB rfl rfl (ev aa rfl) rfl ?_
   refine ak (ev aa rfl) rfl ?_
   refine CH.nil ?_
   refine ay rfl rfl rfl
  refine qs (an rfl (fun h78 => ?_) (fun h78 => ?_))
  ·
   have hup : idx best < 0 ∨ (ba (dh b.rows (idx best).toNat) o.t).n ≤ (ba y o.t).n := by
    cases best with
    | none => exact .inl (by decide)
    | some i =>
     right
     have hl : (gg b.rows (some i)).length ≠ 0 := by
      show (dh b.rows i).length ≠ 0
      rw [(hrb _ (List.mem_of_getElem? (gv (hbl i rfl)))).1]
      have := (List.getElem?_eq_some_iff.1 hb0c).1
      omega
     have e : gg b.rows (some i) = dh b.rows (idx (some i)).toNat := rfl
     rw [e] at hl h78
     revert h78
     simp [hl]
   rw [if_pos hup] at hJ
   have hyr : dh b.rows j = y := Option.some.inj ((gv hlt).symm.trans hx)
   subst hyr
   have hbr : True ∧ True := ⟨trivial, trivial⟩
   refine W.region ?_
   iterate 2 refine pE rfl ?_
   refine WO.nil (aV (qs (W.region ?_)))
   iterate 3 refine pE rfl ?_
   refine WO.nil ?_
   (have _hb : True ∧ True := hbr; refine W.aT [0, 1, 2] ⟨(j + 1, some j), ?_⟩ ?_ rfl ?_ ⟨rfl, rfl, rfl, rfl, rfl, rfl, trivial⟩ ?_ trivial rfl)
   · exact ⟨hlt, (by first | exact hbl | (intro i h; cases h; exact hlt)), hJ⟩
   · dsimp only; omega
   · repeat' first | exact trivial | refine ⟨rfl, ?_⟩ | refine ⟨aC (by assumption) (by assumption), ?_⟩
   repeat' first | exact trivial | refine ⟨rfl, ?_⟩
  have hup : ¬ (idx best < 0 ∨ (ba (dh b.rows (idx best).toNat) o.t).n ≤ (ba y o.t).n) := by
   cases best with
   | none => exfalso; revert h78; simp [gg]
   | some i =>
    have hl : (gg b.rows (some i)).length ≠ 0 := by
     show (dh b.rows i).length ≠ 0
     rw [(hrb _ (List.mem_of_getElem? (gv (hbl i rfl)))).1]
     have := (List.getElem?_eq_some_iff.1 hb0c).1
     omega
    have e : gg b.rows (some i) = dh b.rows (idx (some i)).toNat := rfl
    have hi0 : ¬ idx (some i) < 0 := by show ¬ ((i : Int) < 0); omega
    rw [e] at hl h78
    revert h78
    simp [hl, hi0]
  rw [if_neg hup] at hJ
  have hbr : gE o z y = true ∨ False ∨ True := .inr (.inr trivial)
  refine W.skip (aV (qs (W.region ?_)))
  iterate 3 refine pE rfl ?_
  refine WO.nil (W.aT [0, 1, 2] ⟨(j + 1, best), ?_⟩ ?_ rfl ?_ ⟨rfl, rfl, rfl, rfl, rfl, rfl, trivial⟩ ?_ trivial rfl)
  · exact ⟨hlt, (by first | exact hbl | (intro i h; cases h; exact hlt)), hJ⟩
  · dsimp only; omega
  · repeat' first | exact trivial | refine ⟨rfl, ?_⟩ | refine ⟨aC (by assumption) (by assumption), ?_⟩
  repeat' first | exact trivial | refine ⟨rfl, ?_⟩
 rw [hd] at hJ
 simp only [fm] at hJ
 refine W.exit (aK (aN (aL (qs (W.seq (W.region ?_))))))
 iterate 2 refine pE rfl ?_
 refine WO.nil (qs (W.ret (QF.ao trivial rfl ?_)))
 simp only [norm, az]; rw [hJ]
end Go.Proofs.YtjenenllmjlimaaGreat
namespace Go.Proofs.YtjenenllmjlimaaGreat
open Go.Ab Go.Tb
set_option maxRecDepth 10000
attribute [local irreducible] W WO Pu QS QB QL QF QV bQ CH QE
theorem qT {o : nZ} {bs : List (List aO)} (cols : List Col) (not : List ByteArray) (hm : cE not cols 0 = o.more) (best : Option Nat) (hb : ∀ i, best = some i → 0 < (dh bs i).length) : eF (gg bs best) not cols = kX o bs best := by
 cases best with
 | none =>
  show (cE not cols 0).map (fun i => if 0 < ([] : List aO).length then ba [] i else c9) = List.replicate o.more.length c9
  rw [hm]
  induction o.more with
  | nil => rfl
  | cons x r ih => rw [List.map_cons, ih]; rfl
 | some i =>
  show eF (dh bs i) not cols = bp (dh bs i) o.more
  rw [sN (hb i rfl), hm]
theorem kr {o : nZ} {bs : List (List aO)} {z : List aO} {n : Nat} : ∀ (l : List (List aO)) (k : Nat) (b0 : Option Nat), (∀ i, b0 = some i → i < n) → k + l.length ≤ n → ∀ i, fm o bs z l k b0 = some i → i < n
 | [], _, _, h, _, i, hi => h i hi
 | y :: r, k, b0, h, hk, i, hi => by
  rw [List.length_cons] at hk
  simp only [fm] at hi
  split at hi
  · exact kr r (k + 1) b0 h (by omega) i hi
  split at hi
  · exact kr r (k + 1) (some k) (fun j hj => by cases hj; omega) (by omega) i hi
  exact kr r (k + 1) b0 h (by omega) i hi
theorem qH (a b : bC) (on : List ByteArray) (hon : on.length ≤ 400) : ax Tryz.prog 12 [.ag a.c, .ag b.c, .d (.sl (on.map sc))]
  (.tup [.ag (cY a b on).1.c, .d (.v (.int .i64 (cY a b on).2))]) 0 := by
 have hcol := rG 8 on a b hon (.inr (.inl rfl))
 rw [show iF 8 on a b = dK 8 on a b from rfl] at hcol
 obtain ⟨CT0, hCT⟩ : ∃ c, dK 8 on a b = c := ⟨_, rfl⟩
 rw [hCT] at hcol
 refine ax.fx aa (n := 64) (rs := [.cell 6 25, .tmp 7]) Tryz.func12 (by kernel_rfl) rfl Tryz.ntmps12 Tryz.results12 rfl fun C hC hG => ?_
 refine W.seq (W.region (be rfl rfl rfl (be rfl rfl rfl (a7 aa rfl rfl rfl (pE rfl (WO.nil (qs (W.seq (W.region (pE rfl (pE rfl (pE rfl (pu (ah rfl rfl rfl hcol rfl) rfl ?_)))))))))))))
 iterate 5 refine pE rfl ?_
 refine WO.nil (qs ?_)
 iterate 2 refine W.seq ?_
 refine W.region ?_
 iterate 2 refine pE rfl ?_
 refine WO.nil (qs (an rfl (fun h22 => ?_) (fun h22 => ?_)))
 ·
  have he : CT0.2 ≠ 0 := by simpa using h22
  have hg : cY a b on = (gh, CT0.2) := by unfold cY; rw [hCT, if_pos he]
  refine W.seq (W.region (pu (build aa rfl rfl rfl rfl) rfl ?_))
  refine pE rfl (aP aa rfl rfl rfl rfl rfl rfl rfl rfl (pE rfl (WO.nil (qs ?_))))
  try refine ck 2 0 rfl rfl rfl ?_
  try refine ck 2 1 rfl rfl rfl ?_
  refine W.ret (ae (QV.ao aa trivial rfl ?_))
  (rw [hg]; rfl)
 have he : CT0.2 = 0 := by simpa using h22
 have hok := tZ (.inr rfl) (by rw [hCT]; exact he)
 have haz := dq hok.ga
 have hbz := dq hok.gb
 have hol := hok.len
 have hra := eM hok.ga
 have hrb := eM hok.gb
 have hlma : a.rows.length ≤ maxLen := by simp only [maxLen]; omega
 obtain ⟨o, ho⟩ : ∃ o, uN a b on = o := ⟨_, rfl⟩
 have hgo : cY a b on = (⟨CT0.1, a.rows.map (fJ o b.rows)⟩, 0) := by unfold cY; rw [hCT, if_neg (by simp [he]), ho]
 have e8 : aM 8 = [aQ] := rfl
 rw [e8] at hok
 have hmore : cE ([aQ] ++ on) b.cols 0 = o.more := by rw [sJ, ← ho]; rfl
 have hcp : 0 < b.cols.length := by
  obtain ⟨i, c, _, h2, _⟩ := hok.spb aQ (by simp)
  have := (List.getElem?_eq_some_iff.1 h2).1
  omega
 refine W.skip (qs (W.seq (W.region (pE rfl (pu (build aa rfl rfl rfl rfl) rfl ?_)))))
 refine a7 aa rfl rfl rfl (aP aa rfl rfl rfl rfl rfl rfl rfl rfl (WO.nil (qs (W.seq (W.region (jV aa rfl rfl rfl rfl rfl rfl rfl rfl (by rfl) ?_))))))
 refine pE rfl (cP (fn := sc) (l := [aQ]) (l2 := on) aa rfl rfl rfl rfl rfl rfl rfl rfl rfl rfl (fun _ => rfl) (by show (1 + on.length) * 16 ≤ _; omega) ?_)
 refine pE rfl (WO.nil (qs ?_))
 iterate 2 refine W.seq ?_
 refine nT 11 rfl rfl ?_
 refine W.region (pE rfl (WO.nil (qs (W.block (eZ 3 1 rfl rfl rfl ?_)))))
 refine W.aS (ι := {x : Nat × List (List aO) // match x with | (i, out) => i ≤ a.rows.length ∧ out = (a.rows.take i).map (fJ o b.rows)})
  (fun x => match x.1 with | (i, out) => [(3, .ptr 0 0), (4, .ptr 1 0), (6, .ptr 2 0), (10, .ptr 3 0), (12, .d (.v (.int .i64 ((i : Nat) : Int))))]) [(2, _), (11, _)]
  (fun x => match x.1 with | (i, out) => [(0, a.c.map A.d), (1, b.c.map A.d), (2, [.d (.v (.slice none 0 0)), .d (.v (.slice none 0 0))]), (3, [.d (.sl (CT0.1.map Col.c)), .own 4 (out.map rc)])]) [] [4] 5 (fun x => match x.1 with | (i, out) => a.rows.length - i)
  [0, 1, 2, 3, 6] ⟨(0, []), ?_⟩ rfl ?_ ⟨rfl, rfl, rfl, rfl, trivial⟩ ?_ trivial rfl ?_
 · exact ⟨Nat.zero_le _, rfl⟩
 · repeat' first | exact trivial | refine ⟨rfl, ?_⟩
 · repeat' first | exact trivial | refine ⟨rfl, ?_⟩
 rintro ⟨⟨i, out⟩, hk, hI⟩
 show W _ _ _ _ _ ⟨[(3, .ptr 0 0), (4, .ptr 1 0), (6, .ptr 2 0), (10, .ptr 3 0), (12, .d (.v (.int .i64 ((i : Nat) : Int)))), (2, _), (11, _)], [(0, a.c.map A.d), (1, b.c.map A.d), (2, [.d (.v (.slice none 0 0)), .d (.v (.slice none 0 0))]), (3, [.d (.sl (CT0.1.map Col.c)), .own 4 (out.map rc)])], [4], 5⟩
 iterate 2 refine W.seq ?_
 refine W.region ?_
 iterate 2 refine pE rfl ?_
 refine pE rfl ?_
 iterate 2 refine pE rfl ?_
 refine WO.nil (qs (aY (l := a.rows) (k := i) rfl (by simp [Ex.aF, aH]) hk (fun z hx hd hlt => ?_) (fun he hd => ?_)))
 ·
  have hxm := List.mem_of_getElem? hx
  have hxl := (hra z hxm).1
  have hoi : out.length ≤ 20000 := by rw [hI, List.length_map, List.length_take]; omega
  have hnf := rB a b z on o hok ho hxm
  obtain ⟨best, hbest⟩ : ∃ q, fm o b.rows z b.rows 0 none = q := ⟨_, rfl⟩
  rw [hbest] at hnf
  have hbl : ∀ i, best = some i → 0 < (dh b.rows i).length := fun i hi => by
   have h1 := kr (n := b.rows.length) b.rows 0 none (fun i h => nomatch h) (by omega) i (hbest.trans hi)
   rw [(hrb _ (List.mem_of_getElem? (gv h1))).1]
   exact hcp
  have hothf := sv b (gg b.rows best) ([aQ] ++ on) (by omega) (by
   cases best with
   | none => exact .inl rfl
   | some i =>
    right
    have h1 := kr (n := b.rows.length) b.rows 0 none (fun i h => nomatch h) (by omega) i hbest
    show _ ≤ (dh b.rows i).length
    rw [(hrb _ (List.mem_of_getElem? (gv h1))).1]
    exact Nat.le_refl _)
  have hbl2 := hbl
  rw [qT b.cols ([aQ] ++ on) hmore best hbl] at hothf
  have hrow : fJ o b.rows z = z ++ kX o b.rows best := by unfold fJ; rw [hbest]
  have hfl : (kX o b.rows best).length ≤ 32 := by
   rw [← qT b.cols ([aQ] ++ on) hmore best hbl2]
   unfold eF
   rw [List.length_map]
   have := iq ([aQ] ++ on) b.cols 0
   omega
  refine W.skip (qs (W.seq (W.block (W.seq (W.region (jV aa rfl rfl rfl rfl rfl rfl rfl rfl (by rfl) ?_))))))
  refine pE rfl (pE rfl (pE rfl (pu (indexAddr aa rfl rfl rfl rfl rfl rfl (Int.natCast_nonneg _) (aD hx) rfl) rfl ?_)))
  refine pE rfl (cP (l := []) (fn := aO.c) (l2 := z) aa rfl rfl rfl rfl rfl rfl rfl rfl rfl rfl (fun _ => rfl) (by show (0 + z.length) * 32 ≤ _; omega) ?_)
  refine pE rfl (WO.nil (qs ?_))
  apply W.iw aa 17 15; (case hB => kernel_rfl); (case h1 => rfl); (case h2 => rfl)
  refine' bw ?p1_1 (ev aa rfl) rfl rfl rfl rfl rfl ?h_1
  case' h_1 => skip
  refine' bw ?p1_2 (ev aa rfl) rfl rfl rfl rfl rfl ?h_2
  case' h_2 => skip
  refine' bk (ev aa rfl) rfl rfl rfl rfl rfl ?h_3
  case' h_3 => skip
  refine' bw ?p1_4 (ev aa rfl) rfl rfl rfl rfl rfl ?h_4
  case' h_4 => skip
  refine' bw ?p1_5 (ev aa rfl) rfl rfl rfl rfl rfl ?h_5
  case' h_5 => skip
  refine' bw ?p1_6 (ev aa rfl) rfl rfl rfl rfl rfl ?h_6
  case' h_6 => skip
  refine' bw ?p1_7 (ev aa rfl) rfl rfl rfl rfl rfl ?h_7
  case' h_7 => skip
  refine' bw ?p1_8 (ev aa rfl) rfl rfl rfl rfl rfl ?h_8
  case' h_8 => skip
  refine' bw ?p1_9 (ev aa rfl) rfl rfl rfl rfl rfl ?h_9
  case' h_9 => skip
  refine' bw ?p1_10 (indexAddr aa rfl rfl rfl rfl rfl rfl (Int.natCast_nonneg _) (aD hx) rfl) rfl rfl rfl rfl rfl ?h_10
  case' h_10 => skip
  refine' bw ?p1_11 (ev aa rfl) rfl rfl rfl rfl rfl ?h_11
  case' h_11 => skip
  refine' bw ?p1_12 (ev aa rfl) rfl rfl rfl rfl rfl ?h_12
  case' h_12 => skip
  refine' bw ?p1_13 (ah rfl rfl rfl hnf rfl) rfl rfl rfl rfl rfl ?h_13
  case' h_13 => skip
  refine' bw ?p1_14 (ev aa rfl) rfl rfl rfl rfl rfl ?h_14
  case' h_14 => skip
  refine' bk (ah rfl rfl rfl hothf rfl) rfl rfl rfl rfl rfl ?h_15
  case' h_15 => skip
  refine' x7 (fun g => ?e_16) rfl rfl rfl ?h_16
  case e_16 =>
   refine cP (fn := aO.c) (l := z) (l2 := kX o b.rows best) aa rfl rfl rfl rfl rfl rfl rfl rfl rfl rfl (fun _ => rfl) (by show (z.length + _) * 32 ≤ _; omega) ?_
   refine WO.nil ?_
   exact ⟨rfl, rfl⟩
  case' h_16 => skip
  case p1_1 => exact (ev aa rfl)
  case p1_2 => exact (ev aa rfl)
  case p1_4 => exact (ev aa rfl)
  case p1_5 => exact (ev aa rfl)
  case p1_6 => exact (ev aa rfl)
  case p1_7 => exact (ev aa rfl)
  case p1_8 => exact (ev aa rfl)
  case p1_9 => exact (ev aa rfl)
  case p1_10 => exact (indexAddr aa rfl rfl rfl rfl rfl rfl (Int.natCast_nonneg _) (aD hx) rfl)
  case p1_11 => exact (ev aa rfl)
  case p1_12 => exact (ev aa rfl)
  case p1_13 => exact (ah rfl rfl rfl hnf rfl)
  case p1_14 => exact (ev aa rfl)
  refine xq (aI aa rfl rfl rfl rfl rfl rfl rfl rfl rfl) rfl rfl rfl rfl rfl ?_
  refine CC.nil ?_
  refine br (fn := rc) (a := fJ o b.rows z) aa rfl rfl (by rw [hrow]; rfl) rfl rfl rfl rfl rfl rfl rfl (fun _ => rfl) (by show (out.length + 1) * 24 ≤ _; omega) ?_
  refine pE rfl (aP aa rfl rfl rfl rfl rfl rfl rfl rfl (WO.nil (aV (qs (W.region ?_)))))
  iterate 3 refine pE rfl ?_
  refine WO.nil (W.aT [0, 1, 2, 3, 8] ⟨(i + 1, out ++ [fJ o b.rows z]), ?_⟩ ?_ rfl ?_ ⟨rfl, rfl, rfl, rfl, trivial⟩ ?_ trivial rfl)
  · exact ⟨hlt, by rw [hI, List.take_add_one, hx]; simp⟩
  · dsimp only; omega
  · repeat' first | exact trivial | refine ⟨rfl, ?_⟩ | refine ⟨aC (by assumption) (by assumption), ?_⟩
  repeat' first | exact trivial | refine ⟨rfl, ?_⟩
 have hfin : out = a.rows.map (fJ o b.rows) := by rw [hI, List.take_of_length_le (by have := congrArg List.length hd; simp at this; omega)]
 have hg : cY a b on = (⟨CT0.1, out⟩, 0) := by rw [hgo, hfin]
 refine W.exit (aK (aN (aL (qs (W.seq (W.region (pE rfl (aP aa rfl rfl rfl rfl rfl rfl rfl rfl (pE rfl (WO.nil (qs ?_)))))))))))
 try refine ck 2 0 rfl rfl rfl ?_
 try refine ck 2 1 rfl rfl rfl ?_
 refine W.ret (QV.ao aa trivial rfl ?_)
 (rw [hg]; rfl)
end Go.Proofs.YtjenenllmjlimaaGreat
namespace Go.Proofs.YtjenenllmjlimaaGreat
open Go.Ab Go.Tb
set_option maxRecDepth 10000
attribute [local irreducible] W WO Pu QS QB QL QF QV bQ CH QE
theorem rJ (a b : bC) (on : List ByteArray) : ax Tryz.prog 4 [.ag a.c, .ag b.c, .d (.sl (on.map sc))] (.d (.v (.bool true))) 0 := by
 have hs : ∀ t : bC, ax Tryz.prog 10 [.ag t.c, .ag t.c] (.d (.v (.bool true))) 0 := fun t => by have := ru t t; rw [decide_eq_true (rfl : t = t)] at this; exact this
 refine ax.aR (n := 42) (ts := [6]) Tryz.func4 (by kernel_rfl) rfl Tryz.ntmps4 Tryz.results4 rfl rfl fun C hC hG => ?_
 refine W.seq (W.region (be rfl rfl rfl (be rfl rfl rfl (pE rfl (WO.nil (qs ?_))))))
 iterate 2 refine W.seq ?_
 refine W.region (pE rfl (pE rfl (pE rfl (pu (ah rfl rfl rfl (vS a b on) rfl) rfl ?_))))
 refine pE rfl (WO.nil (qs (an rfl (fun h15 => ?_) (fun h15 => ?_))))
 ·
  refine W.seq (W.region (pu (ah rfl rfl rfl pX rfl) rfl ?_))
  refine pE rfl (WO.nil (qs (W.ret (ae (QF.ao trivial rfl ?_)))))
  rfl
 have hfew : oI a b on = true := by simpa using h15
 have hon := (uU hfew).1
 refine W.skip (qs (W.seq (W.region (pE rfl (pE rfl (pE rfl (pu (ah rfl rfl rfl (nW a b on (by omega)) rfl) rfl ?_)))))))
 iterate 3 refine pE rfl ?_
 refine a7 aa rfl rfl rfl (aP aa rfl rfl rfl rfl rfl rfl rfl rfl (pE rfl (WO.nil (qs (W.seq (W.region (pE rfl (pE rfl (pE rfl (pu (ah rfl rfl rfl (qH a b on (by omega)) rfl) rfl ?_))))))))))
 iterate 3 refine pE rfl ?_
 refine a7 aa rfl rfl rfl (aP aa rfl rfl rfl rfl rfl rfl rfl rfl (pE rfl (WO.nil (qs (W.seq ?_)))))
 apply aE; (case hb => rfl)
 ·
  refine pE rfl (pE rfl (pu (ah rfl rfl rfl (hs (cY a b on).1) rfl) rfl ?_))
  refine pE rfl ?_
  apply aw; (case hj => rfl); (case hl => rfl)
  ·
   refine ab rfl rfl (pE rfl (ab rfl rfl (pE rfl (ab rfl rfl ?_))))
   iterate 3 refine pE rfl ?_
   apply aw; (case hj => rfl); (case hl => rfl)
   ·
    refine ab rfl rfl (pu (ah rfl rfl rfl pX rfl) rfl ?_)
    iterate 2 refine pE rfl ?_
    refine WO.nil (ay rfl rfl rfl)
   refine aq rfl rfl rfl rfl ?_
   iterate 2 refine pE rfl ?_
   refine WO.nil (ay rfl rfl rfl)
  iterate 3 refine aq rfl rfl rfl rfl ?_
  iterate 2 refine pE rfl ?_
  refine aq rfl rfl rfl rfl ?_
  iterate 2 refine pE rfl ?_
  refine WO.nil (ay rfl rfl rfl)
 refine qs (W.ret (QF.ao trivial rfl ?_))
 (simp only [norm, az]; simp; done)
end Go.Proofs.YtjenenllmjlimaaGreat
