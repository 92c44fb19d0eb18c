import Derived.Test.YtjenenllmjlimaaGreatQ5
namespace Go.Proofs.YtjenenllmjlimaaGreat
open Go.Ab Go.Tb
set_option maxRecDepth 10000
attribute [local irreducible] W WO Pu QS QB QL QF QV bR CH QE
theorem v3 (m : Nat) : List.replicate m (([.int .i64 0, .int .i64 0, .string (B #[])] : List Value).map D.v) = (List.replicate m dq).map aM.c := by
 rw [List.map_replicate]
 rfl
theorem sD (a b : bt) (on : List ByteArray) (hon : on.length ≤ 400) : ax Tryz.prog 11 [.ag a.c, .ag b.c, .d (.sl (on.map sc))]
  (.tup [.ag (gf a b on).1.c, .d (.v (.int .i64 (gf a b on).2))]) 0 := by
 have hcol := jl 8 on [a, b] (by simp) hon
 rw [og] at hcol
 obtain ⟨CT0, hCT⟩ : ∃ c, dJ 8 on a b = c := ⟨_, rfl⟩
 rw [hCT] at hcol
 refine ax.eQ aa (n := 143) (rs := [.cell 6 25, .tmp 7]) Tryz.func11 (by kernel_rfl) rfl Tryz.ntmps11 Tryz.results11 rfl fun C hC hG => ?_
 refine W.seq (W.region (bg rfl rfl rfl (bg rfl rfl rfl (a8 aa rfl rfl rfl (pE rfl (WO.nil (qs (W.seq (W.region (pE rfl (pE rfl (pE rfl (pu (aI aa rfl rfl rfl rfl rfl rfl rfl rfl rfl) rfl ?_)))))))))))))
 refine pu (ah rfl rfl rfl hcol rfl) rfl ?_
 iterate 5 refine pE rfl ?_
 refine WO.nil (qs ?_)
 iterate 2 refine W.seq ?_
 refine W.region ?_
 iterate 2 refine pE rfl ?_
 refine WO.nil (qs (ak rfl (fun h33 => ?_) (fun h33 => ?_)))
 ·
  have he : CT0.2 ≠ 0 := by simpa using h33
  have hg : gf a b on = (fE, CT0.2) := by unfold gf; rw [hCT, if_pos he]
  refine W.seq (W.region (pu (build aa rfl rfl rfl rfl) rfl ?_))
  refine pE rfl (aP aa rfl rfl rfl rfl rfl rfl rfl rfl (pE rfl (WO.nil (qs ?_))))
  try refine cd 2 0 rfl rfl rfl ?_
  try refine cd 2 1 rfl rfl rfl ?_
  refine W.ret (ae (QV.ao aa trivial rfl ?_))
  (rw [hg]; rfl)
 have he : CT0.2 = 0 := by simpa using h33
 have hok := tY (.inr rfl) (by rw [hCT]; exact he)
 have hoo := x8 hok
 have haz := dH hok.ga
 have hbz := dH hok.gb
 have hol := hok.len
 have hra := fK hok.ga
 have hrb := fK hok.gb
 obtain ⟨o, ho⟩ : ∃ o, xt a b on = o := ⟨_, rfl⟩
 have hgo : gf a b on = (⟨CT0.1, a.rows.map (jC o b.rows)⟩, 0) := by unfold gf; rw [hCT, if_neg (by simp [he]), ho]
 have e8 : aO 8 = [aQ] := rfl
 rw [e8] at hok
 have hpl : ax Tryz.prog 21 [.ag a.c, .d (.sl (on.map sc))] (.d (.sl (o.left.map nc))) 0 := by
  have := eC a on (by omega)
  rw [fS (fun s hs => by obtain ⟨i, j, c, d, h1, _⟩ := hok.ons s hs; exact ⟨i, h1⟩)] at this
  rw [← ho]; exact this
 have hpr : ax Tryz.prog 21 [.ag b.c, .d (.sl (on.map sc))] (.d (.sl (o.right.map nc))) 0 := by
  have := eC b on (by omega)
  rw [fS (fun s hs => by obtain ⟨i, j, c, d, _, h1, _⟩ := hok.ons s hs; exact ⟨j, h1⟩)] at this
  rw [← ho]; exact this
 have hcm : ax Tryz.prog 34 [.ag a.c, .d (.v (.string aQ))] (.d (.v (.int .i64 (o.m : Int)))) 0 := by
  have h0 := pA a aQ
  obtain ⟨i, c, h1, _⟩ := hok.spa aQ (by simp)
  have h2 : (a.cols.findIdx? fun x => decide (x.name = aQ)) = some i := h1
  rw [h2] at h0
  have h3 : o.m = i := by rw [← ho]; exact b7 h1
  rw [h3]; exact h0
 have hct : ax Tryz.prog 34 [.ag b.c, .d (.v (.string aQ))] (.d (.v (.int .i64 (o.t : Int)))) 0 := by
  have h0 := pA b aQ
  obtain ⟨i, c, h1, _⟩ := hok.spb aQ (by simp)
  have h2 : (b.cols.findIdx? fun x => decide (x.name = aQ)) = some i := h1
  rw [h2] at h0
  have h3 : o.t = i := by rw [← ho]; exact b7 h1
  rw [h3]; exact h0
 have hre : ax Tryz.prog 22 [.ag b.c, .d (.sl ((on ++ [aQ]).map sc))] (.d (.sl (o.more.map nc))) 0 := by
  have := sj b (on ++ [aQ]) (by omega)
  rw [← ho]; exact this
 rw [ho] at hoo
 have hll : o.left.length ≤ 16 := by rw [← ho]; show (on.map _).length ≤ _; rw [List.length_map]; exact hol
 have hrl : o.right.length ≤ 16 := by rw [← ho]; show (on.map _).length ≤ _; rw [List.length_map]; exact hol
 have hml : o.more.length ≤ 32 := by rw [← ho]; have := im (on ++ [aQ]) b.cols 0; show (cS _ _ _).length ≤ _; omega
 have hmm : (o.more.map nc).length = o.more.length := List.length_map _
 refine W.skip (qs (W.seq (W.be aa (by kernel_rfl) ?_)))
 refine an (ev aa rfl) rfl ?_
 refine an (ev aa rfl) rfl ?_
 refine an (ah rfl rfl rfl hpl rfl) rfl ?_
 refine an (ev aa rfl) rfl ?_
 refine an (ev aa rfl) rfl ?_
 refine an (ah rfl rfl rfl hpr rfl) rfl ?_
 iterate 2 refine an (ev aa rfl) rfl ?_
 refine CH.nil ?_
 refine qs (W.seq (W.be aa (by kernel_rfl) ?_))
 refine an (ev aa rfl) rfl ?_
 refine an (ah rfl rfl rfl hcm rfl) rfl ?_
 refine an (ev aa rfl) rfl ?_
 refine an (ah rfl rfl rfl hct rfl) rfl ?_
 iterate 2 refine an (ev aa rfl) rfl ?_
 refine CH.nil ?_
 refine qs (W.seq ?_)
 refine' W.fq aa [_, _] [[3], [4]] [4, 5] [2, 4] 5 (by kernel_rfl) (by kernel_rfl) rfl rfl ?hL_1
 case' hL_1 => skip
 refine' aU (ev aa rfl) ?p_2 rfl rfl rfl (by kernel_rfl) rfl ?h_2
 case' h_2 => skip
 refine' aU (ev aa rfl) ?p_3 rfl rfl rfl (by kernel_rfl) rfl ?h_3
 case' h_3 => skip
 refine' kH ?x_4 rfl rfl rfl (by kernel_rfl) (fun h => (ar h (by kernel_rfl)).elim) rfl ?h_4
 case x_4 =>
  intro b hb g; cases b
  · exact (ar hb (by kernel_rfl)).elim
  refine e6 rfl rfl rfl (pI on (by omega)) (by rfl) rfl rfl ?_
  refine WO.nil ?_
  refine' iI rfl ?_ ?_ ?_ ?_
  all_goals try exact rfl
 case' h_4 => skip
 refine' aU (aI aa rfl rfl rfl rfl rfl rfl rfl rfl rfl) ?p_5 rfl rfl rfl (by kernel_rfl) rfl ?h_5
 case' h_5 => skip
 refine' kH ?x_6 rfl rfl rfl (by kernel_rfl) (fun h => (ar h (by kernel_rfl)).elim) rfl ?h_6
 case x_6 =>
  intro b hb g; cases b
  · exact (ar hb (by kernel_rfl)).elim
  refine br (fn := sc) (l := on) (a := aQ) aa rfl rfl rfl rfl rfl rfl rfl rfl rfl rfl (fun _ => rfl) (by show (on.length + 1) * 16 ≤ _; omega) ?_
  refine WO.nil ?_
  refine' iI rfl ?_ ?_ ?_ ?_
  all_goals try exact rfl
 case' h_6 => skip
 case p_2 => refine ⟨fun ha => (ar ha (by kernel_rfl)).elim, ?_, fun ha => (ar ha (by kernel_rfl)).elim, ?_, fun ha => (ar ha (by kernel_rfl)).elim, ?_⟩ <;> intro ha <;> first | exact ⟨ev aa rfl, fun h => nomatch h⟩ | exact ⟨bT aa rfl rfl rfl rfl, fun h => nomatch h⟩ | exact ⟨bU aa rfl rfl rfl rfl rfl, fun h => nomatch h⟩ | exact (ar ha (by kernel_rfl)).elim
 case p_3 => refine ⟨fun ha => (ar ha (by kernel_rfl)).elim, ?_, fun ha => (ar ha (by kernel_rfl)).elim, ?_, fun ha => (ar ha (by kernel_rfl)).elim, ?_⟩ <;> intro ha <;> first | exact ⟨ev aa rfl, fun h => nomatch h⟩ | exact (ar ha (by kernel_rfl)).elim
 case p_5 => refine ⟨fun ha => (ar ha (by kernel_rfl)).elim, ?_, fun ha => (ar ha (by kernel_rfl)).elim, ?_, fun ha => (ar ha (by kernel_rfl)).elim, ?_⟩ <;> intro ha <;> first | exact ⟨aI aa rfl rfl rfl rfl rfl rfl rfl rfl rfl, fun h => nomatch h⟩ | exact (ar ha (by kernel_rfl)).elim
 refine CD.nil ?_ rfl
 refine pu (ah rfl rfl rfl hre rfl) rfl ?_
 refine pE rfl (WO.nil (qs (W.seq (W.region (pE rfl (pu (build aa rfl rfl rfl rfl) rfl ?_))))))
 refine a8 aa rfl rfl rfl (aP aa rfl rfl rfl rfl rfl rfl rfl rfl (WO.nil (qs ?_)))
 iterate 2 refine W.seq ?_
 refine W.region (pE rfl (pE rfl ?_))
 iterate 2 refine pE rfl ?_
 refine WO.nil (qs (W.block (eU 5 1 rfl rfl rfl ?_)))
 refine W.len (t := 55) rfl rfl (fun hlen => ?_)
 try simp only [List.length_map, Ex.aF] at hlen
 refine W.aS (ι := {x : Nat × List (List aM) // match x with | (i, out) => i ≤ a.rows.length ∧ out = (a.rows.take i).map (jC o b.rows)})
  (fun x => match x.1 with | (i, out) => [(4, .ptr 0 0), (6, .ptr 1 0), (15, .ptr 2 0), (57, .d (.v (.int .i64 ((i : Nat) : Int))))]) [(10, _), (11, _), (12, _), (13, _), (14, _), (55, _), (56, _)]
  (fun x => match x.1 with | (i, out) => [(0, b.c.map A.d), (1, [.d (.v (.slice none 0 0)), .d (.v (.slice none 0 0))]), (2, [.d (.sl (CT0.1.map Col.c)), .own 3 (out.map rc)])]) [] [3] 4 (fun x => match x.1 with | (i, out) => a.rows.length - i)
  [1, 2, 5, 6] ⟨(0, []), ?_⟩ rfl ?_ ⟨rfl, rfl, rfl, rfl, rfl, rfl, rfl, rfl, rfl, rfl, rfl, rfl, rfl, rfl, trivial⟩ ?_ trivial rfl ?_
 · exact ⟨Nat.zero_le _, rfl⟩
 · repeat' first | exact trivial | refine ⟨rfl, ?_⟩
 · repeat' first | exact trivial | refine ⟨rfl, ?_⟩
 rintro ⟨⟨i, out⟩, hk, hI⟩
 show W _ _ _ _ _ ⟨[(4, .ptr 0 0), (6, .ptr 1 0), (15, .ptr 2 0), (57, .d (.v (.int .i64 ((i : Nat) : Int)))), (10, _), (11, _), (12, _), (13, _), (14, _), (55, _), (56, _)], [(0, b.c.map A.d), (1, [.d (.v (.slice none 0 0)), .d (.v (.slice none 0 0))]), (2, [.d (.sl (CT0.1.map Col.c)), .own 3 (out.map rc)])], [3], 4⟩
 refine W.seq (W.region (pE rfl (WO.nil (qs (W.seq (a9 (l := a.rows) (k := i) rfl (by simp [Ex.aF, aH]) hk (fun z hx hd hlt => ?_) (fun he hd => ?_)))))))
 ·
  have hzx := hx
  have hzlt := hlt
  have hxm := List.mem_of_getElem? hx
  have hxl := (hra z hxm).1
  have hpx := ig z o.left (by omega) (fun q hq => by rw [hxl]; exact hoo.left q hq)
  have hoi : out.length ≤ 20000 := by rw [hI, List.length_map, List.length_take]; omega
  have hzm : (z.map aM.c)[((o.m : Nat) : Int).toNat]? = some (a7 z o.m).c := aB (eE (by rw [hxl]; exact hoo.mm))
  refine W.skip (qs (W.seq (W.block (W.seq (W.region (pu (indexAddr aa rfl rfl rfl rfl rfl rfl (Int.natCast_nonneg _) (aB hx) rfl) rfl ?_))))))
  refine pE rfl (pE rfl (WO.nil (qs (W.seq (W.region (pE rfl (WO.nil (qs ?_))))))))
  iterate 2 refine W.seq ?_
  refine W.region (pE rfl (pE rfl ?_))
  iterate 2 refine pE rfl ?_
  refine WO.nil (qs (W.block (W.len (t := 62) rfl rfl (fun hlen => ?_))))
  try simp only [List.length_map, Ex.aF] at hlen
  refine W.aS (ι := {x : Nat × Option Nat // match x with | (j, best) => j ≤ b.rows.length ∧ (∀ i, best = some i → i < b.rows.length) ∧ kL o b.rows z (b.rows.drop j) j best = kL o b.rows z b.rows 0 none})
   (fun x => match x.1 with | (j, best) => [(4, .ptr 0 0), (6, .ptr 1 0), (15, .ptr 2 0), (18, .d (.v (.int .i64 (idx best)))), (64, .d (.v (.int .i64 ((j : Nat) : Int))))]) [(10, _), (11, _), (12, _), (13, _), (14, _), (17, _), (55, _), (56, _), (57, _), (62, _), (63, _)]
   (fun x => match x.1 with | (j, best) => [(0, b.c.map A.d), (1, [.d (.v (.slice none 0 0)), .d (.v (.slice none 0 0))]), (2, [.d (.sl (CT0.1.map Col.c)), .own 3 (out.map rc)])]) [] [3] 4 (fun x => match x.1 with | (j, best) => b.rows.length - j)
   [0, 1, 2, 3] ⟨(0, none), ?_⟩ rfl ?_ ⟨rfl, rfl, rfl, rfl, rfl, rfl, rfl, rfl, rfl, rfl, rfl, rfl, rfl, rfl, rfl, rfl, rfl, rfl, rfl, rfl, rfl, rfl, trivial⟩ ?_ trivial rfl ?_
  · exact ⟨Nat.zero_le _, (fun i h => by cases h), rfl⟩
  · repeat' first | exact trivial | refine ⟨rfl, ?_⟩
  · repeat' first | exact trivial | refine ⟨rfl, ?_⟩
  rintro ⟨⟨j, best⟩, hk, hbl, hJ⟩
  show W _ _ _ _ _ ⟨[(4, .ptr 0 0), (6, .ptr 1 0), (15, .ptr 2 0), (18, .d (.v (.int .i64 (idx best)))), (64, .d (.v (.int .i64 ((j : Nat) : Int)))), (10, _), (11, _), (12, _), (13, _), (14, _), (17, _), (55, _), (56, _), (57, _), (62, _), (63, _)], [(0, b.c.map A.d), (1, [.d (.v (.slice none 0 0)), .d (.v (.slice none 0 0))]), (2, [.d (.sl (CT0.1.map Col.c)), .own 3 (out.map rc)])], [3], 4⟩
  refine W.seq (W.region (pE rfl (WO.nil (qs (W.seq (a9 (l := b.rows) (k := j) rfl (by simp [Ex.aF, aH]) hk (fun y hx hd hlt => ?_) (fun he hd => ?_)))))))
  ·
   rw [hd] at hJ
   simp only [kL] at hJ
   have hym := List.mem_of_getElem? hx
   have hyl := (hrb y hym).1
   have hpy := ig y o.right (by omega) (fun q hq => by rw [hyl]; exact hoo.right q hq)
   have hyt : (y.map aM.c)[((o.t : Nat) : Int).toNat]? = some (a7 y o.t).c := aB (eE (by rw [hyl]; exact hoo.tt))
   have hbn : ∀ h : decide (idx best < 0) = false, 0 ≤ idx best ∧ (b.rows.map rc)[(idx best).toNat]? = some (rc (gw b.rows (idx best).toNat)) ∧ ((gw b.rows (idx best).toNat).map aM.c)[((o.t : Nat) : Int).toNat]? = some (a7 (gw b.rows (idx best).toNat) o.t).c := by
    intro h
    have h0 := of_decide_eq_false h
    cases best with
    | none => exact absurd (by decide) h0
    | some i =>
     have hi := hbl i rfl
     have hr := rn hi
     refine ⟨Int.natCast_nonneg _, aB hr, aB (eE ?_)⟩
     show (o.t : Int).toNat < (gw b.rows i).length
     rw [(hrb _ (List.mem_of_getElem? hr)).1]
     exact hoo.tt
   refine W.skip (qs (W.seq (W.block (W.seq (W.region (pE rfl (pu (indexAddr aa rfl rfl rfl rfl rfl rfl (Int.natCast_nonneg _) (aB hx) rfl) rfl ?_)))))))
   refine pE rfl ?_
   iterate 2 refine pE rfl ?_
   refine WO.nil (qs (W.seq (W.fv aa 11 2 (by kernel_rfl) rfl rfl ?_)))
   refine aZ rfl (ev aa rfl) rfl ?_
   refine aZ rfl (ev aa rfl) rfl ?_
   refine aZ rfl (indexAddr aa rfl rfl rfl rfl rfl rfl (Int.natCast_nonneg _) hzm rfl) rfl ?_
   refine aZ rfl (ev aa rfl) rfl ?_
   refine aZ rfl (ev aa rfl) rfl ?_
   refine aZ rfl (ev aa rfl) rfl ?_
   refine aZ rfl (indexAddr aa rfl rfl rfl rfl rfl rfl (Int.natCast_nonneg _) hyt rfl) rfl ?_
   refine aZ rfl (ev aa rfl) rfl ?_
   refine eD 0 rfl rfl rfl rfl rfl rfl ?_
   refine eD 1 rfl rfl rfl rfl rfl rfl ?_
   refine jS 8 0 rfl rfl rfl rfl rfl rfl rfl rfl rfl rfl rfl rfl ?_
   refine CE.nil ?_
   refine aP aa rfl rfl rfl rfl rfl rfl rfl rfl (WO.nil (qs ?_))
   iterate 2 refine W.seq ?_
   apply aD; (case hb => rfl)
   ·
    refine pE rfl (pE rfl ?_)
    iterate 2 refine pE rfl ?_
    apply eT; (case hj => rfl); (case hl => rfl)
    ·
     intro g80
     iterate 3 refine aq rfl rfl rfl rfl ?_
     iterate 2 refine pE rfl ?_
     iterate 5 refine aq rfl rfl rfl rfl ?_
     iterate 2 refine pE rfl ?_
     iterate 8 refine aq rfl rfl rfl rfl ?_
     refine pE rfl (WO.nil (ay rfl rfl rfl))
    intro g80
    refine ab rfl rfl (pE rfl (ab rfl rfl (pE rfl (ab rfl rfl ?_))))
    iterate 3 refine pE rfl ?_
    apply eT; (case hj => rfl); (case hl => rfl)
    ·
     intro g85
     iterate 5 refine aq rfl rfl rfl rfl ?_
     iterate 2 refine pE rfl ?_
     iterate 8 refine aq rfl rfl rfl rfl ?_
     refine pE rfl (WO.nil (ay rfl rfl rfl))
    intro g85
    refine ab rfl rfl (pE rfl (ab rfl rfl (pE rfl (ab rfl rfl (pE rfl (ab rfl rfl (pE rfl (ab rfl rfl ?_))))))))
    iterate 3 refine pE rfl ?_
    apply eT; (case hj => rfl); (case hl => rfl)
    ·
     intro g92
     iterate 8 refine aq rfl rfl rfl rfl ?_
     refine pE rfl (WO.nil (ay rfl rfl rfl))
    intro g92
    refine ab rfl rfl (pE rfl (ab rfl rfl (pE rfl (ab rfl rfl (pu (ah rfl rfl rfl hpx rfl) rfl ?_)))))
    refine ab rfl rfl (pE rfl (ab rfl rfl (pE rfl (ab rfl rfl (pu (ah rfl rfl rfl hpy rfl) rfl ?_)))))
    refine ab rfl rfl (pu (ah rfl rfl rfl (qF (bq z o.left) (bq y o.right)) rfl) rfl ?_)
    refine ab rfl rfl ?_
    iterate 2 refine pE rfl ?_
    refine WO.nil (ay rfl rfl rfl)
   refine qs (ak rfl (fun h101 => ?_) (fun h101 => ?_))
   ·
    have hsk : lD o z y = true := by
     revert h101
     unfold lD
     cases decide ((a7 z o.m).kind = 0) <;> cases decide ((a7 y o.t).kind = 0) <;> cases decide ((a7 z o.m).n < (a7 y o.t).n) <;> cases ep (bq z o.left) (bq y o.right) <;> simp
    rw [if_pos hsk] at hJ
    have hbr : lD o z y = true ∨ False := .inl hsk
    refine W.exit (aK (aL (qs (W.region ?_))))
    iterate 2 refine pE rfl ?_
    refine WO.nil ?_
    try have hbr := hup
    refine W.aT [0, 1, 2, 3] ⟨(j + 1, best), ?_⟩ ?_ rfl ?_ ⟨rfl, rfl, rfl, rfl, rfl, rfl, rfl, rfl, rfl, rfl, rfl, rfl, rfl, rfl, rfl, rfl, rfl, rfl, rfl, rfl, rfl, rfl, trivial⟩ ?_ trivial rfl
    · exact ⟨hlt, (by first | exact hbl | (intro i h; cases h; exact hlt)), hJ⟩
    · dsimp only; omega
    · repeat' first | exact trivial | refine ⟨rfl, ?_⟩ | refine ⟨aC (by assumption) (by assumption), ?_⟩
    repeat' first | exact trivial | refine ⟨rfl, ?_⟩
   have hsk : lD o z y = false := by
    revert h101
    unfold lD
    cases decide ((a7 z o.m).kind = 0) <;> cases decide ((a7 y o.t).kind = 0) <;> cases decide ((a7 z o.m).n < (a7 y o.t).n) <;> cases ep (bq z o.left) (bq y o.right) <;> simp
   rw [if_neg (by simp [hsk])] at hJ
   refine W.skip (qs (W.seq ?_))
   apply ia aa; (case hb => rfl); (case hB => kernel_rfl)
   ·
    iterate 3 refine an (ev aa rfl) rfl ?_
    apply hH; (case hj => rfl); (case hl => rfl)
    ·
     intro g104
     iterate 12 refine bG rfl rfl rfl rfl ?_
     refine an (ev aa rfl) rfl ?_
     refine CH.nil ?_
     refine ay rfl rfl rfl
    intro g104
    refine aE rfl rfl (ev aa rfl) rfl ?_
    refine aE rfl rfl (ev aa rfl) rfl ?_
    refine aE rfl rfl (ev aa rfl) rfl ?_
    refine aE rfl rfl (ev aa rfl) rfl ?_
    refine aE rfl rfl (ev aa rfl) rfl ?_
    refine aE rfl rfl (indexAddr aa rfl rfl rfl rfl rfl rfl (hbn g104).1 (hbn g104).2.1 rfl) rfl ?_
    refine aE rfl rfl (ev aa rfl) rfl ?_
    refine aE rfl rfl (ev aa rfl) rfl ?_
    refine aE rfl rfl (indexAddr aa rfl rfl rfl rfl rfl rfl (Int.natCast_nonneg _) (hbn g104).2.2 rfl) rfl ?_
    refine aE rfl rfl (ev aa rfl) rfl ?_
    refine aE rfl rfl (ev aa rfl) rfl ?_
    refine aE rfl rfl (ev aa rfl) rfl ?_
    refine an (ev aa rfl) rfl ?_
    refine CH.nil ?_
    refine ay rfl rfl rfl
   refine qs (ak rfl (fun h117 => ?_) (fun h117 => ?_))
   ·
    have hup : idx best < 0 ∨ (a7 (gw b.rows (idx best).toNat) o.t).n ≤ (a7 y o.t).n := by
     revert h117
     by_cases q : idx best < 0 <;> simp [q]
    rw [if_pos hup] at hJ
    refine W.region ?_
    iterate 2 refine pE rfl ?_
    refine WO.nil (aW (qs (W.region ?_)))
    iterate 2 refine pE rfl ?_
    refine WO.nil ?_
    try have hbr := hup
    (have _hb : idx best < 0 ∨ (a7 (gw b.rows (idx best).toNat) o.t).n ≤ (a7 y o.t).n := hbr; refine W.aT [0, 1, 2, 3] ⟨(j + 1, some j), ?_⟩ ?_ rfl ?_ ⟨rfl, rfl, rfl, rfl, rfl, rfl, rfl, rfl, rfl, rfl, rfl, rfl, rfl, rfl, rfl, rfl, rfl, rfl, rfl, rfl, rfl, rfl, trivial⟩ ?_ trivial rfl)
    · exact ⟨hlt, (by first | exact hbl | (intro i h; cases h; exact hlt)), hJ⟩
    · dsimp only; omega
    · repeat' first | exact trivial | refine ⟨rfl, ?_⟩ | refine ⟨aC (by assumption) (by assumption), ?_⟩
    repeat' first | exact trivial | refine ⟨rfl, ?_⟩
   have hup : ¬ (idx best < 0 ∨ (a7 (gw b.rows (idx best).toNat) o.t).n ≤ (a7 y o.t).n) := by
    revert h117
    by_cases q : idx best < 0 <;> simp [q]
   rw [if_neg hup] at hJ
   have hbr : lD o z y = true ∨ False ∨ True := .inr (.inr trivial)
   refine W.skip (aW (qs (W.region ?_)))
   iterate 2 refine pE rfl ?_
   refine WO.nil ?_
   try have hbr := hup
   refine W.aT [0, 1, 2, 3] ⟨(j + 1, best), ?_⟩ ?_ rfl ?_ ⟨rfl, rfl, rfl, rfl, rfl, rfl, rfl, rfl, rfl, rfl, rfl, rfl, rfl, rfl, rfl, rfl, rfl, rfl, rfl, rfl, rfl, rfl, trivial⟩ ?_ trivial rfl
   · exact ⟨hlt, (by first | exact hbl | (intro i h; cases h; exact hlt)), hJ⟩
   · dsimp only; omega
   · repeat' first | exact trivial | refine ⟨rfl, ?_⟩ | refine ⟨aC (by assumption) (by assumption), ?_⟩
   repeat' first | exact trivial | refine ⟨rfl, ?_⟩
  rw [hd] at hJ
  simp only [kL] at hJ
  refine W.exit (aK (aN (aL (qs (W.seq (W.region ?_))))))
  iterate 2 refine pE rfl ?_
  refine pu (xM (m := (o.more.map nc).length) aa rfl rfl rfl rfl rfl rfl (by rw [hmm]; show (32 : Int) * _ ≤ _; omega) (by rw [hmm]; simp only [maxLen]; omega)) rfl ?_
  refine pE rfl (WO.nil (qs ?_))
  iterate 2 refine W.seq ?_
  refine W.region ?_
  iterate 2 refine pE rfl ?_
  refine WO.nil (qs (ak rfl (fun h124 => ?_) (fun h124 => ?_)))
  ·
   have hbb : 0 ≤ idx best := by simpa using h124
   obtain ⟨q, rfl⟩ : ∃ q, best = some q := by
    cases best with
    | none => exact absurd hbb (by decide)
    | some q => exact ⟨q, rfl⟩
   have hqr := rn (hbl q rfl)
   have hql := (hrb _ (List.mem_of_getElem? hqr)).1
   have hpz := ig (gw b.rows q) o.more (by omega) (fun r hr => by rw [hql]; exact hoo.more r hr)
   have hfd : uK o b.rows (some q) = bq (gw b.rows q) o.more := rfl
   have hfl : (bq (gw b.rows q) o.more).length = o.more.length := List.length_map _
   have hrow : jC o b.rows z = z ++ bq (gw b.rows q) o.more := by unfold jC; rw [← hJ]; rfl
   refine W.region (pE rfl (pE rfl (pE rfl (pu (indexAddr (l := rc (gw b.rows q)) aa rfl rfl rfl rfl rfl rfl (Int.natCast_nonneg _) (aB hqr) rfl) rfl ?_))))
   refine pE rfl (pE rfl (pu (ah rfl rfl rfl hpz rfl) rfl ?_))
   refine pE rfl (WO.nil (qs ?_))
   refine' W.fq aa [_, _] [[4, 3], [5, 3], [6, 5]] [5, 6, 7] [3, 5] 7 (by kernel_rfl) (by kernel_rfl) rfl rfl ?hL_7
   case' hL_7 => skip
   refine' aU (ev aa rfl) ?p_8 rfl rfl rfl (by kernel_rfl) rfl ?h_8
   case' h_8 => skip
   refine' aU (ev aa rfl) ?p_9 rfl rfl rfl (by kernel_rfl) rfl ?h_9
   case' h_9 => skip
   refine' aU (ev aa rfl) ?p_10 rfl rfl rfl (by kernel_rfl) rfl ?h_10
   case' h_10 => skip
   refine' kH ?x_11 rfl rfl rfl (by kernel_rfl) (fun h => (ar h (by kernel_rfl)).elim) rfl ?h_11
   case x_11 =>
    intro b hb g; cases b
    · exact (ar hb (by kernel_rfl)).elim
    refine e6 rfl rfl rfl (kC z (by omega)) (by rfl) rfl rfl ?_
    refine WO.nil ?_
    refine' iI rfl ?_ ?_ ?_ ?_
    all_goals try exact rfl
   case' h_11 => skip
   refine' aU (ev aa rfl) ?p_12 rfl rfl rfl (by kernel_rfl) rfl ?h_12
   case' h_12 => skip
   refine' kH ?x_13 rfl rfl rfl (by kernel_rfl) (fun h => (ar h (by kernel_rfl)).elim) rfl ?h_13
   case x_13 =>
    intro b hb g; cases b
    · exact (ar hb (by kernel_rfl)).elim
    refine c8 (fn := aM.c) (l := z) (l2 := bq (gw b.rows q) o.more) aa rfl rfl rfl rfl rfl rfl rfl rfl rfl rfl (fun _ => rfl) (by rw [hfl]; show _ * 32 ≤ _; omega) ?_
    refine WO.nil ?_
    refine' iI rfl ?_ ?_ ?_ ?_
    all_goals try exact rfl
   case' h_13 => skip
   case p_8 => refine ⟨fun ha => (ar ha (by kernel_rfl)).elim, ?_, fun ha => (ar ha (by kernel_rfl)).elim, ?_, fun ha => (ar ha (by kernel_rfl)).elim, ?_⟩ <;> intro ha <;> first | exact ⟨ev aa rfl, fun h => nomatch h⟩ | exact (ar ha (by kernel_rfl)).elim
   case p_9 => refine ⟨fun ha => (ar ha (by kernel_rfl)).elim, ?_, fun ha => (ar ha (by kernel_rfl)).elim, ?_, fun ha => (ar ha (by kernel_rfl)).elim, ?_⟩ <;> intro ha <;> first | exact ⟨ev aa rfl, fun h => nomatch h⟩ | exact ⟨bT aa rfl rfl rfl rfl, fun h => nomatch h⟩ | exact ⟨bU aa rfl rfl rfl rfl rfl, fun h => nomatch h⟩ | exact (ar ha (by kernel_rfl)).elim
   case p_10 => refine ⟨fun ha => (ar ha (by kernel_rfl)).elim, ?_, fun ha => (ar ha (by kernel_rfl)).elim, ?_, fun ha => (ar ha (by kernel_rfl)).elim, ?_⟩ <;> intro ha <;> first | exact ⟨ev aa rfl, fun h => nomatch h⟩ | exact (ar ha (by kernel_rfl)).elim
   case p_12 => refine ⟨fun ha => (ar ha (by kernel_rfl)).elim, ?_, fun ha => (ar ha (by kernel_rfl)).elim, ?_, fun ha => (ar ha (by kernel_rfl)).elim, ?_⟩ <;> intro ha <;> first | exact ⟨ev aa rfl, fun h => nomatch h⟩ | exact (ar ha (by kernel_rfl)).elim
   refine' aU (aI aa rfl rfl rfl rfl rfl rfl rfl rfl rfl) ?p_14 rfl rfl rfl (by kernel_rfl) rfl ?h_14
   case' h_14 => skip
   case p_14 => refine ⟨fun ha => (ar ha (by kernel_rfl)).elim, ?_, fun ha => (ar ha (by kernel_rfl)).elim, ?_, fun ha => (ar ha (by kernel_rfl)).elim, ?_⟩ <;> intro ha <;> first | exact ⟨aI aa rfl rfl rfl rfl rfl rfl rfl rfl rfl, fun h => nomatch h⟩ | exact (ar ha (by kernel_rfl)).elim
   refine CD.nil ?_ rfl
   refine br (fn := rc) (a := jC o b.rows z) aa rfl rfl (by rw [hrow]; rfl) rfl rfl rfl rfl rfl rfl rfl (fun _ => rfl) (by show (out.length + 1) * 24 ≤ _; omega) ?_
   refine pE rfl (aP aa rfl rfl rfl rfl rfl rfl rfl rfl (WO.nil (aW (qs (W.region ?_)))))
   iterate 2 refine pE rfl ?_
   refine WO.nil (W.aT [0, 1, 2, 6] ⟨(i + 1, out ++ [jC o b.rows z]), ?_⟩ ?_ rfl ?_ ⟨rfl, rfl, rfl, rfl, rfl, rfl, rfl, rfl, rfl, rfl, rfl, rfl, rfl, rfl, trivial⟩ ?_ trivial rfl)
   · exact ⟨hzlt, by rw [hI, List.take_add_one, hzx]; simp⟩
   · dsimp only; omega
   · repeat' first | exact trivial | refine ⟨rfl, ?_⟩ | refine ⟨aC (by assumption) (by assumption), ?_⟩
   repeat' first | exact trivial | refine ⟨rfl, ?_⟩
  have hbb : best = none := by
   cases best with
   | none => rfl
   | some q => simp [idx] at h124
  subst hbb
  have hfl : (List.replicate o.more.length dq).length = o.more.length := List.length_replicate
  have hrow : jC o b.rows z = z ++ List.replicate o.more.length dq := by unfold jC; rw [← hJ]; rfl
  have hzz : List.replicate (o.more.map nc).length (([.int .i64 0, .int .i64 0, .string (B #[])] : List Value).map D.v) = (List.replicate o.more.length dq).map aM.c := by rw [hmm]; exact v3 _
  refine W.skip (qs ?_)
  refine' W.fq aa [_, _] [[4, 3], [5, 3], [6, 5]] [5, 6, 7] [3, 5] 7 (by kernel_rfl) (by kernel_rfl) rfl rfl ?hL_15
  case' hL_15 => skip
  refine' aU (ev aa rfl) ?p_16 rfl rfl rfl (by kernel_rfl) rfl ?h_16
  case' h_16 => skip
  refine' aU (ev aa rfl) ?p_17 rfl rfl rfl (by kernel_rfl) rfl ?h_17
  case' h_17 => skip
  refine' aU (ev aa rfl) ?p_18 rfl rfl rfl (by kernel_rfl) rfl ?h_18
  case' h_18 => skip
  refine' kH ?x_19 rfl rfl rfl (by kernel_rfl) (fun h => (ar h (by kernel_rfl)).elim) rfl ?h_19
  case x_19 =>
   intro b hb g; cases b
   · exact (ar hb (by kernel_rfl)).elim
   refine e6 rfl rfl rfl (kC z (by omega)) (by rfl) rfl rfl ?_
   refine WO.nil ?_
   refine' iI rfl ?_ ?_ ?_ ?_
   all_goals try exact rfl
  case' h_19 => skip
  refine' aU (ev aa rfl) ?p_20 rfl rfl rfl (by kernel_rfl) rfl ?h_20
  case' h_20 => skip
  refine' kH ?x_21 rfl rfl rfl (by kernel_rfl) (fun h => (ar h (by kernel_rfl)).elim) rfl ?h_21
  case x_21 =>
   intro b hb g; cases b
   · exact (ar hb (by kernel_rfl)).elim
   refine c8 (fn := aM.c) (l := z) (l2 := List.replicate o.more.length dq) aa rfl rfl (by rw [← hzz]; rfl) rfl rfl rfl rfl rfl rfl rfl (fun _ => rfl) (by rw [hfl]; show _ * 32 ≤ _; omega) ?_
   refine WO.nil ?_
   refine' iI rfl ?_ ?_ ?_ ?_
   all_goals try exact rfl
  case' h_21 => skip
  case p_16 => refine ⟨fun ha => (ar ha (by kernel_rfl)).elim, ?_, fun ha => (ar ha (by kernel_rfl)).elim, ?_, fun ha => (ar ha (by kernel_rfl)).elim, ?_⟩ <;> intro ha <;> first | exact ⟨ev aa rfl, fun h => nomatch h⟩ | exact (ar ha (by kernel_rfl)).elim
  case p_17 => refine ⟨fun ha => (ar ha (by kernel_rfl)).elim, ?_, fun ha => (ar ha (by kernel_rfl)).elim, ?_, fun ha => (ar ha (by kernel_rfl)).elim, ?_⟩ <;> intro ha <;> first | exact ⟨ev aa rfl, fun h => nomatch h⟩ | exact ⟨bT aa rfl rfl rfl rfl, fun h => nomatch h⟩ | exact ⟨bU aa rfl rfl rfl rfl rfl, fun h => nomatch h⟩ | exact (ar ha (by kernel_rfl)).elim
  case p_18 => refine ⟨fun ha => (ar ha (by kernel_rfl)).elim, ?_, fun ha => (ar ha (by kernel_rfl)).elim, ?_, fun ha => (ar ha (by kernel_rfl)).elim, ?_⟩ <;> intro ha <;> first | exact ⟨ev aa rfl, fun h => nomatch h⟩ | exact (ar ha (by kernel_rfl)).elim
  case p_20 => refine ⟨fun ha => (ar ha (by kernel_rfl)).elim, ?_, fun ha => (ar ha (by kernel_rfl)).elim, ?_, fun ha => (ar ha (by kernel_rfl)).elim, ?_⟩ <;> intro ha <;> first | exact ⟨ev aa rfl, fun h => nomatch h⟩ | exact (ar ha (by kernel_rfl)).elim
  refine' aU (aI aa rfl rfl rfl rfl rfl rfl rfl rfl rfl) ?p_22 rfl rfl rfl (by kernel_rfl) rfl ?h_22
  case' h_22 => skip
  case p_22 => refine ⟨fun ha => (ar ha (by kernel_rfl)).elim, ?_, fun ha => (ar ha (by kernel_rfl)).elim, ?_, fun ha => (ar ha (by kernel_rfl)).elim, ?_⟩ <;> intro ha <;> first | exact ⟨aI aa rfl rfl rfl rfl rfl rfl rfl rfl rfl, fun h => nomatch h⟩ | exact (ar ha (by kernel_rfl)).elim
  refine CD.nil ?_ rfl
  refine br (fn := rc) (a := jC o b.rows z) aa rfl rfl (by rw [hrow]; rfl) rfl rfl rfl rfl rfl rfl rfl (fun _ => rfl) (by show (out.length + 1) * 24 ≤ _; omega) ?_
  refine pE rfl (aP aa rfl rfl rfl rfl rfl rfl rfl rfl (WO.nil (aW (qs (W.region ?_)))))
  iterate 2 refine pE rfl ?_
  refine WO.nil (W.aT [0, 1, 2, 6] ⟨(i + 1, out ++ [jC o b.rows z]), ?_⟩ ?_ rfl ?_ ⟨rfl, rfl, rfl, rfl, rfl, rfl, rfl, rfl, rfl, rfl, rfl, rfl, rfl, rfl, trivial⟩ ?_ trivial rfl)
  · exact ⟨hzlt, by rw [hI, List.take_add_one, hzx]; simp⟩
  · dsimp only; omega
  · repeat' first | exact trivial | refine ⟨rfl, ?_⟩ | refine ⟨aC (by assumption) (by assumption), ?_⟩
  repeat' first | exact trivial | refine ⟨rfl, ?_⟩
 have hfin : out = a.rows.map (jC o b.rows) := by rw [hI, List.take_of_length_le (by have := congrArg List.length hd; simp at this; omega)]
 have hg : gf a b on = (⟨CT0.1, out⟩, 0) := by rw [hgo, hfin]
 refine W.exit (aK (aN (aL (qs (W.seq (W.region (pE rfl (aP aa rfl rfl rfl rfl rfl rfl rfl rfl (pE rfl (WO.nil (qs ?_)))))))))))
 try refine cd 2 0 rfl rfl rfl ?_
 try refine cd 2 1 rfl rfl rfl ?_
 refine W.ret (QV.ao aa trivial rfl ?_)
 (rw [hg]; rfl)
end Go.Proofs.YtjenenllmjlimaaGreat
namespace Go.Proofs.YtjenenllmjlimaaGreat
open Go.Ab Go.Tb
set_option maxRecDepth 10000
attribute [local irreducible] W WO Pu QS QB QL QF QV bR CH QE
theorem v8 : ax Tryz.prog 85 [.d (.sl []), .d (.v (.int .i64 0)), .d (.v (.int .i64 0)), .clo 37 []] (.tup []) 0 := by
 refine ax.aR (n := 53) (ts := []) Tryz.func85 (by kernel_rfl) rfl Tryz.ntmps85 Tryz.results85 rfl rfl fun C hC hG => ?_
 refine W.seq (W.region ?_)
 iterate 3 refine pE rfl ?_
 refine WO.nil (qs (W.block ?_))
 refine W.aS (ι := {x : Unit // match x with | u => True})
  (fun x => match x.1 with | u => [(8, .d (.v (.int .i64 1)))]) [(0, _), (1, _), (2, _), (3, _)]
  (fun x => match x.1 with | u => []) [] [] 0 (fun x => match x.1 with | u => 0)
  [] ⟨(), ?_⟩ rfl ?_ ⟨rfl, rfl, rfl, rfl, rfl, rfl, rfl, rfl, trivial⟩ ?_ trivial rfl ?_
 · exact trivial
 · repeat' first | exact trivial | refine ⟨rfl, ?_⟩
 · repeat' exact trivial
 rintro ⟨u, hk, hI⟩
 show W _ _ _ _ _ ⟨[(8, .d (.v (.int .i64 1))), (0, _), (1, _), (2, _), (3, _)], [], [], 0⟩
 iterate 2 refine W.seq ?_
 refine W.region ?_
 iterate 3 refine pE rfl ?_
 refine WO.nil (qs (ak rfl (fun h14 => ?_) (fun h14 => ?_)))
 ·
  exfalso
  simp at h14
 refine W.exit (aK (aN (aL (QF.ao trivial rfl ?_))))
 rfl
theorem sy : ax Tryz.prog 55 [.d (.sl []), .d (.v (.int .i64 0)), .clo 37 []] (.tup []) 0 := by
 refine ax.aR (n := 63) (ts := []) Tryz.func55 (by kernel_rfl) rfl Tryz.ntmps55 Tryz.results55 rfl rfl fun C hC hG => ?_
 refine W.seq (W.region (pE rfl (WO.nil (qs (W.seq (W.region ?_))))))
 iterate 3 refine pE rfl ?_
 refine WO.nil (qs (W.seq (W.block ?_)))
 refine W.aS (ι := {x : Unit // match x with | u => True})
  (fun x => match x.1 with | u => [(7, .d (.v (.int .i64 0))), (8, .d (.v (.int .i64 20)))]) [(0, _), (1, _), (2, _), (6, _)]
  (fun x => match x.1 with | u => []) [] [] 0 (fun x => match x.1 with | u => 0)
  [] ⟨(), ?_⟩ rfl ?_ ⟨rfl, rfl, rfl, rfl, rfl, rfl, rfl, rfl, trivial⟩ ?_ trivial rfl ?_
 · exact trivial
 · repeat' first | exact trivial | refine ⟨rfl, ?_⟩
 · repeat' exact trivial
 rintro ⟨u, hk, hI⟩
 show W _ _ _ _ _ ⟨[(7, .d (.v (.int .i64 0))), (8, .d (.v (.int .i64 20))), (0, _), (1, _), (2, _), (6, _)], [], [], 0⟩
 iterate 2 refine W.seq ?_
 refine W.region ?_
 iterate 3 refine pE rfl ?_
 refine WO.nil (qs (ak rfl (fun h13 => ?_) (fun h13 => ?_)))
 ·
  exfalso
  simp at h13
 refine W.exit (aK (aN (aL (qs (W.seq (W.region ?_))))))
 iterate 4 refine pE rfl ?_
 refine pu (ah rfl rfl rfl v8 rfl) rfl ?_
 refine WO.nil (qs (W.block ?_))
 refine W.aS (ι := {x : Unit // match x with | u => True})
  (fun x => match x.1 with | u => [(6, .d (.v (.int .i64 20)))]) [(0, _), (1, _), (2, _)]
  (fun x => match x.1 with | u => []) [] [] 0 (fun x => match x.1 with | u => 0)
  [] ⟨(), ?_⟩ rfl ?_ ⟨rfl, rfl, rfl, rfl, rfl, rfl, trivial⟩ ?_ trivial rfl ?_
 · exact trivial
 · repeat' first | exact trivial | refine ⟨rfl, ?_⟩
 · repeat' exact trivial
 rintro ⟨u, hk, hI⟩
 show W _ _ _ _ _ ⟨[(6, .d (.v (.int .i64 20))), (0, _), (1, _), (2, _)], [], [], 0⟩
 iterate 2 refine W.seq ?_
 refine W.region ?_
 iterate 3 refine pE rfl ?_
 refine WO.nil (qs (ak rfl (fun h30 => ?_) (fun h30 => ?_)))
 ·
  exfalso
  simp at h30
 refine W.exit (aK (aN (aL (QF.ao trivial rfl ?_))))
 rfl
theorem pt : ax Tryz.prog 36 [.d (.sl []), .clo 37 []] (.tup []) 0 := by
 refine ax.aR (n := 9) (ts := []) Tryz.func36 (by kernel_rfl) rfl Tryz.ntmps36 Tryz.results36 rfl rfl fun C hC hG => ?_
 refine W.region ?_
 iterate 4 refine pE rfl ?_
 refine pu (ah rfl rfl rfl sy rfl) rfl ?_
 refine WO.nil (QF.ao trivial rfl ?_)
 rfl
def lj (z : List aM) (m0 m1 : Nat) : Bool := bY z m0 m1 && decide (0 ≤ (a7 z m0).n)
def nO (left : List Nat) (m0 m1 : Nat) (z : List aM) : Pc := ⟨bq z left, (a7 z m0).n, (a7 z m1).n⟩
def pieces (left : List Nat) (m0 m1 : Nat) : List (List aM) → List Pc
 | [] => []
 | z :: r => if lj z m0 m1 = true then nO left m0 m1 z :: pieces left m0 m1 r else pieces left m0 m1 r
def cR (out : List Pc) : Pc := el out (out.length - 1)
def er (out : List Pc) (p : Pc) : Bool := decide (0 < out.length) && (decide ((cR out).key = p.key) && decide (p.fr ≤ (cR out).to))
def kA (q p : Pc) : Pc := ⟨q.key, q.fr, if q.to < p.to then p.to else q.to⟩
def fI (out : List Pc) : List Pc → List Pc
 | [] => out
 | p :: r => if er out p = true then fI (out.set (out.length - 1) (kA (cR out) p)) r else fI (out ++ [p]) r
def jZ (p : Pc) : List aM := p.key ++ [⟨2, p.fr, B #[]⟩, ⟨2, p.to, B #[]⟩]
def k0 (a : bt) (on : List ByteArray) : List Nat := on.map (bM a.cols)
def qZ (a : bt) (on : List ByteArray) : List Pc := fI [] (eR bz (pieces (k0 a on) (bM a.cols aQ) (bM a.cols bA) a.rows))
def cB (a : bt) (on : List ByteArray) : bt × Int :=
 if (fR 9 on a).2 ≠ 0 then (fE, (fR 9 on a).2) else (⟨(fR 9 on a).1, (qZ a on).map jZ⟩, 0)
theorem jI (left : List Nat) (m0 m1 : Nat) : ∀ (l : List (List aM)), ∀ p ∈ pieces left m0 m1 l, p.key.length = left.length
 | [], p, h => by cases h
 | z :: r, p, h => by
  simp only [pieces] at h
  split at h
  ·
   rcases List.mem_cons.1 h with rfl | h
   · exact List.length_map _
   exact jI left m0 m1 r p h
  exact jI left m0 m1 r p h
theorem tJ {out : List Pc} (h : 0 < out.length) : cR out ∈ out := List.mem_of_getElem? (nZ (by omega : out.length - 1 < out.length))
theorem kF {m : Nat} : ∀ (l out : List Pc), (∀ p ∈ l, p.key.length = m) → (∀ p ∈ out, p.key.length = m) → ∀ p ∈ fI out l, p.key.length = m
 | [], out, _, h, p, hp => h p hp
 | q :: r, out, hl, h, p, hp => by
  simp only [fI] at hp
  split at hp
  ·
   rename_i ht
   have h0 : 0 < out.length := by unfold er at ht; simp at ht; exact ht.1
   refine kF r _ (fun x hx => hl x (List.mem_cons_of_mem _ hx)) (fun x hx => ?_) p hp
   rcases List.mem_or_eq_of_mem_set hx with hx | rfl
   · exact h x hx
   show (cR out).key.length = m
   exact h _ (tJ h0)
  refine kF r _ (fun x hx => hl x (List.mem_cons_of_mem _ hx)) (fun x hx => ?_) p hp
  rcases List.mem_append.1 hx with hx | hx
  · exact h x hx
  rw [List.mem_singleton.1 hx]; exact hl q List.mem_cons_self
theorem kI : ∀ (l out : List Pc), (fI out l).length ≤ out.length + l.length
 | [], out => Nat.le_refl _
 | q :: r, out => by
  simp only [fI]
  split
  · have := kI r (out.set (out.length - 1) (kA (cR out) q)); rw [List.length_set] at this; simp; omega
  have := kI r (out ++ [q]); rw [List.length_append] at this; simp at this ⊢; omega
theorem iu (L : List Pc) (p : Pc) : L.map Pc.c ++ [p.c] = (L ++ [p]).map Pc.c := by simp
end Go.Proofs.YtjenenllmjlimaaGreat
namespace Go.Proofs.YtjenenllmjlimaaGreat
open Go.Ab Go.Tb
set_option maxRecDepth 10000
attribute [local irreducible] W WO Pu QS QB QL QF QV bR CH QE
theorem qX (a : bt) (on : List ByteArray) (hon : on.length ≤ 400) (hpos : 0 < (pieces (k0 a on) (bM a.cols aQ) (bM a.cols bA) a.rows).length) : ax Tryz.prog 13 [.ag a.c, .d (.sl (on.map sc))]
  (.tup [.ag (cB a on).1.c, .d (.v (.int .i64 (cB a on).2))]) 0 := by
 have hcol := jl 9 on [a] (by simp) hon
 rw [oK] at hcol
 obtain ⟨CT0, hCT⟩ : ∃ c, fR 9 on a = c := ⟨_, rfl⟩
 rw [hCT] at hcol
 obtain ⟨m0, hm0⟩ : ∃ i, bM a.cols aQ = i := ⟨_, rfl⟩
 obtain ⟨m1, hm1⟩ : ∃ i, bM a.cols bA = i := ⟨_, rfl⟩
 obtain ⟨left, hleft⟩ : ∃ l, k0 a on = l := ⟨_, rfl⟩
 rw [hm0, hm1, hleft] at hpos
 refine ax.eQ aa (n := 150) (rs := [.cell 4 25, .tmp 5]) Tryz.func13 (by kernel_rfl) rfl Tryz.ntmps13 Tryz.results13 rfl fun C hC hG => ?_
 refine W.seq (W.region (bg rfl rfl rfl (a8 aa rfl rfl rfl (pE rfl (WO.nil (qs (W.seq (W.region (pE rfl (pE rfl (pu (aI aa rfl rfl rfl rfl rfl rfl rfl rfl rfl) rfl ?_)))))))))))
 refine pu (ah rfl rfl rfl hcol rfl) rfl ?_
 iterate 5 refine pE rfl ?_
 refine WO.nil (qs ?_)
 iterate 2 refine W.seq ?_
 refine W.region ?_
 iterate 2 refine pE rfl ?_
 refine WO.nil (qs (ak rfl (fun h30 => ?_) (fun h30 => ?_)))
 ·
  have he : CT0.2 ≠ 0 := by simpa using h30
  have hg : cB a on = (fE, CT0.2) := by unfold cB; rw [hCT, if_pos he]
  refine W.seq (W.region (pu (build aa rfl rfl rfl rfl) rfl ?_))
  refine pE rfl (aP aa rfl rfl rfl rfl rfl rfl rfl rfl (pE rfl (WO.nil (qs ?_))))
  try refine cd 1 0 rfl rfl rfl ?_
  try refine cd 1 1 rfl rfl rfl ?_
  refine W.ret (ae (QV.ao aa trivial rfl ?_))
  (rw [hg]; rfl)
 have he : CT0.2 = 0 := by simpa using h30
 have hok := vS (by rw [hCT]; exact he)
 have hoo := w6 hok
 have haz := dH hok.ga
 have hol := hok.len
 have hra := fK hok.ga
 obtain ⟨srt, hsrt⟩ : ∃ s, eR bz (pieces left m0 m1 a.rows) = s := ⟨_, rfl⟩
 obtain ⟨J, hJJ⟩ : ∃ s, fI [] srt = s := ⟨_, rfl⟩
 have hgo : cB a on = (⟨CT0.1, J.map jZ⟩, 0) := by unfold cB qZ; rw [hCT, if_neg (by simp [he]), hleft, hm0, hm1, hsrt, hJJ]
 have hpl : ax Tryz.prog 21 [.ag a.c, .d (.sl (on.map sc))] (.d (.sl (left.map nc))) 0 := by
  have := eC a on (by omega)
  rw [fS (fun s hs => by obtain ⟨i, c, h1, _⟩ := hok.ons s hs; exact ⟨i, h1⟩)] at this
  rw [← hleft]; exact this
 have hpm : ax Tryz.prog 21 [.ag a.c, .d (.sl ([aQ, bA].map sc))] (.d (.sl ([m0, m1].map nc))) 0 := by
  have := eC a [aQ, bA] (by simp)
  rw [fS (fun s hs => by
   rcases List.mem_cons.1 hs with rfl | hs
   · obtain ⟨i, c, h1, _⟩ := hok.fr; exact ⟨i, h1⟩
   rcases List.mem_cons.1 hs with rfl | hs
   · obtain ⟨i, c, h1, _⟩ := hok.to; exact ⟨i, h1⟩
   cases hs)] at this
  rw [← hm0, ← hm1]; exact this
 have hll : left.length ≤ 16 := by rw [← hleft]; show (on.map _).length ≤ _; rw [List.length_map]; exact hol
 rw [show on.map (bM a.cols) = left from hleft, hm0, hm1] at hoo
 refine W.skip (qs (W.seq (W.be aa (by kernel_rfl) ?_)))
 refine an (ev aa rfl) rfl ?_
 refine an (ev aa rfl) rfl ?_
 refine an (ah rfl rfl rfl hpl rfl) rfl ?_
 refine an (ev aa rfl) rfl ?_
 refine an (aI aa rfl rfl rfl rfl rfl rfl rfl rfl rfl) rfl ?_
 refine an (ah rfl rfl rfl hpm rfl) rfl ?_
 iterate 2 refine an (ev aa rfl) rfl ?_
 refine CH.nil ?_
 refine qs (W.seq (W.region ?_))
 iterate 2 refine pE rfl ?_
 refine WO.nil (qs ?_)
 iterate 2 refine W.seq ?_
 refine W.region (pE rfl (pE rfl ?_))
 iterate 2 refine pE rfl ?_
 refine WO.nil (qs (W.block (W.nh (d := 10) rfl rfl ?_)))
 refine W.len (t := 40) rfl rfl (fun hlen => ?_)
 try simp only [List.length_map, Ex.aF] at hlen
 refine W.aS (ι := {x : Nat × List Pc // match x with | (i, L) => i ≤ a.rows.length ∧ L.length ≤ i ∧ L ++ pieces left m0 m1 (a.rows.drop i) = pieces left m0 m1 a.rows})
  (fun x => match x.1 with | (i, L) => [(4, .ptr 0 0), (10, .xs 1 (L.map Pc.c)), (42, .d (.v (.int .i64 ((i : Nat) : Int))))]) [(6, _), (8, _), (9, _), (11, _), (40, _), (41, _)]
  (fun x => match x.1 with | (i, L) => [(0, [.d (.v (.slice none 0 0)), .d (.v (.slice none 0 0))])]) [] [1] 2 (fun x => match x.1 with | (i, L) => a.rows.length - i)
  [1, 2] ⟨(0, []), ?_⟩ rfl ?_ ⟨rfl, rfl, rfl, rfl, rfl, rfl, rfl, rfl, rfl, rfl, rfl, rfl, trivial⟩ ?_ trivial rfl ?_
 · exact ⟨Nat.zero_le _, Nat.zero_le _, rfl⟩
 · repeat' first | exact trivial | refine ⟨rfl, ?_⟩
 · repeat' first | exact trivial | refine ⟨rfl, ?_⟩
 rintro ⟨⟨i, L⟩, hk, hn, hI⟩
 show W _ _ _ _ _ ⟨[(4, .ptr 0 0), (10, .xs 1 (L.map Pc.c)), (42, .d (.v (.int .i64 ((i : Nat) : Int)))), (6, _), (8, _), (9, _), (11, _), (40, _), (41, _)], [(0, [.d (.v (.slice none 0 0)), .d (.v (.slice none 0 0))])], [1], 2⟩
 refine W.seq (W.region (pE rfl (WO.nil (qs (W.seq (a9 (l := a.rows) (k := i) rfl (by simp [Ex.aF, aH]) hk (fun z hx hd hlt => ?_) (fun he hd => ?_)))))))
 ·
  rw [hd] at hI
  simp only [pieces] at hI
  have hxm := List.mem_of_getElem? hx
  have hxl := (hra z hxm).1
  have hsx := ng z m0 m1 (by rw [hxl]; exact hoo.m0) (by rw [hxl]; exact hoo.m1)
  have hpx := ig z left (by omega) (fun q hq => by rw [hxl]; exact hoo.left q hq)
  refine W.skip (qs (W.seq (W.block (W.seq (W.region (pu (indexAddr aa rfl rfl rfl rfl rfl rfl (Int.natCast_nonneg _) (aB hx) rfl) rfl ?_))))))
  refine pE rfl (pE rfl (WO.nil (qs (W.seq (W.region ?_)))))
  iterate 2 refine pE rfl ?_
  refine pu (ah rfl rfl rfl hsx rfl) rfl ?_
  iterate 3 refine pE rfl ?_
  refine a8 aa rfl rfl rfl (aP aa rfl rfl rfl rfl rfl rfl rfl rfl (pE rfl (WO.nil (qs (W.seq ?_)))))
  apply aD; (case hb => rfl)
  ·
   iterate 2 refine pE rfl ?_
   apply eT; (case hj => rfl); (case hl => rfl)
   ·
    intro g53
    refine ab rfl rfl (pE rfl (ab rfl rfl (pE rfl (ab rfl rfl ?_))))
    iterate 2 refine pE rfl ?_
    refine WO.nil (ay rfl rfl rfl)
   intro g53
   iterate 3 refine aq rfl rfl rfl rfl ?_
   refine pE rfl (WO.nil (ay rfl rfl rfl))
  refine qs (ak rfl (fun h57 => ?_) (fun h57 => ?_))
  ·
   have hin : lj z m0 m1 = true := by
    revert h57
    unfold lj
    cases bY z m0 m1 <;> simp
   rw [if_pos hin] at hI
   refine W.fq aa [] [] [] [] 7 (by kernel_rfl) (by kernel_rfl) rfl rfl ?_
   refine' aU (ev aa rfl) ?p_1 rfl rfl rfl (by kernel_rfl) rfl ?h_1
   case' h_1 => skip
   case p_1 => refine ⟨fun ha => (ar ha (by kernel_rfl)).elim, ?_⟩ <;> intro ha <;> first | exact ⟨ev aa rfl, fun h => nomatch h⟩ | exact (ar ha (by kernel_rfl)).elim
   refine' aU (ev aa rfl) ?p_2 rfl rfl rfl (by kernel_rfl) rfl ?h_2
   case' h_2 => skip
   case p_2 => refine ⟨fun ha => (ar ha (by kernel_rfl)).elim, ?_⟩ <;> intro ha <;> first | exact ⟨ev aa rfl, fun h => nomatch h⟩ | exact (ar ha (by kernel_rfl)).elim
   refine' aU (ev aa rfl) ?p_3 rfl rfl rfl (by kernel_rfl) rfl ?h_3
   case' h_3 => skip
   case p_3 => refine ⟨fun ha => (ar ha (by kernel_rfl)).elim, ?_⟩ <;> intro ha <;> first | exact ⟨ev aa rfl, fun h => nomatch h⟩ | exact (ar ha (by kernel_rfl)).elim
   refine' aU (ah rfl rfl rfl hpx rfl) ?p_4 rfl rfl rfl (by kernel_rfl) rfl ?h_4
   case' h_4 => skip
   case p_4 => refine ⟨fun ha => (ar ha (by kernel_rfl)).elim, ?_⟩ <;> intro ha <;> first | exact ⟨ah rfl rfl rfl hpx rfl, fun h => nomatch h⟩ | exact (ar ha (by kernel_rfl)).elim
   refine' aU (ev aa rfl) ?p_5 rfl rfl rfl (by kernel_rfl) rfl ?h_5
   case' h_5 => skip
   case p_5 => refine ⟨fun ha => (ar ha (by kernel_rfl)).elim, ?_⟩ <;> intro ha <;> first | exact ⟨ev aa rfl, fun h => nomatch h⟩ | exact ⟨bT aa rfl rfl rfl rfl, fun h => nomatch h⟩ | exact ⟨bU aa rfl rfl rfl rfl rfl, fun h => nomatch h⟩ | exact (ar ha (by kernel_rfl)).elim
   refine' aU (build aa rfl rfl rfl rfl) ?p_6 rfl rfl rfl (by kernel_rfl) rfl ?h_6
   case' h_6 => skip
   case p_6 => refine ⟨fun ha => (ar ha (by kernel_rfl)).elim, ?_⟩ <;> intro ha <;> first | exact ⟨build aa rfl rfl rfl rfl, fun h => nomatch h⟩ | exact (ar ha (by kernel_rfl)).elim
   refine' aU (aI aa rfl rfl rfl rfl rfl rfl rfl rfl rfl) ?p_7 rfl rfl rfl (by kernel_rfl) rfl ?h_7
   case' h_7 => skip
   case p_7 => refine ⟨fun ha => (ar ha (by kernel_rfl)).elim, ?_⟩ <;> intro ha <;> first | exact ⟨aI aa rfl rfl rfl rfl rfl rfl rfl rfl rfl, fun h => nomatch h⟩ | exact (ar ha (by kernel_rfl)).elim
   refine CD.nil ?_ rfl
   refine gW (es2 := [(nO left m0 m1 z).c]) (r := (L ++ [nO left m0 m1 z]).map Pc.c) aa rfl rfl rfl rfl rfl rfl rfl rfl rfl rfl (iu _ _) (by rw [iu]; exact cg _) (by show ((L.map Pc.c).length + 1) * 40 ≤ _; rw [List.length_map]; omega) rfl ?_
   refine pE rfl (WO.nil (aW (qs (W.region ?_))))
   iterate 2 refine pE rfl ?_
   refine WO.nil ?_
   have hbr := hin
   (have _hb : lj z m0 m1 = true := hbr; refine W.aT [0, 3] ⟨(i + 1, L ++ [nO left m0 m1 z]), ?_⟩ ?_ rfl ?_ ⟨rfl, rfl, rfl, rfl, rfl, rfl, rfl, rfl, rfl, rfl, rfl, rfl, trivial⟩ ?_ trivial rfl)
   · exact ⟨hlt, (by first | (rw [List.length_append]; simp; omega) | omega), (by first | exact hI | (rw [List.append_assoc]; exact hI))⟩
   · dsimp only; omega
   · repeat' first | exact trivial | refine ⟨rfl, ?_⟩ | refine ⟨aC (by assumption) (by assumption), ?_⟩
   repeat' first | exact trivial | refine ⟨rfl, ?_⟩
  have hin : lj z m0 m1 = false := by
   revert h57
   unfold lj
   cases bY z m0 m1 <;> simp
  rw [if_neg (by simp [hin])] at hI
  refine W.skip (aW (qs (W.region ?_)))
  iterate 2 refine pE rfl ?_
  refine WO.nil ?_
  have hbr := hin
  (have _hb : lj z m0 m1 = false := hbr; refine W.aT [0, 1] ⟨(i + 1, L), ?_⟩ ?_ rfl ?_ ⟨rfl, rfl, rfl, rfl, rfl, rfl, rfl, rfl, rfl, rfl, rfl, rfl, trivial⟩ ?_ trivial rfl)
  · exact ⟨hlt, (by first | (rw [List.length_append]; simp; omega) | omega), (by first | exact hI | (rw [List.append_assoc]; exact hI))⟩
  · dsimp only; omega
  · repeat' first | exact trivial | refine ⟨rfl, ?_⟩ | refine ⟨aC (by assumption) (by assumption), ?_⟩
  repeat' first | exact trivial | refine ⟨rfl, ?_⟩
 rw [hd] at hI
 simp only [pieces, List.append_nil] at hI
 rw [← hI] at hpos hsrt
 have hL2 : L.length ≤ 20000 := by omega
 have hst : eR bz L = srt := hsrt
 have hsl0 : srt.length = L.length := by rw [← hst]; exact (gT bz L).len
 have hkey : ∀ p ∈ J, p.key.length ≤ 16 := by
  have h1 : ∀ p ∈ srt, p.key.length = left.length := fun p hp => by
   have h2 : p ∈ L := by rw [← hst] at hp; exact (gT bz L).perm.mem_iff.1 hp
   rw [hI] at h2
   exact jI left m0 m1 a.rows p h2
  intro p hp
  rw [← hJJ] at hp
  have := kF srt [] h1 (fun p hp => nomatch hp) p hp
  omega
 have hJn : J.length ≤ 20000 := by rw [← hJJ]; have := kI srt []; simp at this; omega
 refine W.exit (aK (aN (aL (qs (W.seq ?_)))))
 have hlp : 0 < (L.map Pc.c).length := by rw [List.length_map]; exact hpos
 refine w8 10 rfl rfl rfl hlp rfl (fun cap13 k13 => ?_)
 have hsl := qp L k13 cap13 (by omega)
 have hll2 : (L.map Pc.c).length = L.length := List.length_map _
 rw [← hll2, hst] at hsl
 refine W.region (pE rfl (gP 2 rfl rfl rfl rfl hsl rfl ?_))
 refine WO.nil (qs ?_)
 iterate 2 refine W.seq ?_
 refine qW (sz := 3) 10 rfl rfl rfl (by rw [List.length_map, List.length_map, hsl0]) (cg _) rfl rfl ?_
 refine W.region ?_
 iterate 3 refine pE rfl ?_
 refine WO.nil (qs (W.block (W.nh (d := 11) rfl rfl ?_)))
 have hsm : srt.length ≤ maxLen := by simp only [maxLen]; omega
 refine W.aS (ι := {x : Nat × List Pc // match x with | (j, out) => j ≤ srt.length ∧ out.length ≤ j ∧ fI out (srt.drop j) = J})
  (fun x => match x.1 with | (j, out) => [(4, .ptr 0 0), (11, .xs 1 (out.map Pc.c)), (71, .d (.v (.int .i64 ((j : Nat) : Int))))]) [(6, _), (69, _), (70, _)]
  (fun x => match x.1 with | (j, out) => [(0, [.d (.v (.slice none 0 0)), .d (.v (.slice none 0 0))])]) [] [1] 2 (fun x => match x.1 with | (j, out) => srt.length - j)
  [0, 4] ⟨(0, []), ?_⟩ rfl ?_ ⟨rfl, rfl, rfl, rfl, rfl, rfl, trivial⟩ ?_ trivial rfl ?_
 · exact ⟨Nat.zero_le _, Nat.zero_le _, hJJ⟩
 · repeat' first | exact trivial | refine ⟨rfl, ?_⟩
 · repeat' first | exact trivial | refine ⟨rfl, ?_⟩
 rintro ⟨⟨j, out⟩, hk, hn2, hR⟩
 show W _ _ _ _ _ ⟨[(4, .ptr 0 0), (11, .xs 1 (out.map Pc.c)), (71, .d (.v (.int .i64 ((j : Nat) : Int)))), (6, _), (69, _), (70, _)], [(0, [.d (.v (.slice none 0 0)), .d (.v (.slice none 0 0))])], [1], 2⟩
 refine W.seq (W.region (pE rfl (WO.nil (qs (W.seq (a9 (l := srt) (k := j) rfl (by simp [Ex.aF, aH]) hk (fun p hx hd hlt => ?_) (fun he hd => ?_)))))))
 ·
  rw [hd] at hR
  simp only [fI] at hR
  have hsub : IntKind.i64.wrap (((out.map Pc.c).length : Int) - 1) = ((out.length : Int) - 1) := by rw [List.length_map, wrap64 (by omega)]
  have hla : ∀ h : decide (0 ≤ (out.length : Int) - 1) = true, 0 < out.length ∧ 0 ≤ (out.length : Int) - 1 ∧ (out.map Pc.c)[((out.length : Int) - 1).toNat]? = some (cR out).c := by
   intro h
   have h0 : 0 < out.length := by simp at h; omega
   refine ⟨h0, by omega, ?_⟩
   rw [show ((out.length : Int) - 1).toNat = out.length - 1 by omega]
   exact du (by omega)
  refine W.skip (qs (W.seq (W.block (W.seq (W.region (pu (indexAddr aa rfl rfl rfl rfl rfl rfl (Int.natCast_nonneg _) (aB hx) rfl) rfl ?_))))))
  refine pE rfl (a8 aa rfl rfl rfl (aP aa rfl rfl rfl rfl rfl rfl rfl rfl (WO.nil (qs (W.seq (W.region (pE rfl (pu (sZ aa rfl rfl rfl rfl) rfl ?_))))))))
  refine pu (bH (ev aa rfl) hsub) rfl ?_
  refine pE rfl (WO.nil (qs (W.seq ?_)))
  apply ia aa; (case hb => rfl); (case hB => kernel_rfl)
  ·
   iterate 3 refine an (ev aa rfl) rfl ?_
   apply hH; (case hj => rfl); (case hl => rfl)
   ·
    intro g80
    refine aE rfl rfl (ev aa rfl) rfl ?_
    refine aE rfl rfl (ev aa rfl) rfl ?_
    refine aE rfl rfl (eX (l := (cR out).c) aa rfl rfl rfl rfl rfl rfl (hla g80).2.1 (hla g80).2.2 rfl) rfl ?_
    refine aE rfl rfl (dm aa rfl rfl rfl rfl rfl rfl) rfl ?_
    refine aE rfl rfl (jn aa rfl rfl rfl) rfl ?_
    refine aE rfl rfl (ev aa rfl) rfl ?_
    refine aE rfl rfl (ev aa rfl) rfl ?_
    refine aE rfl rfl (ah rfl rfl rfl (mn (cR out).key p.key) rfl) rfl ?_
    iterate 2 refine an (ev aa rfl) rfl ?_
    apply hH; (case hj => rfl); (case hl => rfl)
    ·
     intro g90
     refine aE rfl rfl (ev aa rfl) rfl ?_
     refine aE rfl rfl (ev aa rfl) rfl ?_
     refine aE rfl rfl (ev aa rfl) rfl ?_
     refine aE rfl rfl (ev aa rfl) rfl ?_
     refine aE rfl rfl (ev aa rfl) rfl ?_
     refine aE rfl rfl (eX (l := (cR out).c) aa rfl rfl rfl rfl rfl rfl (hla g80).2.1 (hla g80).2.2 rfl) rfl ?_
     refine aE rfl rfl (dm aa rfl rfl rfl rfl rfl rfl) rfl ?_
     refine aE rfl rfl (dm aa rfl rfl rfl rfl rfl rfl) rfl ?_
     refine aE rfl rfl (jn aa rfl rfl rfl) rfl ?_
     refine aE rfl rfl (ev aa rfl) rfl ?_
     refine an (ev aa rfl) rfl ?_
     refine CH.nil ?_
     refine ay rfl rfl rfl
    intro g90
    iterate 10 refine bG rfl rfl rfl rfl ?_
    refine an (ev aa rfl) rfl ?_
    refine CH.nil ?_
    refine ay rfl rfl rfl
   intro g80
   iterate 8 refine bG rfl rfl rfl rfl ?_
   iterate 2 refine an (ev aa rfl) rfl ?_
   iterate 10 refine bG rfl rfl rfl rfl ?_
   refine an (ev aa rfl) rfl ?_
   refine CH.nil ?_
   refine ay rfl rfl rfl
  refine qs (ak rfl (fun h101 => ?_) (fun h101 => ?_))
  ·
   have htp : er out p = true := by
    revert h101
    unfold er
    by_cases q : 0 < out.length
    ·
     have q1 : 0 ≤ (out.length : Int) - 1 := by omega
     have q2 : 1 ≤ (out.length : Int) := by omega
     simp [q, q1, q2]
    have q1 : ¬ (0 ≤ (out.length : Int) - 1) := by omega
    have q2 : ¬ (1 ≤ (out.length : Int)) := by omega
    simp [q, q1, q2]
   rw [if_pos htp] at hR
   have h0 : 0 < out.length := by unfold er at htp; simp at htp; exact htp.1
   have hk0 : 0 ≤ (out.length : Int) - 1 := by omega
   have hat : (out.map Pc.c)[((out.length : Int) - 1).toNat]? = some (cR out).c := by
    rw [show ((out.length : Int) - 1).toNat = out.length - 1 by omega]
    exact du (by omega)
   have hset : (out.map Pc.c).set ((out.length : Int) - 1).toNat (kA (cR out) p).c = (out.set (out.length - 1) (kA (cR out) p)).map Pc.c := by
    rw [show ((out.length : Int) - 1).toNat = out.length - 1 by omega]
    exact gH
   refine W.fq aa [] [] [] [] 12 (by kernel_rfl) (by kernel_rfl) rfl rfl ?_
   refine' aU (ev aa rfl) ?p_8 rfl rfl rfl (by kernel_rfl) rfl ?h_8
   case' h_8 => skip
   case p_8 => refine ⟨fun ha => (ar ha (by kernel_rfl)).elim, ?_⟩ <;> intro ha <;> first | exact ⟨ev aa rfl, fun h => nomatch h⟩ | exact (ar ha (by kernel_rfl)).elim
   refine' aU (ev aa rfl) ?p_9 rfl rfl rfl (by kernel_rfl) rfl ?h_9
   case' h_9 => skip
   case p_9 => refine ⟨fun ha => (ar ha (by kernel_rfl)).elim, ?_⟩ <;> intro ha <;> first | exact ⟨ev aa rfl, fun h => nomatch h⟩ | exact (ar ha (by kernel_rfl)).elim
   refine' aU (ev aa rfl) ?p_10 rfl rfl rfl (by kernel_rfl) rfl ?h_10
   case' h_10 => skip
   case p_10 => refine ⟨fun ha => (ar ha (by kernel_rfl)).elim, ?_⟩ <;> intro ha <;> first | exact ⟨ev aa rfl, fun h => nomatch h⟩ | exact (ar ha (by kernel_rfl)).elim
   refine' aU (ev aa rfl) ?p_11 rfl rfl rfl (by kernel_rfl) rfl ?h_11
   case' h_11 => skip
   case p_11 => refine ⟨fun ha => (ar ha (by kernel_rfl)).elim, ?_⟩ <;> intro ha <;> first | exact ⟨ev aa rfl, fun h => nomatch h⟩ | exact (ar ha (by kernel_rfl)).elim
   refine' aU (eX (l := (cR out).c) aa rfl rfl rfl rfl rfl rfl hk0 hat rfl) ?p_12 rfl rfl rfl (by kernel_rfl) rfl ?h_12
   case' h_12 => skip
   case p_12 => refine ⟨fun ha => (ar ha (by kernel_rfl)).elim, ?_⟩ <;> intro ha <;> first | exact ⟨eX (l := (cR out).c) aa rfl rfl rfl rfl rfl rfl hk0 hat rfl, fun h => nomatch h⟩ | exact (ar ha (by kernel_rfl)).elim
   refine' aU (dm aa rfl rfl rfl rfl rfl rfl) ?p_13 rfl rfl rfl (by kernel_rfl) rfl ?h_13
   case' h_13 => skip
   case p_13 => refine ⟨fun ha => (ar ha (by kernel_rfl)).elim, ?_⟩ <;> intro ha <;> first | exact ⟨dm aa rfl rfl rfl rfl rfl rfl, fun h => nomatch h⟩ | exact (ar ha (by kernel_rfl)).elim
   refine' aU (dm aa rfl rfl rfl rfl rfl rfl) ?p_14 rfl rfl rfl (by kernel_rfl) rfl ?h_14
   case' h_14 => skip
   case p_14 => refine ⟨fun ha => (ar ha (by kernel_rfl)).elim, ?_⟩ <;> intro ha <;> first | exact ⟨dm aa rfl rfl rfl rfl rfl rfl, fun h => nomatch h⟩ | exact (ar ha (by kernel_rfl)).elim
   refine' aU (jn aa rfl rfl rfl) ?p_15 rfl rfl rfl (by kernel_rfl) rfl ?h_15
   case' h_15 => skip
   case p_15 => refine ⟨fun ha => (ar ha (by kernel_rfl)).elim, ?_⟩ <;> intro ha <;> first | exact ⟨jn aa rfl rfl rfl, fun h => nomatch h⟩ | exact (ar ha (by kernel_rfl)).elim
   refine' aU (ev aa rfl) ?p_16 rfl rfl rfl (by kernel_rfl) rfl ?h_16
   case' h_16 => skip
   case p_16 => refine ⟨fun ha => (ar ha (by kernel_rfl)).elim, ?_⟩ <;> intro ha <;> first | exact ⟨ev aa rfl, fun h => nomatch h⟩ | exact (ar ha (by kernel_rfl)).elim
   refine' aU (ev aa rfl) ?p_17 rfl rfl rfl (by kernel_rfl) rfl ?h_17
   case' h_17 => skip
   case p_17 => refine ⟨fun ha => (ar ha (by kernel_rfl)).elim, ?_⟩ <;> intro ha <;> first | exact ⟨ev aa rfl, fun h => nomatch h⟩ | exact (ar ha (by kernel_rfl)).elim
   refine' aU (ev aa rfl) ?p_18 rfl rfl rfl (by kernel_rfl) rfl ?h_18
   case' h_18 => skip
   case p_18 => refine ⟨fun ha => (ar ha (by kernel_rfl)).elim, ?_⟩ <;> intro ha <;> first | exact ⟨ev aa rfl, fun h => nomatch h⟩ | exact ⟨bT aa rfl rfl rfl rfl, fun h => nomatch h⟩ | exact ⟨bU aa rfl rfl rfl rfl rfl, fun h => nomatch h⟩ | exact (ar ha (by kernel_rfl)).elim
   refine' aU (ev aa rfl) ?p_19 rfl rfl rfl (by kernel_rfl) rfl ?h_19
   case' h_19 => skip
   case p_19 => refine ⟨fun ha => (ar ha (by kernel_rfl)).elim, ?_⟩ <;> intro ha <;> first | exact ⟨ev aa rfl, fun h => nomatch h⟩ | exact (ar ha (by kernel_rfl)).elim
   refine CD.nil ?_ rfl
   refine pu (eX (l := (cR out).c) aa rfl rfl rfl rfl rfl rfl hk0 hat rfl) rfl ?_
   refine pu (dm aa rfl rfl rfl rfl rfl rfl) rfl ?_
   refine pu (dm aa rfl rfl rfl rfl rfl rfl) rfl ?_
   refine kZ aa 11 rfl rfl rfl rfl hat rfl rfl rfl rfl rfl rfl hset rfl ?_
   refine WO.nil (aW (qs (W.region ?_)))
   iterate 2 refine pE rfl ?_
   refine WO.nil ?_
   have hbr := htp
   (have _hb : er out p = true := hbr; refine W.aT [0, 3] ⟨(j + 1, out.set (out.length - 1) (kA (cR out) p)), ?_⟩ ?_ rfl ?_ ⟨rfl, rfl, rfl, rfl, rfl, rfl, trivial⟩ ?_ trivial rfl)
   · exact ⟨hlt, (by first | (rw [List.length_append]; simp; omega) | (rw [List.length_set]; omega)), hR⟩
   · dsimp only; omega
   · repeat' first | exact trivial | refine ⟨rfl, ?_⟩ | refine ⟨aC (by assumption) (by assumption), ?_⟩
   repeat' first | exact trivial | refine ⟨rfl, ?_⟩
  have htp : er out p = false := by
   revert h101
   unfold er
   by_cases q : 0 < out.length
   ·
    have q1 : 0 ≤ (out.length : Int) - 1 := by omega
    have q2 : 1 ≤ (out.length : Int) := by omega
    simp [q, q1, q2]
   have q1 : ¬ (0 ≤ (out.length : Int) - 1) := by omega
   have q2 : ¬ (1 ≤ (out.length : Int)) := by omega
   simp [q, q1, q2]
  rw [if_neg (by simp [htp])] at hR
  refine W.region (pE rfl (pE rfl (pu (aI aa rfl rfl rfl rfl rfl rfl rfl rfl rfl) rfl ?_)))
  refine gW (es2 := [p.c]) (r := (out ++ [p]).map Pc.c) aa rfl rfl rfl rfl rfl rfl rfl rfl rfl rfl (iu _ _) (by rw [iu]; exact cg _) (by show ((out.map Pc.c).length + 1) * 40 ≤ _; rw [List.length_map]; omega) rfl ?_
  refine pE rfl (WO.nil (aW (qs (W.region ?_))))
  iterate 2 refine pE rfl ?_
  refine WO.nil ?_
  have hbr := htp
  (have _hb : er out p = false := hbr; refine W.aT [0, 3] ⟨(j + 1, out ++ [p]), ?_⟩ ?_ rfl ?_ ⟨rfl, rfl, rfl, rfl, rfl, rfl, trivial⟩ ?_ trivial rfl)
  · exact ⟨hlt, (by first | (rw [List.length_append]; simp; omega) | (rw [List.length_set]; omega)), hR⟩
  · dsimp only; omega
  · repeat' first | exact trivial | refine ⟨rfl, ?_⟩ | refine ⟨aC (by assumption) (by assumption), ?_⟩
  repeat' first | exact trivial | refine ⟨rfl, ?_⟩
 rw [hd] at hR
 simp only [fI] at hR
 refine W.exit (aK (aN (aL (qs (W.seq (mV 11 rfl rfl rfl rfl ?_))))))
 refine qu 11 rfl rfl ?_
 refine W.region (pE rfl (pu (build aa rfl rfl rfl rfl) rfl ?_))
 refine a8 aa rfl rfl rfl (aP aa rfl rfl rfl rfl rfl rfl rfl rfl (WO.nil (qs ?_)))
 iterate 2 refine W.seq ?_
 refine W.region ?_
 iterate 3 refine pE rfl ?_
 refine WO.nil (qs (W.block (eU 3 1 rfl rfl rfl ?_)))
 refine W.len (t := 124) rfl rfl (fun hlen => ?_)
 try simp only [List.length_map, Ex.aF] at hlen
 refine W.aS (ι := {x : Nat × List (List aM) // match x with | (k, rows) => k ≤ out.length ∧ rows = (out.take k).map jZ})
  (fun x => match x.1 with | (k, rows) => [(4, .ptr 0 0), (19, .ptr 1 0), (126, .d (.v (.int .i64 ((k : Nat) : Int))))]) [(124, _), (125, _)]
  (fun x => match x.1 with | (k, rows) => [(0, [.d (.v (.slice none 0 0)), .d (.v (.slice none 0 0))]), (1, [.d (.sl (CT0.1.map Col.c)), .own 2 (rows.map rc)])]) [] [2] 3 (fun x => match x.1 with | (k, rows) => out.length - k)
  [0, 3, 4] ⟨(0, []), ?_⟩ rfl ?_ ⟨rfl, rfl, rfl, rfl, trivial⟩ ?_ trivial rfl ?_
 · exact ⟨Nat.zero_le _, rfl⟩
 · repeat' first | exact trivial | refine ⟨rfl, ?_⟩
 · repeat' first | exact trivial | refine ⟨rfl, ?_⟩
 rintro ⟨⟨k, rows⟩, hk, hW⟩
 show W _ _ _ _ _ ⟨[(4, .ptr 0 0), (19, .ptr 1 0), (126, .d (.v (.int .i64 ((k : Nat) : Int)))), (124, _), (125, _)], [(0, [.d (.v (.slice none 0 0)), .d (.v (.slice none 0 0))]), (1, [.d (.sl (CT0.1.map Col.c)), .own 2 (rows.map rc)])], [2], 3⟩
 refine W.seq (W.region (pE rfl (WO.nil (qs (W.seq (a9 (l := out) (k := k) rfl (by simp [Ex.aF, aH]) hk (fun q hx hd hlt => ?_) (fun he hd => ?_)))))))
 ·
  have hq16 : q.key.length ≤ 16 := hkey q (by rw [← hR]; exact List.mem_of_getElem? hx)
  have hrl : rows.length ≤ 20000 := by rw [hW, List.length_map, List.length_take]; rw [← hR] at hJn; omega
  have hrow : q.key ++ [⟨2, q.fr, B #[]⟩, ⟨2, q.to, B #[]⟩] = jZ q := rfl
  refine W.skip (qs (W.seq (W.block (W.seq (W.region (pu (indexAddr aa rfl rfl rfl rfl rfl rfl (Int.natCast_nonneg _) (aB hx) rfl) rfl ?_))))))
  refine pE rfl (a8 aa rfl rfl rfl (aP aa rfl rfl rfl rfl rfl rfl rfl rfl (WO.nil (qs ?_))))
  refine' W.fq aa [_, _] [[4, 2], [5, 2], [6, 5]] [5, 6, 7] [4, 14] 16 (by kernel_rfl) (by kernel_rfl) rfl rfl ?hL_20
  case' hL_20 => skip
  refine' aU (ev aa rfl) ?p_21 rfl rfl rfl (by kernel_rfl) rfl ?h_21
  case' h_21 => skip
  refine' aU (ev aa rfl) ?p_22 rfl rfl rfl (by kernel_rfl) rfl ?h_22
  case' h_22 => skip
  refine' aU (ev aa rfl) ?p_23 rfl rfl rfl (by kernel_rfl) rfl ?h_23
  case' h_23 => skip
  refine' aU (ev aa rfl) ?p_24 rfl rfl rfl (by kernel_rfl) rfl ?h_24
  case' h_24 => skip
  refine' kH ?x_25 rfl rfl rfl (by kernel_rfl) (fun h => (ar h (by kernel_rfl)).elim) rfl ?h_25
  case x_25 =>
   intro b hb g; cases b
   · exact (ar hb (by kernel_rfl)).elim
   refine e6 rfl rfl rfl (kC q.key (by omega)) (by rfl) rfl rfl ?_
   refine WO.nil ?_
   refine' iI rfl ?_ ?_ ?_ ?_
   all_goals try exact rfl
  case' h_25 => skip
  refine' aU (ev aa rfl) ?p_26 rfl rfl rfl (by kernel_rfl) rfl ?h_26
  case' h_26 => skip
  refine' aU (ev aa rfl) ?p_27 rfl rfl rfl (by kernel_rfl) rfl ?h_27
  case' h_27 => skip
  refine' aU (ev aa rfl) ?p_28 rfl rfl rfl (by kernel_rfl) rfl ?h_28
  case' h_28 => skip
  refine' aU (build aa rfl rfl rfl rfl) ?p_29 rfl rfl rfl (by kernel_rfl) rfl ?h_29
  case' h_29 => skip
  refine' aU (ev aa rfl) ?p_30 rfl rfl rfl (by kernel_rfl) rfl ?h_30
  case' h_30 => skip
  refine' aU (ev aa rfl) ?p_31 rfl rfl rfl (by kernel_rfl) rfl ?h_31
  case' h_31 => skip
  refine' aU (ev aa rfl) ?p_32 rfl rfl rfl (by kernel_rfl) rfl ?h_32
  case' h_32 => skip
  refine' aU (build aa rfl rfl rfl rfl) ?p_33 rfl rfl rfl (by kernel_rfl) rfl ?h_33
  case' h_33 => skip
  refine' aU (aI aa rfl rfl rfl rfl rfl rfl rfl rfl rfl) ?p_34 rfl rfl rfl (by kernel_rfl) rfl ?h_34
  case' h_34 => skip
  refine' kH ?x_35 rfl rfl rfl (by kernel_rfl) (fun h => (ar h (by kernel_rfl)).elim) rfl ?h_35
  case x_35 =>
   intro b hb g; cases b
   · exact (ar hb (by kernel_rfl)).elim
   refine c8 (fn := aM.c) (l := q.key) (l2 := [⟨2, q.fr, B #[]⟩, ⟨2, q.to, B #[]⟩]) aa rfl rfl rfl rfl rfl rfl rfl rfl rfl rfl (fun _ => rfl) (by show (q.key.length + 2) * 32 ≤ _; omega) ?_
   refine WO.nil ?_
   refine' iI rfl ?_ ?_ ?_ ?_
   all_goals try exact rfl
  case' h_35 => skip
  case p_21 => refine ⟨fun ha => (ar ha (by kernel_rfl)).elim, ?_, fun ha => (ar ha (by kernel_rfl)).elim, ?_, fun ha => (ar ha (by kernel_rfl)).elim, ?_⟩ <;> intro ha <;> first | exact ⟨ev aa rfl, fun h => nomatch h⟩ | exact (ar ha (by kernel_rfl)).elim
  case p_22 => refine ⟨fun ha => (ar ha (by kernel_rfl)).elim, ?_, fun ha => (ar ha (by kernel_rfl)).elim, ?_, fun ha => (ar ha (by kernel_rfl)).elim, ?_⟩ <;> intro ha <;> first | exact ⟨ev aa rfl, fun h => nomatch h⟩ | exact ⟨bT aa rfl rfl rfl rfl, fun h => nomatch h⟩ | exact ⟨bU aa rfl rfl rfl rfl rfl, fun h => nomatch h⟩ | exact (ar ha (by kernel_rfl)).elim
  case p_23 => refine ⟨fun ha => (ar ha (by kernel_rfl)).elim, ?_, fun ha => (ar ha (by kernel_rfl)).elim, ?_, fun ha => (ar ha (by kernel_rfl)).elim, ?_⟩ <;> intro ha <;> first | exact ⟨ev aa rfl, fun h => nomatch h⟩ | exact (ar ha (by kernel_rfl)).elim
  case p_24 => refine ⟨fun ha => (ar ha (by kernel_rfl)).elim, ?_, fun ha => (ar ha (by kernel_rfl)).elim, ?_, fun ha => (ar ha (by kernel_rfl)).elim, ?_⟩ <;> intro ha <;> first | exact ⟨ev aa rfl, fun h => nomatch h⟩ | exact ⟨bT aa rfl rfl rfl rfl, fun h => nomatch h⟩ | exact ⟨bU aa rfl rfl rfl rfl rfl, fun h => nomatch h⟩ | exact (ar ha (by kernel_rfl)).elim
  case p_26 => refine ⟨fun ha => (ar ha (by kernel_rfl)).elim, ?_, fun ha => (ar ha (by kernel_rfl)).elim, ?_, fun ha => (ar ha (by kernel_rfl)).elim, ?_⟩ <;> intro ha <;> first | exact ⟨ev aa rfl, fun h => nomatch h⟩ | exact (ar ha (by kernel_rfl)).elim
  case p_27 => refine ⟨fun ha => (ar ha (by kernel_rfl)).elim, ?_, fun ha => (ar ha (by kernel_rfl)).elim, ?_, fun ha => (ar ha (by kernel_rfl)).elim, ?_⟩ <;> intro ha <;> first | exact ⟨ev aa rfl, fun h => nomatch h⟩ | exact (ar ha (by kernel_rfl)).elim
  case p_28 => refine ⟨fun ha => (ar ha (by kernel_rfl)).elim, ?_, fun ha => (ar ha (by kernel_rfl)).elim, ?_, fun ha => (ar ha (by kernel_rfl)).elim, ?_⟩ <;> intro ha <;> first | exact ⟨ev aa rfl, fun h => nomatch h⟩ | exact ⟨bT aa rfl rfl rfl rfl, fun h => nomatch h⟩ | exact ⟨bU aa rfl rfl rfl rfl rfl, fun h => nomatch h⟩ | exact (ar ha (by kernel_rfl)).elim
  case p_29 => refine ⟨fun ha => (ar ha (by kernel_rfl)).elim, ?_, fun ha => (ar ha (by kernel_rfl)).elim, ?_, fun ha => (ar ha (by kernel_rfl)).elim, ?_⟩ <;> intro ha <;> first | exact ⟨build aa rfl rfl rfl rfl, fun h => nomatch h⟩ | exact (ar ha (by kernel_rfl)).elim
  case p_30 => refine ⟨fun ha => (ar ha (by kernel_rfl)).elim, ?_, fun ha => (ar ha (by kernel_rfl)).elim, ?_, fun ha => (ar ha (by kernel_rfl)).elim, ?_⟩ <;> intro ha <;> first | exact ⟨ev aa rfl, fun h => nomatch h⟩ | exact (ar ha (by kernel_rfl)).elim
  case p_31 => refine ⟨fun ha => (ar ha (by kernel_rfl)).elim, ?_, fun ha => (ar ha (by kernel_rfl)).elim, ?_, fun ha => (ar ha (by kernel_rfl)).elim, ?_⟩ <;> intro ha <;> first | exact ⟨ev aa rfl, fun h => nomatch h⟩ | exact (ar ha (by kernel_rfl)).elim
  case p_32 => refine ⟨fun ha => (ar ha (by kernel_rfl)).elim, ?_, fun ha => (ar ha (by kernel_rfl)).elim, ?_, fun ha => (ar ha (by kernel_rfl)).elim, ?_⟩ <;> intro ha <;> first | exact ⟨ev aa rfl, fun h => nomatch h⟩ | exact ⟨bT aa rfl rfl rfl rfl, fun h => nomatch h⟩ | exact ⟨bU aa rfl rfl rfl rfl rfl, fun h => nomatch h⟩ | exact (ar ha (by kernel_rfl)).elim
  case p_33 => refine ⟨fun ha => (ar ha (by kernel_rfl)).elim, ?_, fun ha => (ar ha (by kernel_rfl)).elim, ?_, fun ha => (ar ha (by kernel_rfl)).elim, ?_⟩ <;> intro ha <;> first | exact ⟨build aa rfl rfl rfl rfl, fun h => nomatch h⟩ | exact (ar ha (by kernel_rfl)).elim
  case p_34 => refine ⟨fun ha => (ar ha (by kernel_rfl)).elim, ?_, fun ha => (ar ha (by kernel_rfl)).elim, ?_, fun ha => (ar ha (by kernel_rfl)).elim, ?_⟩ <;> intro ha <;> first | exact ⟨aI aa rfl rfl rfl rfl rfl rfl rfl rfl rfl, fun h => nomatch h⟩ | exact (ar ha (by kernel_rfl)).elim
  refine' aU (aI aa rfl rfl rfl rfl rfl rfl rfl rfl rfl) ?p_36 rfl rfl rfl (by kernel_rfl) rfl ?h_36
  case' h_36 => skip
  case p_36 => refine ⟨fun ha => (ar ha (by kernel_rfl)).elim, ?_, fun ha => (ar ha (by kernel_rfl)).elim, ?_, fun ha => (ar ha (by kernel_rfl)).elim, ?_⟩ <;> intro ha <;> first | exact ⟨aI aa rfl rfl rfl rfl rfl rfl rfl rfl rfl, fun h => nomatch h⟩ | exact (ar ha (by kernel_rfl)).elim
  refine CD.nil ?_ rfl
  refine br (fn := rc) (a := jZ q) aa rfl rfl rfl rfl rfl rfl rfl rfl rfl rfl (fun _ => rfl) (by show (rows.length + 1) * 24 ≤ _; omega) ?_
  refine pE rfl (aP aa rfl rfl rfl rfl rfl rfl rfl rfl (WO.nil (aW (qs (W.region ?_)))))
  iterate 2 refine pE rfl ?_
  refine WO.nil (W.aT [0, 1, 6] ⟨(k + 1, rows ++ [jZ q]), ?_⟩ ?_ rfl ?_ ⟨rfl, rfl, rfl, rfl, trivial⟩ ?_ trivial rfl)
  · exact ⟨hlt, by rw [hW, List.take_add_one, hx]; simp⟩
  · dsimp only; omega
  · repeat' first | exact trivial | refine ⟨rfl, ?_⟩ | refine ⟨aC (by assumption) (by assumption), ?_⟩
  repeat' first | exact trivial | refine ⟨rfl, ?_⟩
 have hg : cB a on = (⟨CT0.1, rows⟩, 0) := by
  rw [hgo, hW, ← hR, List.take_of_length_le (by have := congrArg List.length hd; simp at this; omega)]
 refine W.exit (aK (aN (aL (qs (W.seq (W.region (pE rfl (aP aa rfl rfl rfl rfl rfl rfl rfl rfl (pE rfl (WO.nil (qs ?_)))))))))))
 try refine cd 1 0 rfl rfl rfl ?_
 try refine cd 1 1 rfl rfl rfl ?_
 refine W.ret (QV.ao aa trivial rfl ?_)
 (rw [hg]; rfl)
end Go.Proofs.YtjenenllmjlimaaGreat
namespace Go.Proofs.YtjenenllmjlimaaGreat
open Go.Ab Go.Tb
set_option maxRecDepth 10000
attribute [local irreducible] W WO Pu QS QB QL QF QV bR CH QE
theorem ry (a : bt) (on : List ByteArray) (hon : on.length ≤ 400) (hpos : pieces (k0 a on) (bM a.cols aQ) (bM a.cols bA) a.rows = []) : ax Tryz.prog 13 [.ag a.c, .d (.sl (on.map sc))]
  (.tup [.ag (cB a on).1.c, .d (.v (.int .i64 (cB a on).2))]) 0 := by
 have hcol := jl 9 on [a] (by simp) hon
 rw [oK] at hcol
 obtain ⟨CT0, hCT⟩ : ∃ c, fR 9 on a = c := ⟨_, rfl⟩
 rw [hCT] at hcol
 obtain ⟨m0, hm0⟩ : ∃ i, bM a.cols aQ = i := ⟨_, rfl⟩
 obtain ⟨m1, hm1⟩ : ∃ i, bM a.cols bA = i := ⟨_, rfl⟩
 obtain ⟨left, hleft⟩ : ∃ l, k0 a on = l := ⟨_, rfl⟩
 rw [hm0, hm1, hleft] at hpos
 refine ax.eQ aa (n := 150) (rs := [.cell 4 25, .tmp 5]) Tryz.func13 (by kernel_rfl) rfl Tryz.ntmps13 Tryz.results13 rfl fun C hC hG => ?_
 refine W.seq (W.region (bg rfl rfl rfl (a8 aa rfl rfl rfl (pE rfl (WO.nil (qs (W.seq (W.region (pE rfl (pE rfl (pu (aI aa rfl rfl rfl rfl rfl rfl rfl rfl rfl) rfl ?_)))))))))))
 refine pu (ah rfl rfl rfl hcol rfl) rfl ?_
 iterate 5 refine pE rfl ?_
 refine WO.nil (qs ?_)
 iterate 2 refine W.seq ?_
 refine W.region ?_
 iterate 2 refine pE rfl ?_
 refine WO.nil (qs (ak rfl (fun h30 => ?_) (fun h30 => ?_)))
 ·
  have he : CT0.2 ≠ 0 := by simpa using h30
  have hg : cB a on = (fE, CT0.2) := by unfold cB; rw [hCT, if_pos he]
  refine W.seq (W.region (pu (build aa rfl rfl rfl rfl) rfl ?_))
  refine pE rfl (aP aa rfl rfl rfl rfl rfl rfl rfl rfl (pE rfl (WO.nil (qs ?_))))
  try refine cd 1 0 rfl rfl rfl ?_
  try refine cd 1 1 rfl rfl rfl ?_
  refine W.ret (ae (QV.ao aa trivial rfl ?_))
  (rw [hg]; rfl)
 have he : CT0.2 = 0 := by simpa using h30
 have hok := vS (by rw [hCT]; exact he)
 have hoo := w6 hok
 have haz := dH hok.ga
 have hol := hok.len
 have hra := fK hok.ga
 obtain ⟨srt, hsrt⟩ : ∃ s, eR bz (pieces left m0 m1 a.rows) = s := ⟨_, rfl⟩
 obtain ⟨J, hJJ⟩ : ∃ s, fI [] srt = s := ⟨_, rfl⟩
 have hgo : cB a on = (⟨CT0.1, J.map jZ⟩, 0) := by unfold cB qZ; rw [hCT, if_neg (by simp [he]), hleft, hm0, hm1, hsrt, hJJ]
 have hpl : ax Tryz.prog 21 [.ag a.c, .d (.sl (on.map sc))] (.d (.sl (left.map nc))) 0 := by
  have := eC a on (by omega)
  rw [fS (fun s hs => by obtain ⟨i, c, h1, _⟩ := hok.ons s hs; exact ⟨i, h1⟩)] at this
  rw [← hleft]; exact this
 have hpm : ax Tryz.prog 21 [.ag a.c, .d (.sl ([aQ, bA].map sc))] (.d (.sl ([m0, m1].map nc))) 0 := by
  have := eC a [aQ, bA] (by simp)
  rw [fS (fun s hs => by
   rcases List.mem_cons.1 hs with rfl | hs
   · obtain ⟨i, c, h1, _⟩ := hok.fr; exact ⟨i, h1⟩
   rcases List.mem_cons.1 hs with rfl | hs
   · obtain ⟨i, c, h1, _⟩ := hok.to; exact ⟨i, h1⟩
   cases hs)] at this
  rw [← hm0, ← hm1]; exact this
 have hll : left.length ≤ 16 := by rw [← hleft]; show (on.map _).length ≤ _; rw [List.length_map]; exact hol
 rw [show on.map (bM a.cols) = left from hleft, hm0, hm1] at hoo
 refine W.skip (qs (W.seq (W.be aa (by kernel_rfl) ?_)))
 refine an (ev aa rfl) rfl ?_
 refine an (ev aa rfl) rfl ?_
 refine an (ah rfl rfl rfl hpl rfl) rfl ?_
 refine an (ev aa rfl) rfl ?_
 refine an (aI aa rfl rfl rfl rfl rfl rfl rfl rfl rfl) rfl ?_
 refine an (ah rfl rfl rfl hpm rfl) rfl ?_
 iterate 2 refine an (ev aa rfl) rfl ?_
 refine CH.nil ?_
 refine qs (W.seq (W.region ?_))
 iterate 2 refine pE rfl ?_
 refine WO.nil (qs ?_)
 iterate 2 refine W.seq ?_
 refine W.region (pE rfl (pE rfl ?_))
 iterate 2 refine pE rfl ?_
 refine WO.nil (qs (W.block (W.nh (d := 10) rfl rfl ?_)))
 refine W.len (t := 40) rfl rfl (fun hlen => ?_)
 try simp only [List.length_map, Ex.aF] at hlen
 refine W.aS (ι := {x : Nat × List Pc // match x with | (i, L) => i ≤ a.rows.length ∧ L.length ≤ i ∧ L ++ pieces left m0 m1 (a.rows.drop i) = pieces left m0 m1 a.rows})
  (fun x => match x.1 with | (i, L) => [(4, .ptr 0 0), (10, .xs 1 (L.map Pc.c)), (42, .d (.v (.int .i64 ((i : Nat) : Int))))]) [(6, _), (8, _), (9, _), (11, _), (40, _), (41, _)]
  (fun x => match x.1 with | (i, L) => [(0, [.d (.v (.slice none 0 0)), .d (.v (.slice none 0 0))])]) [] [1] 2 (fun x => match x.1 with | (i, L) => a.rows.length - i)
  [1, 2] ⟨(0, []), ?_⟩ rfl ?_ ⟨rfl, rfl, rfl, rfl, rfl, rfl, rfl, rfl, rfl, rfl, rfl, rfl, trivial⟩ ?_ trivial rfl ?_
 · exact ⟨Nat.zero_le _, Nat.zero_le _, rfl⟩
 · repeat' first | exact trivial | refine ⟨rfl, ?_⟩
 · repeat' first | exact trivial | refine ⟨rfl, ?_⟩
 rintro ⟨⟨i, L⟩, hk, hn, hI⟩
 show W _ _ _ _ _ ⟨[(4, .ptr 0 0), (10, .xs 1 (L.map Pc.c)), (42, .d (.v (.int .i64 ((i : Nat) : Int)))), (6, _), (8, _), (9, _), (11, _), (40, _), (41, _)], [(0, [.d (.v (.slice none 0 0)), .d (.v (.slice none 0 0))])], [1], 2⟩
 refine W.seq (W.region (pE rfl (WO.nil (qs (W.seq (a9 (l := a.rows) (k := i) rfl (by simp [Ex.aF, aH]) hk (fun z hx hd hlt => ?_) (fun he hd => ?_)))))))
 ·
  rw [hd] at hI
  simp only [pieces] at hI
  have hxm := List.mem_of_getElem? hx
  have hxl := (hra z hxm).1
  have hsx := ng z m0 m1 (by rw [hxl]; exact hoo.m0) (by rw [hxl]; exact hoo.m1)
  have hpx := ig z left (by omega) (fun q hq => by rw [hxl]; exact hoo.left q hq)
  refine W.skip (qs (W.seq (W.block (W.seq (W.region (pu (indexAddr aa rfl rfl rfl rfl rfl rfl (Int.natCast_nonneg _) (aB hx) rfl) rfl ?_))))))
  refine pE rfl (pE rfl (WO.nil (qs (W.seq (W.region ?_)))))
  iterate 2 refine pE rfl ?_
  refine pu (ah rfl rfl rfl hsx rfl) rfl ?_
  iterate 3 refine pE rfl ?_
  refine a8 aa rfl rfl rfl (aP aa rfl rfl rfl rfl rfl rfl rfl rfl (pE rfl (WO.nil (qs (W.seq ?_)))))
  apply aD; (case hb => rfl)
  ·
   iterate 2 refine pE rfl ?_
   apply eT; (case hj => rfl); (case hl => rfl)
   ·
    intro g53
    refine ab rfl rfl (pE rfl (ab rfl rfl (pE rfl (ab rfl rfl ?_))))
    iterate 2 refine pE rfl ?_
    refine WO.nil (ay rfl rfl rfl)
   intro g53
   iterate 3 refine aq rfl rfl rfl rfl ?_
   refine pE rfl (WO.nil (ay rfl rfl rfl))
  refine qs (ak rfl (fun h57 => ?_) (fun h57 => ?_))
  ·
   have hin : lj z m0 m1 = true := by
    revert h57
    unfold lj
    cases bY z m0 m1 <;> simp
   rw [if_pos hin] at hI
   refine W.fq aa [] [] [] [] 7 (by kernel_rfl) (by kernel_rfl) rfl rfl ?_
   refine' aU (ev aa rfl) ?p_1 rfl rfl rfl (by kernel_rfl) rfl ?h_1
   case' h_1 => skip
   case p_1 => refine ⟨fun ha => (ar ha (by kernel_rfl)).elim, ?_⟩ <;> intro ha <;> first | exact ⟨ev aa rfl, fun h => nomatch h⟩ | exact (ar ha (by kernel_rfl)).elim
   refine' aU (ev aa rfl) ?p_2 rfl rfl rfl (by kernel_rfl) rfl ?h_2
   case' h_2 => skip
   case p_2 => refine ⟨fun ha => (ar ha (by kernel_rfl)).elim, ?_⟩ <;> intro ha <;> first | exact ⟨ev aa rfl, fun h => nomatch h⟩ | exact (ar ha (by kernel_rfl)).elim
   refine' aU (ev aa rfl) ?p_3 rfl rfl rfl (by kernel_rfl) rfl ?h_3
   case' h_3 => skip
   case p_3 => refine ⟨fun ha => (ar ha (by kernel_rfl)).elim, ?_⟩ <;> intro ha <;> first | exact ⟨ev aa rfl, fun h => nomatch h⟩ | exact (ar ha (by kernel_rfl)).elim
   refine' aU (ah rfl rfl rfl hpx rfl) ?p_4 rfl rfl rfl (by kernel_rfl) rfl ?h_4
   case' h_4 => skip
   case p_4 => refine ⟨fun ha => (ar ha (by kernel_rfl)).elim, ?_⟩ <;> intro ha <;> first | exact ⟨ah rfl rfl rfl hpx rfl, fun h => nomatch h⟩ | exact (ar ha (by kernel_rfl)).elim
   refine' aU (ev aa rfl) ?p_5 rfl rfl rfl (by kernel_rfl) rfl ?h_5
   case' h_5 => skip
   case p_5 => refine ⟨fun ha => (ar ha (by kernel_rfl)).elim, ?_⟩ <;> intro ha <;> first | exact ⟨ev aa rfl, fun h => nomatch h⟩ | exact ⟨bT aa rfl rfl rfl rfl, fun h => nomatch h⟩ | exact ⟨bU aa rfl rfl rfl rfl rfl, fun h => nomatch h⟩ | exact (ar ha (by kernel_rfl)).elim
   refine' aU (build aa rfl rfl rfl rfl) ?p_6 rfl rfl rfl (by kernel_rfl) rfl ?h_6
   case' h_6 => skip
   case p_6 => refine ⟨fun ha => (ar ha (by kernel_rfl)).elim, ?_⟩ <;> intro ha <;> first | exact ⟨build aa rfl rfl rfl rfl, fun h => nomatch h⟩ | exact (ar ha (by kernel_rfl)).elim
   refine' aU (aI aa rfl rfl rfl rfl rfl rfl rfl rfl rfl) ?p_7 rfl rfl rfl (by kernel_rfl) rfl ?h_7
   case' h_7 => skip
   case p_7 => refine ⟨fun ha => (ar ha (by kernel_rfl)).elim, ?_⟩ <;> intro ha <;> first | exact ⟨aI aa rfl rfl rfl rfl rfl rfl rfl rfl rfl, fun h => nomatch h⟩ | exact (ar ha (by kernel_rfl)).elim
   refine CD.nil ?_ rfl
   refine gW (es2 := [(nO left m0 m1 z).c]) (r := (L ++ [nO left m0 m1 z]).map Pc.c) aa rfl rfl rfl rfl rfl rfl rfl rfl rfl rfl (iu _ _) (by rw [iu]; exact cg _) (by show ((L.map Pc.c).length + 1) * 40 ≤ _; rw [List.length_map]; omega) rfl ?_
   refine pE rfl (WO.nil (aW (qs (W.region ?_))))
   iterate 2 refine pE rfl ?_
   refine WO.nil ?_
   have hbr := hin
   (have _hb : lj z m0 m1 = true := hbr; refine W.aT [0, 3] ⟨(i + 1, L ++ [nO left m0 m1 z]), ?_⟩ ?_ rfl ?_ ⟨rfl, rfl, rfl, rfl, rfl, rfl, rfl, rfl, rfl, rfl, rfl, rfl, trivial⟩ ?_ trivial rfl)
   · exact ⟨hlt, (by first | (rw [List.length_append]; simp; omega) | omega), (by first | exact hI | (rw [List.append_assoc]; exact hI))⟩
   · dsimp only; omega
   · repeat' first | exact trivial | refine ⟨rfl, ?_⟩ | refine ⟨aC (by assumption) (by assumption), ?_⟩
   repeat' first | exact trivial | refine ⟨rfl, ?_⟩
  have hin : lj z m0 m1 = false := by
   revert h57
   unfold lj
   cases bY z m0 m1 <;> simp
  rw [if_neg (by simp [hin])] at hI
  refine W.skip (aW (qs (W.region ?_)))
  iterate 2 refine pE rfl ?_
  refine WO.nil ?_
  have hbr := hin
  (have _hb : lj z m0 m1 = false := hbr; refine W.aT [0, 1] ⟨(i + 1, L), ?_⟩ ?_ rfl ?_ ⟨rfl, rfl, rfl, rfl, rfl, rfl, rfl, rfl, rfl, rfl, rfl, rfl, trivial⟩ ?_ trivial rfl)
  · exact ⟨hlt, (by first | (rw [List.length_append]; simp; omega) | omega), (by first | exact hI | (rw [List.append_assoc]; exact hI))⟩
  · dsimp only; omega
  · repeat' first | exact trivial | refine ⟨rfl, ?_⟩ | refine ⟨aC (by assumption) (by assumption), ?_⟩
  repeat' first | exact trivial | refine ⟨rfl, ?_⟩
 rw [hd] at hI
 simp only [pieces, List.append_nil] at hI
 rw [← hI] at hpos hsrt
 have hL2 : L.length ≤ 20000 := by omega
 have hst : eR bz L = srt := hsrt
 have hsl0 : srt.length = L.length := by rw [← hst]; exact (gT bz L).len
 have hkey : ∀ p ∈ J, p.key.length ≤ 16 := by
  have h1 : ∀ p ∈ srt, p.key.length = left.length := fun p hp => by
   have h2 : p ∈ L := by rw [← hst] at hp; exact (gT bz L).perm.mem_iff.1 hp
   rw [hI] at h2
   exact jI left m0 m1 a.rows p h2
  intro p hp
  rw [← hJJ] at hp
  have := kF srt [] h1 (fun p hp => nomatch hp) p hp
  omega
 have hJn : J.length ≤ 20000 := by rw [← hJJ]; have := kI srt []; simp at this; omega
 refine W.exit (aK (aN (aL (qs (W.seq ?_)))))
 have hL0 : L = [] := hpos
 subst hL0
 have hs0 : srt = [] := List.length_eq_zero_iff.1 hsl0
 subst hs0
 refine mV 10 rfl rfl rfl rfl ?_
 refine qu 10 rfl rfl ?_
 refine W.region (pE rfl (pu (ah rfl rfl rfl pt rfl) rfl ?_))
 refine WO.nil (qs ?_)
 iterate 2 refine W.seq ?_
 refine W.region ?_
 iterate 3 refine pE rfl ?_
 refine WO.nil (qs (W.block (W.nh (d := 11) rfl rfl ?_)))
 have hsm : ([] : List Pc).length ≤ maxLen := by simp only [maxLen]; omega
 refine W.aS (ι := {x : Nat × List Pc // match x with | (j, out) => j ≤ ([] : List Pc).length ∧ out.length ≤ j ∧ fI out (([] : List Pc).drop j) = J})
  (fun x => match x.1 with | (j, out) => [(4, .ptr 0 0), (11, .xs 1 (out.map Pc.c)), (71, .d (.v (.int .i64 ((j : Nat) : Int))))]) [(6, _), (69, _), (70, _)]
  (fun x => match x.1 with | (j, out) => [(0, [.d (.v (.slice none 0 0)), .d (.v (.slice none 0 0))])]) [] [1] 2 (fun x => match x.1 with | (j, out) => ([] : List Pc).length - j)
  [0, 3] ⟨(0, []), ?_⟩ rfl ?_ ⟨rfl, rfl, rfl, rfl, rfl, rfl, trivial⟩ ?_ trivial rfl ?_
 · exact ⟨Nat.zero_le _, Nat.zero_le _, hJJ⟩
 · repeat' first | exact trivial | refine ⟨rfl, ?_⟩
 · repeat' first | exact trivial | refine ⟨rfl, ?_⟩
 rintro ⟨⟨j, out⟩, hk, hn2, hR⟩
 show W _ _ _ _ _ ⟨[(4, .ptr 0 0), (11, .xs 1 (out.map Pc.c)), (71, .d (.v (.int .i64 ((j : Nat) : Int)))), (6, _), (69, _), (70, _)], [(0, [.d (.v (.slice none 0 0)), .d (.v (.slice none 0 0))])], [1], 2⟩
 refine W.seq (W.region (pE rfl (WO.nil (qs (W.seq (a9 (l := ([] : List Pc)) (k := j) rfl (by simp [Ex.aF, aH]) hk (fun p hx hd hlt => ?_) (fun he hd => ?_)))))))
 ·
  rw [hd] at hR
  simp only [fI] at hR
  have hsub : IntKind.i64.wrap (((out.map Pc.c).length : Int) - 1) = ((out.length : Int) - 1) := by rw [List.length_map, wrap64 (by omega)]
  have hla : ∀ h : decide (0 ≤ (out.length : Int) - 1) = true, 0 < out.length ∧ 0 ≤ (out.length : Int) - 1 ∧ (out.map Pc.c)[((out.length : Int) - 1).toNat]? = some (cR out).c := by
   intro h
   have h0 : 0 < out.length := by simp at h; omega
   refine ⟨h0, by omega, ?_⟩
   rw [show ((out.length : Int) - 1).toNat = out.length - 1 by omega]
   exact du (by omega)
  refine W.skip (qs (W.seq (W.block (W.seq (W.region (pu (indexAddr aa rfl rfl rfl rfl rfl rfl (Int.natCast_nonneg _) (aB hx) rfl) rfl ?_))))))
  refine pE rfl (a8 aa rfl rfl rfl (aP aa rfl rfl rfl rfl rfl rfl rfl rfl (WO.nil (qs (W.seq (W.region (pE rfl (pu (sZ aa rfl rfl rfl rfl) rfl ?_))))))))
  refine pu (bH (ev aa rfl) hsub) rfl ?_
  refine pE rfl (WO.nil (qs (W.seq ?_)))
  apply ia aa; (case hb => rfl); (case hB => kernel_rfl)
  ·
   iterate 3 refine an (ev aa rfl) rfl ?_
   apply hH; (case hj => rfl); (case hl => rfl)
   ·
    intro g80
    refine aE rfl rfl (ev aa rfl) rfl ?_
    refine aE rfl rfl (ev aa rfl) rfl ?_
    refine aE rfl rfl (eX (l := (cR out).c) aa rfl rfl rfl rfl rfl rfl (hla g80).2.1 (hla g80).2.2 rfl) rfl ?_
    refine aE rfl rfl (dm aa rfl rfl rfl rfl rfl rfl) rfl ?_
    refine aE rfl rfl (jn aa rfl rfl rfl) rfl ?_
    refine aE rfl rfl (ev aa rfl) rfl ?_
    refine aE rfl rfl (ev aa rfl) rfl ?_
    refine aE rfl rfl (ah rfl rfl rfl (mn (cR out).key p.key) rfl) rfl ?_
    iterate 2 refine an (ev aa rfl) rfl ?_
    apply hH; (case hj => rfl); (case hl => rfl)
    ·
     intro g90
     refine aE rfl rfl (ev aa rfl) rfl ?_
     refine aE rfl rfl (ev aa rfl) rfl ?_
     refine aE rfl rfl (ev aa rfl) rfl ?_
     refine aE rfl rfl (ev aa rfl) rfl ?_
     refine aE rfl rfl (ev aa rfl) rfl ?_
     refine aE rfl rfl (eX (l := (cR out).c) aa rfl rfl rfl rfl rfl rfl (hla g80).2.1 (hla g80).2.2 rfl) rfl ?_
     refine aE rfl rfl (dm aa rfl rfl rfl rfl rfl rfl) rfl ?_
     refine aE rfl rfl (dm aa rfl rfl rfl rfl rfl rfl) rfl ?_
     refine aE rfl rfl (jn aa rfl rfl rfl) rfl ?_
     refine aE rfl rfl (ev aa rfl) rfl ?_
     refine an (ev aa rfl) rfl ?_
     refine CH.nil ?_
     refine ay rfl rfl rfl
    intro g90
    iterate 10 refine bG rfl rfl rfl rfl ?_
    refine an (ev aa rfl) rfl ?_
    refine CH.nil ?_
    refine ay rfl rfl rfl
   intro g80
   iterate 8 refine bG rfl rfl rfl rfl ?_
   iterate 2 refine an (ev aa rfl) rfl ?_
   iterate 10 refine bG rfl rfl rfl rfl ?_
   refine an (ev aa rfl) rfl ?_
   refine CH.nil ?_
   refine ay rfl rfl rfl
  refine qs (ak rfl (fun h101 => ?_) (fun h101 => ?_))
  ·
   have htp : er out p = true := by
    revert h101
    unfold er
    by_cases q : 0 < out.length
    ·
     have q1 : 0 ≤ (out.length : Int) - 1 := by omega
     have q2 : 1 ≤ (out.length : Int) := by omega
     simp [q, q1, q2]
    have q1 : ¬ (0 ≤ (out.length : Int) - 1) := by omega
    have q2 : ¬ (1 ≤ (out.length : Int)) := by omega
    simp [q, q1, q2]
   rw [if_pos htp] at hR
   have h0 : 0 < out.length := by unfold er at htp; simp at htp; exact htp.1
   have hk0 : 0 ≤ (out.length : Int) - 1 := by omega
   have hat : (out.map Pc.c)[((out.length : Int) - 1).toNat]? = some (cR out).c := by
    rw [show ((out.length : Int) - 1).toNat = out.length - 1 by omega]
    exact du (by omega)
   have hset : (out.map Pc.c).set ((out.length : Int) - 1).toNat (kA (cR out) p).c = (out.set (out.length - 1) (kA (cR out) p)).map Pc.c := by
    rw [show ((out.length : Int) - 1).toNat = out.length - 1 by omega]
    exact gH
   refine W.fq aa [] [] [] [] 12 (by kernel_rfl) (by kernel_rfl) rfl rfl ?_
   refine' aU (ev aa rfl) ?p_8 rfl rfl rfl (by kernel_rfl) rfl ?h_8
   case' h_8 => skip
   case p_8 => refine ⟨fun ha => (ar ha (by kernel_rfl)).elim, ?_⟩ <;> intro ha <;> first | exact ⟨ev aa rfl, fun h => nomatch h⟩ | exact (ar ha (by kernel_rfl)).elim
   refine' aU (ev aa rfl) ?p_9 rfl rfl rfl (by kernel_rfl) rfl ?h_9
   case' h_9 => skip
   case p_9 => refine ⟨fun ha => (ar ha (by kernel_rfl)).elim, ?_⟩ <;> intro ha <;> first | exact ⟨ev aa rfl, fun h => nomatch h⟩ | exact (ar ha (by kernel_rfl)).elim
   refine' aU (ev aa rfl) ?p_10 rfl rfl rfl (by kernel_rfl) rfl ?h_10
   case' h_10 => skip
   case p_10 => refine ⟨fun ha => (ar ha (by kernel_rfl)).elim, ?_⟩ <;> intro ha <;> first | exact ⟨ev aa rfl, fun h => nomatch h⟩ | exact (ar ha (by kernel_rfl)).elim
   refine' aU (ev aa rfl) ?p_11 rfl rfl rfl (by kernel_rfl) rfl ?h_11
   case' h_11 => skip
   case p_11 => refine ⟨fun ha => (ar ha (by kernel_rfl)).elim, ?_⟩ <;> intro ha <;> first | exact ⟨ev aa rfl, fun h => nomatch h⟩ | exact (ar ha (by kernel_rfl)).elim
   refine' aU (eX (l := (cR out).c) aa rfl rfl rfl rfl rfl rfl hk0 hat rfl) ?p_12 rfl rfl rfl (by kernel_rfl) rfl ?h_12
   case' h_12 => skip
   case p_12 => refine ⟨fun ha => (ar ha (by kernel_rfl)).elim, ?_⟩ <;> intro ha <;> first | exact ⟨eX (l := (cR out).c) aa rfl rfl rfl rfl rfl rfl hk0 hat rfl, fun h => nomatch h⟩ | exact (ar ha (by kernel_rfl)).elim
   refine' aU (dm aa rfl rfl rfl rfl rfl rfl) ?p_13 rfl rfl rfl (by kernel_rfl) rfl ?h_13
   case' h_13 => skip
   case p_13 => refine ⟨fun ha => (ar ha (by kernel_rfl)).elim, ?_⟩ <;> intro ha <;> first | exact ⟨dm aa rfl rfl rfl rfl rfl rfl, fun h => nomatch h⟩ | exact (ar ha (by kernel_rfl)).elim
   refine' aU (dm aa rfl rfl rfl rfl rfl rfl) ?p_14 rfl rfl rfl (by kernel_rfl) rfl ?h_14
   case' h_14 => skip
   case p_14 => refine ⟨fun ha => (ar ha (by kernel_rfl)).elim, ?_⟩ <;> intro ha <;> first | exact ⟨dm aa rfl rfl rfl rfl rfl rfl, fun h => nomatch h⟩ | exact (ar ha (by kernel_rfl)).elim
   refine' aU (jn aa rfl rfl rfl) ?p_15 rfl rfl rfl (by kernel_rfl) rfl ?h_15
   case' h_15 => skip
   case p_15 => refine ⟨fun ha => (ar ha (by kernel_rfl)).elim, ?_⟩ <;> intro ha <;> first | exact ⟨jn aa rfl rfl rfl, fun h => nomatch h⟩ | exact (ar ha (by kernel_rfl)).elim
   refine' aU (ev aa rfl) ?p_16 rfl rfl rfl (by kernel_rfl) rfl ?h_16
   case' h_16 => skip
   case p_16 => refine ⟨fun ha => (ar ha (by kernel_rfl)).elim, ?_⟩ <;> intro ha <;> first | exact ⟨ev aa rfl, fun h => nomatch h⟩ | exact (ar ha (by kernel_rfl)).elim
   refine' aU (ev aa rfl) ?p_17 rfl rfl rfl (by kernel_rfl) rfl ?h_17
   case' h_17 => skip
   case p_17 => refine ⟨fun ha => (ar ha (by kernel_rfl)).elim, ?_⟩ <;> intro ha <;> first | exact ⟨ev aa rfl, fun h => nomatch h⟩ | exact (ar ha (by kernel_rfl)).elim
   refine' aU (ev aa rfl) ?p_18 rfl rfl rfl (by kernel_rfl) rfl ?h_18
   case' h_18 => skip
   case p_18 => refine ⟨fun ha => (ar ha (by kernel_rfl)).elim, ?_⟩ <;> intro ha <;> first | exact ⟨ev aa rfl, fun h => nomatch h⟩ | exact ⟨bT aa rfl rfl rfl rfl, fun h => nomatch h⟩ | exact ⟨bU aa rfl rfl rfl rfl rfl, fun h => nomatch h⟩ | exact (ar ha (by kernel_rfl)).elim
   refine' aU (ev aa rfl) ?p_19 rfl rfl rfl (by kernel_rfl) rfl ?h_19
   case' h_19 => skip
   case p_19 => refine ⟨fun ha => (ar ha (by kernel_rfl)).elim, ?_⟩ <;> intro ha <;> first | exact ⟨ev aa rfl, fun h => nomatch h⟩ | exact (ar ha (by kernel_rfl)).elim
   refine CD.nil ?_ rfl
   refine pu (eX (l := (cR out).c) aa rfl rfl rfl rfl rfl rfl hk0 hat rfl) rfl ?_
   refine pu (dm aa rfl rfl rfl rfl rfl rfl) rfl ?_
   refine pu (dm aa rfl rfl rfl rfl rfl rfl) rfl ?_
   refine kZ aa 11 rfl rfl rfl rfl hat rfl rfl rfl rfl rfl rfl hset rfl ?_
   refine WO.nil (aW (qs (W.region ?_)))
   iterate 2 refine pE rfl ?_
   refine WO.nil ?_
   have hbr := htp
   (have _hb : er out p = true := hbr; refine W.aT [0, 3] ⟨(j + 1, out.set (out.length - 1) (kA (cR out) p)), ?_⟩ ?_ rfl ?_ ⟨rfl, rfl, rfl, rfl, rfl, rfl, trivial⟩ ?_ trivial rfl)
   · exact ⟨hlt, (by first | (rw [List.length_append]; simp; omega) | (rw [List.length_set]; omega)), hR⟩
   · dsimp only; omega
   · repeat' first | exact trivial | refine ⟨rfl, ?_⟩ | refine ⟨aC (by assumption) (by assumption), ?_⟩
   repeat' first | exact trivial | refine ⟨rfl, ?_⟩
  have htp : er out p = false := by
   revert h101
   unfold er
   by_cases q : 0 < out.length
   ·
    have q1 : 0 ≤ (out.length : Int) - 1 := by omega
    have q2 : 1 ≤ (out.length : Int) := by omega
    simp [q, q1, q2]
   have q1 : ¬ (0 ≤ (out.length : Int) - 1) := by omega
   have q2 : ¬ (1 ≤ (out.length : Int)) := by omega
   simp [q, q1, q2]
  rw [if_neg (by simp [htp])] at hR
  refine W.region (pE rfl (pE rfl (pu (aI aa rfl rfl rfl rfl rfl rfl rfl rfl rfl) rfl ?_)))
  refine gW (es2 := [p.c]) (r := (out ++ [p]).map Pc.c) aa rfl rfl rfl rfl rfl rfl rfl rfl rfl rfl (iu _ _) (by rw [iu]; exact cg _) (by show ((out.map Pc.c).length + 1) * 40 ≤ _; rw [List.length_map]; omega) rfl ?_
  refine pE rfl (WO.nil (aW (qs (W.region ?_))))
  iterate 2 refine pE rfl ?_
  refine WO.nil ?_
  have hbr := htp
  (have _hb : er out p = false := hbr; refine W.aT [0, 3] ⟨(j + 1, out ++ [p]), ?_⟩ ?_ rfl ?_ ⟨rfl, rfl, rfl, rfl, rfl, rfl, trivial⟩ ?_ trivial rfl)
  · exact ⟨hlt, (by first | (rw [List.length_append]; simp; omega) | (rw [List.length_set]; omega)), hR⟩
  · dsimp only; omega
  · repeat' first | exact trivial | refine ⟨rfl, ?_⟩ | refine ⟨aC (by assumption) (by assumption), ?_⟩
  repeat' first | exact trivial | refine ⟨rfl, ?_⟩
 rw [hd] at hR
 simp only [fI] at hR
 refine W.exit (aK (aN (aL (qs (W.seq (mV 11 rfl rfl rfl rfl ?_))))))
 refine qu 11 rfl rfl ?_
 refine W.region (pE rfl (pu (build aa rfl rfl rfl rfl) rfl ?_))
 refine a8 aa rfl rfl rfl (aP aa rfl rfl rfl rfl rfl rfl rfl rfl (WO.nil (qs ?_)))
 iterate 2 refine W.seq ?_
 refine W.region ?_
 iterate 3 refine pE rfl ?_
 refine WO.nil (qs (W.block (eU 3 1 rfl rfl rfl ?_)))
 refine W.len (t := 124) rfl rfl (fun hlen => ?_)
 try simp only [List.length_map, Ex.aF] at hlen
 refine W.aS (ι := {x : Nat × List (List aM) // match x with | (k, rows) => k ≤ out.length ∧ rows = (out.take k).map jZ})
  (fun x => match x.1 with | (k, rows) => [(4, .ptr 0 0), (19, .ptr 1 0), (126, .d (.v (.int .i64 ((k : Nat) : Int))))]) [(124, _), (125, _)]
  (fun x => match x.1 with | (k, rows) => [(0, [.d (.v (.slice none 0 0)), .d (.v (.slice none 0 0))]), (1, [.d (.sl (CT0.1.map Col.c)), .own 2 (rows.map rc)])]) [] [2] 3 (fun x => match x.1 with | (k, rows) => out.length - k)
  [0, 3, 4] ⟨(0, []), ?_⟩ rfl ?_ ⟨rfl, rfl, rfl, rfl, trivial⟩ ?_ trivial rfl ?_
 · exact ⟨Nat.zero_le _, rfl⟩
 · repeat' first | exact trivial | refine ⟨rfl, ?_⟩
 · repeat' first | exact trivial | refine ⟨rfl, ?_⟩
 rintro ⟨⟨k, rows⟩, hk, hW⟩
 show W _ _ _ _ _ ⟨[(4, .ptr 0 0), (19, .ptr 1 0), (126, .d (.v (.int .i64 ((k : Nat) : Int)))), (124, _), (125, _)], [(0, [.d (.v (.slice none 0 0)), .d (.v (.slice none 0 0))]), (1, [.d (.sl (CT0.1.map Col.c)), .own 2 (rows.map rc)])], [2], 3⟩
 refine W.seq (W.region (pE rfl (WO.nil (qs (W.seq (a9 (l := out) (k := k) rfl (by simp [Ex.aF, aH]) hk (fun q hx hd hlt => ?_) (fun he hd => ?_)))))))
 ·
  have hq16 : q.key.length ≤ 16 := hkey q (by rw [← hR]; exact List.mem_of_getElem? hx)
  have hrl : rows.length ≤ 20000 := by rw [hW, List.length_map, List.length_take]; rw [← hR] at hJn; omega
  have hrow : q.key ++ [⟨2, q.fr, B #[]⟩, ⟨2, q.to, B #[]⟩] = jZ q := rfl
  refine W.skip (qs (W.seq (W.block (W.seq (W.region (pu (indexAddr aa rfl rfl rfl rfl rfl rfl (Int.natCast_nonneg _) (aB hx) rfl) rfl ?_))))))
  refine pE rfl (a8 aa rfl rfl rfl (aP aa rfl rfl rfl rfl rfl rfl rfl rfl (WO.nil (qs ?_))))
  refine' W.fq aa [_, _] [[4, 2], [5, 2], [6, 5]] [5, 6, 7] [4, 14] 16 (by kernel_rfl) (by kernel_rfl) rfl rfl ?hL_20
  case' hL_20 => skip
  refine' aU (ev aa rfl) ?p_21 rfl rfl rfl (by kernel_rfl) rfl ?h_21
  case' h_21 => skip
  refine' aU (ev aa rfl) ?p_22 rfl rfl rfl (by kernel_rfl) rfl ?h_22
  case' h_22 => skip
  refine' aU (ev aa rfl) ?p_23 rfl rfl rfl (by kernel_rfl) rfl ?h_23
  case' h_23 => skip
  refine' aU (ev aa rfl) ?p_24 rfl rfl rfl (by kernel_rfl) rfl ?h_24
  case' h_24 => skip
  refine' kH ?x_25 rfl rfl rfl (by kernel_rfl) (fun h => (ar h (by kernel_rfl)).elim) rfl ?h_25
  case x_25 =>
   intro b hb g; cases b
   · exact (ar hb (by kernel_rfl)).elim
   refine e6 rfl rfl rfl (kC q.key (by omega)) (by rfl) rfl rfl ?_
   refine WO.nil ?_
   refine' iI rfl ?_ ?_ ?_ ?_
   all_goals try exact rfl
  case' h_25 => skip
  refine' aU (ev aa rfl) ?p_26 rfl rfl rfl (by kernel_rfl) rfl ?h_26
  case' h_26 => skip
  refine' aU (ev aa rfl) ?p_27 rfl rfl rfl (by kernel_rfl) rfl ?h_27
  case' h_27 => skip
  refine' aU (ev aa rfl) ?p_28 rfl rfl rfl (by kernel_rfl) rfl ?h_28
  case' h_28 => skip
  refine' aU (build aa rfl rfl rfl rfl) ?p_29 rfl rfl rfl (by kernel_rfl) rfl ?h_29
  case' h_29 => skip
  refine' aU (ev aa rfl) ?p_30 rfl rfl rfl (by kernel_rfl) rfl ?h_30
  case' h_30 => skip
  refine' aU (ev aa rfl) ?p_31 rfl rfl rfl (by kernel_rfl) rfl ?h_31
  case' h_31 => skip
  refine' aU (ev aa rfl) ?p_32 rfl rfl rfl (by kernel_rfl) rfl ?h_32
  case' h_32 => skip
  refine' aU (build aa rfl rfl rfl rfl) ?p_33 rfl rfl rfl (by kernel_rfl) rfl ?h_33
  case' h_33 => skip
  refine' aU (aI aa rfl rfl rfl rfl rfl rfl rfl rfl rfl) ?p_34 rfl rfl rfl (by kernel_rfl) rfl ?h_34
  case' h_34 => skip
  refine' kH ?x_35 rfl rfl rfl (by kernel_rfl) (fun h => (ar h (by kernel_rfl)).elim) rfl ?h_35
  case x_35 =>
   intro b hb g; cases b
   · exact (ar hb (by kernel_rfl)).elim
   refine c8 (fn := aM.c) (l := q.key) (l2 := [⟨2, q.fr, B #[]⟩, ⟨2, q.to, B #[]⟩]) aa rfl rfl rfl rfl rfl rfl rfl rfl rfl rfl (fun _ => rfl) (by show (q.key.length + 2) * 32 ≤ _; omega) ?_
   refine WO.nil ?_
   refine' iI rfl ?_ ?_ ?_ ?_
   all_goals try exact rfl
  case' h_35 => skip
  case p_21 => refine ⟨fun ha => (ar ha (by kernel_rfl)).elim, ?_, fun ha => (ar ha (by kernel_rfl)).elim, ?_, fun ha => (ar ha (by kernel_rfl)).elim, ?_⟩ <;> intro ha <;> first | exact ⟨ev aa rfl, fun h => nomatch h⟩ | exact (ar ha (by kernel_rfl)).elim
  case p_22 => refine ⟨fun ha => (ar ha (by kernel_rfl)).elim, ?_, fun ha => (ar ha (by kernel_rfl)).elim, ?_, fun ha => (ar ha (by kernel_rfl)).elim, ?_⟩ <;> intro ha <;> first | exact ⟨ev aa rfl, fun h => nomatch h⟩ | exact ⟨bT aa rfl rfl rfl rfl, fun h => nomatch h⟩ | exact ⟨bU aa rfl rfl rfl rfl rfl, fun h => nomatch h⟩ | exact (ar ha (by kernel_rfl)).elim
  case p_23 => refine ⟨fun ha => (ar ha (by kernel_rfl)).elim, ?_, fun ha => (ar ha (by kernel_rfl)).elim, ?_, fun ha => (ar ha (by kernel_rfl)).elim, ?_⟩ <;> intro ha <;> first | exact ⟨ev aa rfl, fun h => nomatch h⟩ | exact (ar ha (by kernel_rfl)).elim
  case p_24 => refine ⟨fun ha => (ar ha (by kernel_rfl)).elim, ?_, fun ha => (ar ha (by kernel_rfl)).elim, ?_, fun ha => (ar ha (by kernel_rfl)).elim, ?_⟩ <;> intro ha <;> first | exact ⟨ev aa rfl, fun h => nomatch h⟩ | exact ⟨bT aa rfl rfl rfl rfl, fun h => nomatch h⟩ | exact ⟨bU aa rfl rfl rfl rfl rfl, fun h => nomatch h⟩ | exact (ar ha (by kernel_rfl)).elim
  case p_26 => refine ⟨fun ha => (ar ha (by kernel_rfl)).elim, ?_, fun ha => (ar ha (by kernel_rfl)).elim, ?_, fun ha => (ar ha (by kernel_rfl)).elim, ?_⟩ <;> intro ha <;> first | exact ⟨ev aa rfl, fun h => nomatch h⟩ | exact (ar ha (by kernel_rfl)).elim
  case p_27 => refine ⟨fun ha => (ar ha (by kernel_rfl)).elim, ?_, fun ha => (ar ha (by kernel_rfl)).elim, ?_, fun ha => (ar ha (by kernel_rfl)).elim, ?_⟩ <;> intro ha <;> first | exact ⟨ev aa rfl, fun h => nomatch h⟩ | exact (ar ha (by kernel_rfl)).elim
  case p_28 => refine ⟨fun ha => (ar ha (by kernel_rfl)).elim, ?_, fun ha => (ar ha (by kernel_rfl)).elim, ?_, fun ha => (ar ha (by kernel_rfl)).elim, ?_⟩ <;> intro ha <;> first | exact ⟨ev aa rfl, fun h => nomatch h⟩ | exact ⟨bT aa rfl rfl rfl rfl, fun h => nomatch h⟩ | exact ⟨bU aa rfl rfl rfl rfl rfl, fun h => nomatch h⟩ | exact (ar ha (by kernel_rfl)).elim
  case p_29 => refine ⟨fun ha => (ar ha (by kernel_rfl)).elim, ?_, fun ha => (ar ha (by kernel_rfl)).elim, ?_, fun ha => (ar ha (by kernel_rfl)).elim, ?_⟩ <;> intro ha <;> first | exact ⟨build aa rfl rfl rfl rfl, fun h => nomatch h⟩ | exact (ar ha (by kernel_rfl)).elim
  case p_30 => refine ⟨fun ha => (ar ha (by kernel_rfl)).elim, ?_, fun ha => (ar ha (by kernel_rfl)).elim, ?_, fun ha => (ar ha (by kernel_rfl)).elim, ?_⟩ <;> intro ha <;> first | exact ⟨ev aa rfl, fun h => nomatch h⟩ | exact (ar ha (by kernel_rfl)).elim
  case p_31 => refine ⟨fun ha => (ar ha (by kernel_rfl)).elim, ?_, fun ha => (ar ha (by kernel_rfl)).elim, ?_, fun ha => (ar ha (by kernel_rfl)).elim, ?_⟩ <;> intro ha <;> first | exact ⟨ev aa rfl, fun h => nomatch h⟩ | exact (ar ha (by kernel_rfl)).elim
  case p_32 => refine ⟨fun ha => (ar ha (by kernel_rfl)).elim, ?_, fun ha => (ar ha (by kernel_rfl)).elim, ?_, fun ha => (ar ha (by kernel_rfl)).elim, ?_⟩ <;> intro ha <;> first | exact ⟨ev aa rfl, fun h => nomatch h⟩ | exact ⟨bT aa rfl rfl rfl rfl, fun h => nomatch h⟩ | exact ⟨bU aa rfl rfl rfl rfl rfl, fun h => nomatch h⟩ | exact (ar ha (by kernel_rfl)).elim
  case p_33 => refine ⟨fun ha => (ar ha (by kernel_rfl)).elim, ?_, fun ha => (ar ha (by kernel_rfl)).elim, ?_, fun ha => (ar ha (by kernel_rfl)).elim, ?_⟩ <;> intro ha <;> first | exact ⟨build aa rfl rfl rfl rfl, fun h => nomatch h⟩ | exact (ar ha (by kernel_rfl)).elim
  case p_34 => refine ⟨fun ha => (ar ha (by kernel_rfl)).elim, ?_, fun ha => (ar ha (by kernel_rfl)).elim, ?_, fun ha => (ar ha (by kernel_rfl)).elim, ?_⟩ <;> intro ha <;> first | exact ⟨aI aa rfl rfl rfl rfl rfl rfl rfl rfl rfl, fun h => nomatch h⟩ | exact (ar ha (by kernel_rfl)).elim
  refine' aU (aI aa rfl rfl rfl rfl rfl rfl rfl rfl rfl) ?p_36 rfl rfl rfl (by kernel_rfl) rfl ?h_36
  case' h_36 => skip
  case p_36 => refine ⟨fun ha => (ar ha (by kernel_rfl)).elim, ?_, fun ha => (ar ha (by kernel_rfl)).elim, ?_, fun ha => (ar ha (by kernel_rfl)).elim, ?_⟩ <;> intro ha <;> first | exact ⟨aI aa rfl rfl rfl rfl rfl rfl rfl rfl rfl, fun h => nomatch h⟩ | exact (ar ha (by kernel_rfl)).elim
  refine CD.nil ?_ rfl
  refine br (fn := rc) (a := jZ q) aa rfl rfl rfl rfl rfl rfl rfl rfl rfl rfl (fun _ => rfl) (by show (rows.length + 1) * 24 ≤ _; omega) ?_
  refine pE rfl (aP aa rfl rfl rfl rfl rfl rfl rfl rfl (WO.nil (aW (qs (W.region ?_)))))
  iterate 2 refine pE rfl ?_
  refine WO.nil (W.aT [0, 1, 6] ⟨(k + 1, rows ++ [jZ q]), ?_⟩ ?_ rfl ?_ ⟨rfl, rfl, rfl, rfl, trivial⟩ ?_ trivial rfl)
  · exact ⟨hlt, by rw [hW, List.take_add_one, hx]; simp⟩
  · dsimp only; omega
  · repeat' first | exact trivial | refine ⟨rfl, ?_⟩ | refine ⟨aC (by assumption) (by assumption), ?_⟩
  repeat' first | exact trivial | refine ⟨rfl, ?_⟩
 have hg : cB a on = (⟨CT0.1, rows⟩, 0) := by
  rw [hgo, hW, ← hR, List.take_of_length_le (by have := congrArg List.length hd; simp at this; omega)]
 refine W.exit (aK (aN (aL (qs (W.seq (W.region (pE rfl (aP aa rfl rfl rfl rfl rfl rfl rfl rfl (pE rfl (WO.nil (qs ?_)))))))))))
 try refine cd 1 0 rfl rfl rfl ?_
 try refine cd 1 1 rfl rfl rfl ?_
 refine W.ret (QV.ao aa trivial rfl ?_)
 (rw [hg]; rfl)
theorem rO (a : bt) (on : List ByteArray) (hon : on.length ≤ 400) : ax Tryz.prog 13 [.ag a.c, .d (.sl (on.map sc))]
  (.tup [.ag (cB a on).1.c, .d (.v (.int .i64 (cB a on).2))]) 0 := by
 rcases Nat.eq_zero_or_pos (pieces (k0 a on) (bM a.cols aQ) (bM a.cols bA) a.rows).length with h | h
 · exact ry a on hon (List.length_eq_zero_iff.1 h)
 exact qX a on hon h
end Go.Proofs.YtjenenllmjlimaaGreat
namespace Go.Proofs.YtjenenllmjlimaaGreat
open Go.Ab Go.Tb
set_option maxRecDepth 10000
attribute [local irreducible] W WO Pu QS QB QL QF QV bR CH QE
theorem cD (n : Int) : ax Tryz.prog 18 [.d (.v (.int .i64 n))] (.ag (b8 n).c) 0 := by
 refine ax.eQ aa (n := 5) (rs := [.cell 2 39]) Tryz.func18 (by kernel_rfl) rfl Tryz.ntmps18 Tryz.results18 rfl fun C hC hG => ?_
 refine W.seq (W.region (a8 aa rfl rfl rfl (WO.nil (qs (W.seq (W.region (pE rfl (pu (build aa rfl rfl rfl rfl) rfl ?_))))))))
 refine aP aa rfl rfl rfl rfl rfl rfl rfl rfl (WO.nil (qs (W.ret (QV.ao aa trivial rfl ?_))))
 rfl
theorem j0 (s : ByteArray) : ax Tryz.prog 17 [.d (.v (.string s))] (.ag (m9 s).c) 0 := by
 refine ax.eQ aa (n := 5) (rs := [.cell 2 39]) Tryz.func17 (by kernel_rfl) rfl Tryz.ntmps17 Tryz.results17 rfl fun C hC hG => ?_
 refine W.seq (W.region (a8 aa rfl rfl rfl (WO.nil (qs (W.seq (W.region (pE rfl (pu (build aa rfl rfl rfl rfl) rfl ?_))))))))
 refine aP aa rfl rfl rfl rfl rfl rfl rfl rfl (WO.nil (qs (W.ret (QV.ao aa trivial rfl ?_))))
 rfl
theorem eF (l : List Int) (h : l.length ≤ 100000) : ax Tryz.prog 19 [.d (.sl (l.map ic))] (.d (.sl ((l.map b8).map aM.c))) 0 := by
 have hlm : l.length ≤ maxLen := by simp only [maxLen]; omega
 refine ax.aR (n := 20) (ts := [2]) Tryz.func19 (by kernel_rfl) rfl Tryz.ntmps19 Tryz.results19 rfl rfl fun C hC hG => ?_
 refine W.seq (W.region (pE rfl (WO.nil (qs (W.seq (W.region (pE rfl (WO.nil (qs ?_)))))))))
 iterate 2 refine W.seq ?_
 refine W.region (pE rfl (WO.nil (qs (W.block (aG (d := 3) rfl rfl ?_)))))
 refine W.aS (ι := {x : Nat × List aM // match x with | (k, out) => k ≤ l.length ∧ out = (l.take k).map b8})
  (fun x => match x.1 with | (k, out) => [(3, .own 0 (out.map aM.c)), (4, .d (.v (.int .i64 ((k : Nat) : Int))))]) [(0, _)]
  (fun x => match x.1 with | (k, out) => []) [] [0] 1 (fun x => match x.1 with | (k, out) => l.length - k)
  [0] ⟨(0, []), ?_⟩ rfl ?_ ⟨rfl, rfl, trivial⟩ ?_ trivial rfl ?_
 · exact ⟨Nat.zero_le _, rfl⟩
 · repeat' first | exact trivial | refine ⟨rfl, ?_⟩
 · repeat' exact trivial
 rintro ⟨⟨k, out⟩, hk, hI⟩
 show W _ _ _ _ _ ⟨[(3, .own 0 (out.map aM.c)), (4, .d (.v (.int .i64 ((k : Nat) : Int)))), (0, _)], [], [0], 1⟩
 iterate 2 refine W.seq ?_
 refine W.region ?_
 iterate 4 refine pE rfl ?_
 refine WO.nil (qs (a9 (l := l) (k := k) rfl (by simp [Ex.aF, aH]) hk (fun s hx hd hlt => ?_) (fun he hd => ?_)))
 ·
  have hol : out.length ≤ k := by rw [hI]; simp; omega
  refine W.skip (qs (W.seq (W.block (W.region ?_))))
  iterate 3 refine pE rfl ?_
  refine pu (indexAddr aa rfl rfl rfl rfl rfl rfl (Int.natCast_nonneg _) (aB (by assumption)) rfl) rfl ?_
  refine pE rfl (pu (ah rfl rfl rfl ((cD _)) rfl) rfl ?_)
  refine pu (aI aa rfl rfl rfl rfl rfl rfl rfl rfl rfl) rfl ?_
  refine br (fn := aM.c) (a := b8 s) aa rfl rfl rfl rfl rfl rfl rfl rfl rfl rfl (fun _ => rfl) (by show (out.length + 1) * 32 ≤ _; omega) ?_
  refine pE rfl (WO.nil (aW (qs (W.region ?_))))
  iterate 3 refine pE rfl ?_
  refine WO.nil (W.aT [1] ⟨(k + 1, out ++ [b8 s]), ?_⟩ ?_ rfl ?_ ⟨rfl, rfl, trivial⟩ ?_ trivial rfl)
  · exact ⟨hlt, by rw [hI, List.take_add_one, hx]; simp⟩
  · dsimp only; omega
  · repeat' first | exact trivial | refine ⟨rfl, ?_⟩ | refine ⟨aC (by assumption) (by assumption), ?_⟩
  repeat' exact trivial
 have hfin : out = l.map b8 := by rw [hI, List.take_of_length_le (by have := congrArg List.length hd; simp at this; omega)]
 refine W.exit (aK (aN (aL (qs (W.seq (W.region ?_))))))
 iterate 2 refine pE rfl ?_
 refine WO.nil (qs (W.ret (QF.ao trivial rfl ?_)))
 simp only [norm, az]; rw [hfin]; rfl
theorem j7 (l : List ByteArray) (h : l.length ≤ 100000) : ax Tryz.prog 16 [.d (.sl (l.map sc))] (.d (.sl ((l.map fH).map Col.c))) 0 := by
 have hlm : l.length ≤ maxLen := by simp only [maxLen]; omega
 refine ax.aR (n := 28) (ts := [2]) Tryz.func16 (by kernel_rfl) rfl Tryz.ntmps16 Tryz.results16 rfl rfl fun C hC hG => ?_
 refine W.seq (W.region (pE rfl (WO.nil (qs (W.seq (W.region (pE rfl (WO.nil (qs ?_)))))))))
 iterate 2 refine W.seq ?_
 refine W.region (pE rfl (WO.nil (qs (W.block (aG (d := 3) rfl rfl ?_)))))
 refine W.aS (ι := {x : Nat × List Col // match x with | (k, out) => k ≤ l.length ∧ out = (l.take k).map fH})
  (fun x => match x.1 with | (k, out) => [(3, .own 0 (out.map Col.c)), (4, .d (.v (.int .i64 ((k : Nat) : Int))))]) [(0, _)]
  (fun x => match x.1 with | (k, out) => []) [] [0] 1 (fun x => match x.1 with | (k, out) => l.length - k)
  [0] ⟨(0, []), ?_⟩ rfl ?_ ⟨rfl, rfl, trivial⟩ ?_ trivial rfl ?_
 · exact ⟨Nat.zero_le _, rfl⟩
 · repeat' first | exact trivial | refine ⟨rfl, ?_⟩
 · repeat' exact trivial
 rintro ⟨⟨k, out⟩, hk, hI⟩
 show W _ _ _ _ _ ⟨[(3, .own 0 (out.map Col.c)), (4, .d (.v (.int .i64 ((k : Nat) : Int)))), (0, _)], [], [0], 1⟩
 iterate 2 refine W.seq ?_
 refine W.region ?_
 iterate 4 refine pE rfl ?_
 refine WO.nil (qs (a9 (l := l) (k := k) rfl (by simp [Ex.aF, aH]) hk (fun s hx hd hlt => ?_) (fun he hd => ?_)))
 ·
  have hol : out.length ≤ k := by rw [hI]; simp; omega
  refine W.skip (qs (W.seq (W.block (W.seq (W.region ?_)))))
  iterate 2 refine pE rfl ?_
  refine pu (indexAddr aa rfl rfl rfl rfl rfl rfl (Int.natCast_nonneg _) (aB (by assumption)) rfl) rfl ?_
  refine pE rfl (pu (build aa rfl rfl rfl rfl) rfl ?_)
  refine a8 aa rfl rfl rfl (aP aa rfl rfl rfl rfl rfl rfl rfl rfl (WO.nil (qs ?_)))
  iterate 2 refine W.seq ?_
  refine W.region ?_
  iterate 2 refine pE rfl ?_
  refine pu (indexAddr aa rfl rfl rfl rfl rfl rfl (Int.natCast_nonneg _) (aB (by assumption)) rfl) rfl ?_
  refine pE rfl (pE rfl (WO.nil (qs (ak rfl (fun h21 => ?_) (fun h21 => ?_)))))
  ·
   have hs : s = B #[107] := by simpa using h21
   have hlc : fH s = ⟨s, 3⟩ := by unfold fH; rw [if_pos hs]
   refine W.region (pE rfl (aP aa rfl rfl rfl rfl rfl rfl rfl rfl (WO.nil (qs (W.region (pE rfl (pE rfl (pu (aI aa rfl rfl rfl rfl rfl rfl rfl rfl rfl) rfl ?_))))))))
   refine br (fn := Col.c) (a := fH s) aa rfl rfl (by rw [hlc]; rfl) rfl rfl rfl rfl rfl rfl rfl (fun _ => rfl) (by show (out.length + 1) * 24 ≤ _; omega) ?_
   refine pE rfl (WO.nil (aW (qs (W.region ?_))))
   iterate 3 refine pE rfl ?_
   refine WO.nil (W.aT [2] ⟨(k + 1, out ++ [fH s]), ?_⟩ ?_ rfl ?_ ⟨rfl, rfl, trivial⟩ ?_ trivial rfl)
   · exact ⟨hlt, by rw [hI, List.take_add_one, hx]; simp⟩
   · dsimp only; omega
   · repeat' first | exact trivial | refine ⟨rfl, ?_⟩ | refine ⟨aC (by assumption) (by assumption), ?_⟩
   repeat' exact trivial
  have hs : ¬ s = B #[107] := by simpa using h21
  have hlc : fH s = ⟨s, 2⟩ := by unfold fH; rw [if_neg hs]
  refine W.skip (qs (W.region (pE rfl (pE rfl (pu (aI aa rfl rfl rfl rfl rfl rfl rfl rfl rfl) rfl ?_)))))
  refine br (fn := Col.c) (a := fH s) aa rfl rfl (by rw [hlc]; rfl) rfl rfl rfl rfl rfl rfl rfl (fun _ => rfl) (by show (out.length + 1) * 24 ≤ _; omega) ?_
  refine pE rfl (WO.nil (aW (qs (W.region ?_))))
  iterate 3 refine pE rfl ?_
  refine WO.nil (W.aT [2] ⟨(k + 1, out ++ [fH s]), ?_⟩ ?_ rfl ?_ ⟨rfl, rfl, trivial⟩ ?_ trivial rfl)
  · exact ⟨hlt, by rw [hI, List.take_add_one, hx]; simp⟩
  · dsimp only; omega
  · repeat' first | exact trivial | refine ⟨rfl, ?_⟩ | refine ⟨aC (by assumption) (by assumption), ?_⟩
  repeat' exact trivial
 have hfin : out = l.map fH := by rw [hI, List.take_of_length_le (by have := congrArg List.length hd; simp at this; omega)]
 refine W.exit (aK (aN (aL (qs (W.seq (W.region ?_))))))
 iterate 2 refine pE rfl ?_
 refine WO.nil (qs (W.ret (QF.ao trivial rfl ?_)))
 simp only [norm, az]; rw [hfin]; rfl
theorem tz (a b : List aM) : ax Tryz.prog 52 [.d (.sl (a.map aM.c)), .d (.sl (b.map aM.c))] (.d (.v (.bool (decide (a = b))))) 0 := by
 refine ax.aR (n := 26) (ts := [4]) Tryz.func52 (by kernel_rfl) rfl Tryz.ntmps52 Tryz.results52 rfl rfl fun C hC hG => ?_
 refine W.seq (W.region (pE rfl (WO.nil (qs ?_))))
 iterate 2 refine W.seq ?_
 refine W.region ?_
 iterate 5 refine pE rfl ?_
 refine WO.nil (qs (ak rfl (fun h10 => ?_) (fun h10 => ?_)))
 ·
  have hg : decide (a = b) = false := decide_eq_false (by rintro rfl; simp at h10)
  refine W.seq (W.region (pE rfl (WO.nil (qs (W.ret (ae (QF.ao trivial rfl ?_)))))))
  rw [hg]; rfl
 have hl2 : a.length = b.length := by simp at h10; omega
 refine W.skip (qs ?_)
 iterate 2 refine W.seq ?_
 refine W.region (pE rfl (WO.nil (qs (W.block (W.len (t := 0) rfl rfl (fun hlen => ?_))))))
 try simp only [List.length_map, Ex.aF] at hlen
 refine W.aS (ι := {x : Nat // match x with | k => k ≤ a.length ∧ (a.drop k = b.drop k ↔ a = b)})
  (fun x => match x.1 with | k => [(5, .d (.v (.int .i64 ((k : Nat) : Int))))]) [(0, _), (1, _)]
  (fun x => match x.1 with | k => []) [] [] 0 (fun x => match x.1 with | k => a.length - k)
  [] ⟨0, ?_⟩ rfl ?_ ⟨rfl, rfl, rfl, rfl, trivial⟩ ?_ trivial rfl ?_
 · exact ⟨Nat.zero_le _, by simp⟩
 · repeat' first | exact trivial | refine ⟨rfl, ?_⟩
 · repeat' exact trivial
 rintro ⟨k, hk, hI⟩
 show W _ _ _ _ _ ⟨[(5, .d (.v (.int .i64 ((k : Nat) : Int)))), (0, _), (1, _)], [], [], 0⟩
 iterate 2 refine W.seq ?_
 refine W.region ?_
 iterate 4 refine pE rfl ?_
 refine WO.nil (qs (a9 (l := a) (k := k) rfl (by simp [Ex.aF, aH]) hk (fun x hx hd hlt => ?_) (fun he hd => ?_)))
 ·
  obtain ⟨y, hy⟩ : ∃ y, b[k]? = some y := ⟨b[k]'(by omega), by simp⟩
  have hd2 : b.drop k = y :: b.drop (k + 1) := by
   have hlt2 : k < b.length := by omega
   have := List.drop_eq_getElem_cons hlt2
   rw [this, (List.getElem?_eq_some_iff.1 hy).2]
  rw [hd, hd2] at hI
  refine W.skip (qs (W.seq (W.block (W.seq (W.be aa (by kernel_rfl) ?_)))))
  iterate 2 refine an (ev aa rfl) rfl ?_
  refine an (indexAddr aa rfl rfl rfl rfl rfl rfl (Int.natCast_nonneg _) (aB hx) rfl) rfl ?_
  refine an (ev aa rfl) rfl ?_
  iterate 2 refine an (ev aa rfl) rfl ?_
  refine an (indexAddr (l := y.c) aa rfl rfl rfl rfl rfl rfl (Int.natCast_nonneg _) (aB hy) rfl) rfl ?_
  refine an (ev aa rfl) rfl ?_
  refine an (ev aa rfl) rfl ?_
  refine CH.nil ?_
  refine qs (ak rfl (fun h25 => ?_) (fun h25 => ?_))
  ·
   have hxy : x ≠ y := by rintro rfl; simp at h25
   have hg : decide (a = b) = false := decide_eq_false (fun q => by have := hI.2 q; simp at this; exact hxy this.1)
   refine W.seq (W.region (pE rfl (WO.nil (qs (W.ret (au (ae (aY (au (ae (QF.ao trivial rfl ?_)))))))))))
   rw [hg]; rfl
  have hxy : x = y := by
   have := kG (a := x) (b := y)
   exact of_decide_eq_true (by rw [← this]; simpa using h25)
  have hn : a.drop (k + 1) = b.drop (k + 1) ↔ a = b := by rw [← hI, hxy]; simp
  refine W.skip (aW (qs (W.region ?_)))
  iterate 3 refine pE rfl ?_
  refine WO.nil (W.aT [] ⟨k + 1, ?_⟩ ?_ rfl ?_ ⟨rfl, rfl, rfl, rfl, trivial⟩ ?_ trivial rfl)
  · exact ⟨hlt, hn⟩
  · dsimp only; omega
  · repeat' first | exact trivial | refine ⟨aC (by assumption) (by assumption), ?_⟩
  repeat' exact trivial
 have hd2 : b.drop k = [] := List.drop_eq_nil_of_le (by have := congrArg List.length hd; simp at this; omega)
 rw [hd, hd2] at hI
 have hg : decide (a = b) = true := decide_eq_true (hI.1 rfl)
 refine W.exit (aK (aN (aL (qs (W.seq (W.region (pE rfl (WO.nil (qs (W.ret (QF.ao trivial rfl ?_)))))))))))
 rw [hg]; rfl
theorem sQ (a b : List aM) : ax Tryz.prog 33 [.d (.sl (a.map aM.c)), .d (.sl (b.map aM.c))] (.d (.v (.bool (decide (a = b))))) 0 := by
 refine ax.aR (n := 8) (ts := [4]) Tryz.func33 (by kernel_rfl) rfl Tryz.ntmps33 Tryz.results33 rfl rfl fun C hC hG => ?_
 refine W.seq (W.region (pE rfl (WO.nil (qs (W.seq (W.region ?_))))))
 iterate 2 refine pE rfl ?_
 refine pu (ah rfl rfl rfl (tz a b) rfl) rfl ?_
 refine pE rfl (WO.nil (qs (W.ret (QF.ao trivial rfl ?_))))
 rfl
theorem pG (t : bt) : ax Tryz.prog 15 [.ag t.c] (.d (.v (.bool (kg t)))) 0 := by
 refine ax.aR (n := 36) (ts := [2]) Tryz.func15 (by kernel_rfl) rfl Tryz.ntmps15 Tryz.results15 rfl rfl fun C hC hG => ?_
 refine W.seq (W.region (bg rfl rfl rfl (pE rfl (WO.nil (qs (W.seq (W.region (pE rfl (pE rfl ?_)))))))))
 iterate 2 refine pE rfl ?_
 refine WO.nil (qs ?_)
 iterate 2 refine W.seq ?_
 refine W.region (pE rfl (WO.nil (qs (W.block (fu (g := 0) (j := 1) rfl rfl (fun hlen => ?_))))))
 rw [List.length_map] at hlen
 refine W.aS (ι := {x : Nat × Int // match x with | (k, n) => k ≤ t.rows.length ∧ kk (t.rows.drop k) n = kk t.rows (t.cols.length : Int)})
  (fun x => match x.1 with | (k, n) => [(1, .ptr 0 0), (3, .d (.v (.int .i64 (n)))), (4, .d (.v (.int .i64 ((k : Nat) : Int))))]) []
  (fun x => match x.1 with | (k, n) => [(0, t.c.map A.d)]) [] [] 1 (fun x => match x.1 with | (k, n) => t.rows.length - k)
  [0] ⟨(0, ((t.cols.map Col.c).length : Int)), ?_⟩ rfl ?_ trivial ?_ trivial rfl ?_
 · exact ⟨Nat.zero_le _, by rw [List.length_map]; rfl⟩
 · repeat' first | exact trivial | refine ⟨rfl, ?_⟩
 · repeat' first | exact trivial | refine ⟨rfl, ?_⟩
 rintro ⟨⟨k, n⟩, hk, hI⟩
 show W _ _ _ _ _ ⟨[(1, .ptr 0 0), (3, .d (.v (.int .i64 (n)))), (4, .d (.v (.int .i64 ((k : Nat) : Int))))], [(0, t.c.map A.d)], [], 1⟩
 iterate 2 refine W.seq ?_
 apply aD; (case hb => rfl)
 ·
  iterate 2 refine pE rfl ?_
  refine pE rfl ?_
  iterate 3 refine pE rfl ?_
  apply aw; (case hj => rfl); (case hl => rfl)
  ·
   refine ab rfl rfl (pE rfl (ab rfl rfl ?_))
   iterate 2 refine pE rfl ?_
   refine WO.nil (ay rfl rfl rfl)
  iterate 2 refine aq rfl rfl rfl rfl ?_
  refine pE rfl (WO.nil (ay rfl rfl rfl))
 refine qs (ak rfl (fun h16 => ?_) (fun h16 => ?_))
 ·
  have hlt : k < t.rows.length := by
   revert h16
   by_cases q : (k : Int) < (t.rows.length : Int)
   · intro _; omega
   simp [q]
  have hn6 : n ≤ 600 := by
   revert h16
   by_cases q : n ≤ 600
   · intro _; exact q
   simp [q]
  obtain ⟨x, hx⟩ : ∃ x, t.rows[k]? = some x := ⟨t.rows[k], by simp [hlt]⟩
  have hd : t.rows.drop k = x :: t.rows.drop (k + 1) := by
   have := List.drop_eq_getElem_cons hlt
   rw [this, (List.getElem?_eq_some_iff.1 hx).2]
  rw [hd] at hI
  simp only [kk] at hI
  rw [if_pos hn6] at hI
  refine W.skip (qs (W.seq (W.block (W.region ?_))))
  iterate 3 refine pE rfl ?_
  refine pE rfl (pE rfl (pu (indexAddr aa rfl rfl rfl rfl rfl rfl (Int.natCast_nonneg _) (aB hx) rfl) rfl ?_))
  refine pE rfl ?_
  iterate 3 refine pE rfl ?_
  refine WO.nil (aW (qs (W.region ?_)))
  iterate 3 refine pE rfl ?_
  refine WO.nil (W.aT [0] ⟨(k + 1, IntKind.i64.wrap (IntKind.i64.wrap (n + 1) + ((x.map aM.c).length : Int))), ?_⟩ ?_ rfl ?_ trivial ?_ trivial rfl)
  · exact ⟨hlt, by rw [List.length_map]; exact hI⟩
  · dsimp only; omega
  · repeat' first | exact trivial | refine ⟨rfl, ?_⟩ | refine ⟨aC (by assumption) (by assumption), ?_⟩
  repeat' first | exact trivial | refine ⟨rfl, ?_⟩
 have hfin : kk t.rows (t.cols.length : Int) = n := by
  rw [← hI]
  cases hdd : t.rows.drop k with
  | nil => rfl
  | cons x r =>
   have hlt : k < t.rows.length := by have := congrArg List.length hdd; simp at this; omega
   have q : (k : Int) < (t.rows.length : Int) := by omega
   have q2 : ¬ n ≤ 600 := by
    intro q2
    revert h16
    simp [q, q2]
   simp only [kk]
   rw [if_neg q2]
 refine W.exit (aK (aN (aL (qs (W.seq ?_)))))
 apply aD; (case hb => rfl)
 ·
  iterate 3 refine pE rfl ?_
  apply aw; (case hj => rfl); (case hl => rfl)
  ·
   refine ab rfl rfl (pE rfl (ab rfl rfl (pE rfl (ab rfl rfl (pE rfl (ab rfl rfl ?_))))))
   iterate 3 refine pE rfl ?_
   refine WO.nil (ay rfl rfl rfl)
  iterate 4 refine aq rfl rfl rfl rfl ?_
  iterate 2 refine pE rfl ?_
  refine WO.nil (ay rfl rfl rfl)
 refine qs (W.ret (QF.ao trivial rfl ?_))
 simp only [norm, az]; unfold kg; rw [hfin]; first | rfl | (simp; done) | skip
end Go.Proofs.YtjenenllmjlimaaGreat
namespace Go.Proofs.YtjenenllmjlimaaGreat
open Go.Ab Go.Tb
set_option maxRecDepth 10000
attribute [local irreducible] W WO Pu QS QB QL QF QV bR CH QE
theorem v9 (a b : bt) (on : List ByteArray) : ax Tryz.prog 6 [.ag a.c, .ag b.c, .d (.sl (on.map sc))] (.d (.v (.bool (om a b on)))) 0 := by
 refine ax.aR (n := 18) (ts := [6]) Tryz.func6 (by kernel_rfl) rfl Tryz.ntmps6 Tryz.results6 rfl rfl fun C hC hG => ?_
 refine W.seq (W.region (bg rfl rfl rfl (bg rfl rfl rfl (pE rfl (WO.nil (qs (W.seq ?_)))))))
 apply aD; (case hb => rfl)
 ·
  refine pE rfl (pu (ah rfl rfl rfl (pG a) rfl) rfl ?_)
  refine pE rfl ?_
  apply aw; (case hj => rfl); (case hl => rfl)
  ·
   refine ab rfl rfl (pE rfl (ab rfl rfl (pu (ah rfl rfl rfl (pG b) rfl) rfl ?_)))
   iterate 2 refine pE rfl ?_
   apply aw; (case hj => rfl); (case hl => rfl)
   ·
    refine ab rfl rfl (pE rfl (ab rfl rfl (pE rfl (ab rfl rfl ?_))))
    iterate 3 refine pE rfl ?_
    refine WO.nil (ay rfl rfl rfl)
   iterate 3 refine aq rfl rfl rfl rfl ?_
   iterate 2 refine pE rfl ?_
   refine WO.nil (ay rfl rfl rfl)
  iterate 2 refine aq rfl rfl rfl rfl ?_
  iterate 2 refine pE rfl ?_
  iterate 3 refine aq rfl rfl rfl rfl ?_
  iterate 2 refine pE rfl ?_
  refine WO.nil (ay rfl rfl rfl)
 refine qs (W.ret (QF.ao trivial rfl ?_))
 simp only [norm, az]; unfold om; rw [List.length_map]; cases kg a <;> cases kg b <;> rfl
theorem uD {a b : Col} : (decide (a.name = b.name) && decide (a.type = b.type)) = decide (a = b) := by
 obtain ⟨x, y⟩ := a
 obtain ⟨x', y'⟩ := b
 simp only [Col.mk.injEq]
 by_cases h1 : x = x' <;> by_cases h2 : y = y' <;> simp [h1, h2]
theorem qU (a b : bt) : ax Tryz.prog 10 [.ag a.c, .ag b.c] (.d (.v (.bool (decide (a = b))))) 0 := by
 refine ax.aR (n := 60) (ts := [4]) Tryz.func10 (by kernel_rfl) rfl Tryz.ntmps10 Tryz.results10 rfl rfl fun C hC hG => ?_
 refine W.seq (W.region (bg rfl rfl rfl (bg rfl rfl rfl (pE rfl (WO.nil (qs ?_))))))
 iterate 2 refine W.seq ?_
 apply aD; (case hb => rfl)
 ·
  refine pE rfl (pE rfl ?_)
  iterate 2 refine pE rfl ?_
  refine pE rfl ?_
  iterate 3 refine pE rfl ?_
  apply aw; (case hj => rfl); (case hl => rfl)
  ·
   iterate 7 refine aq rfl rfl rfl rfl ?_
   refine pE rfl (WO.nil (ay rfl rfl rfl))
  refine ab rfl rfl (pE rfl (ab rfl rfl (pE rfl (ab rfl rfl (pE rfl (ab rfl rfl (pE rfl (ab rfl rfl (pE rfl (ab rfl rfl (pE rfl (ab rfl rfl ?_))))))))))))
  iterate 2 refine pE rfl ?_
  refine WO.nil (ay rfl rfl rfl)
 refine qs (ak rfl (fun h22 => ?_) (fun h22 => ?_))
 ·
  have hg : decide (a = b) = false := decide_eq_false (by rintro rfl; simp at h22)
  refine W.seq (W.region (pE rfl (WO.nil (qs (W.ret (ae (QF.ao trivial rfl ?_)))))))
  rw [hg]; rfl
 have hl2 : a.cols.length = b.cols.length ∧ a.rows.length = b.rows.length := by
  revert h22
  by_cases q : (a.cols.length : Int) = (b.cols.length : Int)
  ·
   simp only [List.length_map, q, decide_true, Bool.not_true, cond_false]
   intro h
   simp at h
   omega
  simp [q]
 refine W.skip (qs ?_)
 iterate 2 refine W.seq ?_
 refine W.region (pE rfl (WO.nil (qs (W.block (fu (g := 0) (j := 0) rfl rfl (fun hlen0 => ?_))))))
 rw [List.length_map] at hlen0
 refine fu (g := 0) (j := 1) rfl rfl (fun hlen1 => ?_)
 rw [List.length_map] at hlen1
 refine W.aS (ι := {x : Nat // match x with | k => k ≤ a.cols.length ∧ (a.cols.drop k = b.cols.drop k ↔ a.cols = b.cols)})
  (fun x => match x.1 with | k => [(2, .ptr 0 0), (3, .ptr 1 0), (5, .d (.v (.int .i64 ((k : Nat) : Int))))]) []
  (fun x => match x.1 with | k => [(0, a.c.map A.d), (1, b.c.map A.d)]) [] [] 2 (fun x => match x.1 with | k => a.cols.length - k)
  [0, 1] ⟨0, ?_⟩ rfl ?_ trivial ?_ trivial rfl ?_
 · exact ⟨Nat.zero_le _, by simp⟩
 · repeat' first | exact trivial | refine ⟨rfl, ?_⟩
 · repeat' first | exact trivial | refine ⟨rfl, ?_⟩
 rintro ⟨k, hk, hI⟩
 show W _ _ _ _ _ ⟨[(2, .ptr 0 0), (3, .ptr 1 0), (5, .d (.v (.int .i64 ((k : Nat) : Int))))], [(0, a.c.map A.d), (1, b.c.map A.d)], [], 2⟩
 iterate 2 refine W.seq ?_
 refine W.region ?_
 iterate 2 refine pE rfl ?_
 refine pE rfl ?_
 iterate 2 refine pE rfl ?_
 refine WO.nil (qs (a9 (l := a.cols) (k := k) rfl (by simp [Ex.aF, aH]) hk (fun x hx hd hlt => ?_) (fun he hd => ?_)))
 ·
  obtain ⟨y, hy⟩ : ∃ y, b.cols[k]? = some y := ⟨b.cols[k]'(by omega), by simp⟩
  have hd2 : b.cols.drop k = y :: b.cols.drop (k + 1) := by
   have hlt2 : k < b.cols.length := by omega
   have := List.drop_eq_getElem_cons hlt2
   rw [this, (List.getElem?_eq_some_iff.1 hy).2]
  rw [hd, hd2] at hI
  refine W.skip (qs (W.seq (W.block (W.seq (W.be aa (by kernel_rfl) ?_)))))
  refine an (ev aa rfl) rfl ?_
  refine an (ev aa rfl) rfl ?_
  refine an (ev aa rfl) rfl ?_
  refine an (indexAddr aa rfl rfl rfl rfl rfl rfl (Int.natCast_nonneg _) (aB hx) rfl) rfl ?_
  refine an (ev aa rfl) rfl ?_
  refine an (ev aa rfl) rfl ?_
  refine an (ev aa rfl) rfl ?_
  refine an (ev aa rfl) rfl ?_
  refine an (indexAddr (l := y.c) aa rfl rfl rfl rfl rfl rfl (Int.natCast_nonneg _) (aB hy) rfl) rfl ?_
  refine an (ev aa rfl) rfl ?_
  refine an (ev aa rfl) rfl ?_
  refine CH.nil ?_
  refine qs (ak rfl (fun h40 => ?_) (fun h40 => ?_))
  ·
   have hxy : x ≠ y := by rintro rfl; simp at h40
   have hg : decide (a = b) = false := decide_eq_false (fun q => by have := hI.2 (by rw [q]); simp at this; exact hxy this.1)
   refine W.seq (W.region (pE rfl (WO.nil (qs (W.ret (au (ae (aY (au (ae (QF.ao trivial rfl ?_)))))))))))
   rw [hg]; rfl
  have hxy : x = y := by
   have := uD (a := x) (b := y)
   exact of_decide_eq_true (by rw [← this]; simpa using h40)
  have hn : a.cols.drop (k + 1) = b.cols.drop (k + 1) ↔ a.cols = b.cols := by rw [← hI, hxy]; simp
  refine W.skip (aW (qs (W.region ?_)))
  iterate 3 refine pE rfl ?_
  refine WO.nil (W.aT [0, 1] ⟨k + 1, ?_⟩ ?_ rfl ?_ trivial ?_ trivial rfl)
  · exact ⟨hlt, hn⟩
  · dsimp only; omega
  · repeat' first | exact trivial | refine ⟨rfl, ?_⟩ | refine ⟨aC (by assumption) (by assumption), ?_⟩
  repeat' first | exact trivial | refine ⟨rfl, ?_⟩
 have hd2 : b.cols.drop k = [] := List.drop_eq_nil_of_le (by have := congrArg List.length hd; simp at this; omega)
 rw [hd, hd2] at hI
 have hce : a.cols = b.cols := hI.1 rfl
 refine W.exit (aK (aN (aL (qs ?_))))
 iterate 2 refine W.seq ?_
 refine W.region (pE rfl (WO.nil (qs (W.block ?_))))
 refine W.aS (ι := {x : Nat // match x with | k => k ≤ a.rows.length ∧ (a.rows.drop k = b.rows.drop k ↔ a.rows = b.rows)})
  (fun x => match x.1 with | k => [(2, .ptr 0 0), (3, .ptr 1 0), (6, .d (.v (.int .i64 ((k : Nat) : Int))))]) []
  (fun x => match x.1 with | k => [(0, a.c.map A.d), (1, b.c.map A.d)]) [] [] 2 (fun x => match x.1 with | k => a.rows.length - k)
  [0, 1] ⟨0, ?_⟩ rfl ?_ trivial ?_ trivial rfl ?_
 · exact ⟨Nat.zero_le _, by simp⟩
 · repeat' first | exact trivial | refine ⟨rfl, ?_⟩
 · repeat' first | exact trivial | refine ⟨rfl, ?_⟩
 rintro ⟨k, hk, hR⟩
 show W _ _ _ _ _ ⟨[(2, .ptr 0 0), (3, .ptr 1 0), (6, .d (.v (.int .i64 ((k : Nat) : Int))))], [(0, a.c.map A.d), (1, b.c.map A.d)], [], 2⟩
 iterate 2 refine W.seq ?_
 refine W.region ?_
 iterate 2 refine pE rfl ?_
 refine pE rfl ?_
 iterate 2 refine pE rfl ?_
 refine WO.nil (qs (a9 (l := a.rows) (k := k) rfl (by simp [Ex.aF, aH]) hk (fun x hx hd hlt => ?_) (fun he hd => ?_)))
 ·
  obtain ⟨y, hy⟩ : ∃ y, b.rows[k]? = some y := ⟨b.rows[k]'(by omega), by simp⟩
  have hd2 : b.rows.drop k = y :: b.rows.drop (k + 1) := by
   have hlt2 : k < b.rows.length := by omega
   have := List.drop_eq_getElem_cons hlt2
   rw [this, (List.getElem?_eq_some_iff.1 hy).2]
  rw [hd, hd2] at hR
  refine W.skip (qs (W.seq (W.block (W.seq (W.be aa (by kernel_rfl) ?_)))))
  refine an (ev aa rfl) rfl ?_
  refine an (ev aa rfl) rfl ?_
  refine an (ev aa rfl) rfl ?_
  refine an (indexAddr aa rfl rfl rfl rfl rfl rfl (Int.natCast_nonneg _) (aB hx) rfl) rfl ?_
  refine an (ev aa rfl) rfl ?_
  refine an (ev aa rfl) rfl ?_
  refine an (ev aa rfl) rfl ?_
  refine an (ev aa rfl) rfl ?_
  refine an (indexAddr (l := rc y) aa rfl rfl rfl rfl rfl rfl (Int.natCast_nonneg _) (aB hy) rfl) rfl ?_
  refine an (ev aa rfl) rfl ?_
  refine an (ah rfl rfl rfl (sQ x y) rfl) rfl ?_
  refine an (ev aa rfl) rfl ?_
  refine CH.nil ?_
  refine qs (ak rfl (fun h59 => ?_) (fun h59 => ?_))
  ·
   have hxy : x ≠ y := by simpa using h59
   have hg : decide (a = b) = false := decide_eq_false (fun q => by have := hR.2 (by rw [q]); simp at this; exact hxy this.1)
   refine W.seq (W.region (pE rfl (WO.nil (qs (W.ret (au (ae (aY (au (ae (QF.ao trivial rfl ?_)))))))))))
   rw [hg]; rfl
  have hxy : x = y := by simpa using h59
  have hn : a.rows.drop (k + 1) = b.rows.drop (k + 1) ↔ a.rows = b.rows := by rw [← hR, hxy]; simp
  refine W.skip (aW (qs (W.region ?_)))
  iterate 3 refine pE rfl ?_
  refine WO.nil (W.aT [0, 1] ⟨k + 1, ?_⟩ ?_ rfl ?_ trivial ?_ trivial rfl)
  · exact ⟨hlt, hn⟩
  · dsimp only; omega
  · repeat' first | exact trivial | refine ⟨rfl, ?_⟩ | refine ⟨aC (by assumption) (by assumption), ?_⟩
  repeat' first | exact trivial | refine ⟨rfl, ?_⟩
 have hd2 : b.rows.drop k = [] := List.drop_eq_nil_of_le (by have := congrArg List.length hd; simp at this; omega)
 rw [hd, hd2] at hR
 have hg : decide (a = b) = true := decide_eq_true (by cases a; cases b; simp only [bt.mk.injEq]; exact ⟨hce, hR.1 rfl⟩)
 refine W.exit (aK (aN (aL (qs (W.seq (W.region (pE rfl (WO.nil (qs (W.ret (QF.ao trivial rfl ?_)))))))))))
 rw [hg]; rfl
def wK : ByteArray := B #[107]
def wV : ByteArray := B #[118]
def tA : bt := ⟨[wK, aQ, bA].map fH, [[m9 (B #[120]), b8 0, b8 10], [m9 (B #[121]), b8 0, b8 10]]⟩
def tB : bt := ⟨[wK, aQ, bA, wV].map fH, [[m9 (B #[120]), b8 5, b8 20, b8 1], [m9 (B #[120]), b8 10, b8 12, b8 2]]⟩
def tW : bt := ⟨[wK, aQ, bA, wV].map fH, [[m9 (B #[120]), b8 5, b8 10, b8 1]]⟩
def tC : bt := ⟨[aQ].map fH, [[7].map b8, [2].map b8]⟩
def tD : bt := ⟨[aQ, wV].map fH, [[3, 1].map b8, [5, 2].map b8, [5, 3].map b8, [9, 4].map b8]⟩
def tN : bt := ⟨[aQ, wV].map fH, [[7, 3].map b8, [b8 2, dq]]⟩
def tS : bt := ⟨[aQ, bA].map fH, [[0, 3].map b8, [7, 9].map b8, [8, 8].map b8, [3, 5].map b8]⟩
def tU : bt := ⟨[aQ, bA].map fH, [[0, 5].map b8, [7, 9].map b8]⟩
set_option maxRecDepth 100000 in
theorem ya : cC tA tB [wK] = (tW, 0) := by decide +kernel
set_option maxRecDepth 100000 in
theorem xX : cC tA tB [] = (fE, 4) := by decide +kernel
set_option maxRecDepth 100000 in
theorem x4 : gf tC tD [] = (tN, 0) := by decide +kernel
set_option maxRecDepth 100000 in
theorem xU : cB tS [] = (tU, 0) := by decide +kernel
end Go.Proofs.YtjenenllmjlimaaGreat
namespace Go.Proofs.YtjenenllmjlimaaGreat
open Go.Ab Go.Tb
set_option maxRecDepth 10000
attribute [local irreducible] W WO Pu QS QB QL QF QV bR CH QE
theorem pN : ax Tryz.prog 7 [] (.d (.v (.bool true))) 0 := by
 have hov1 : ax Tryz.prog 8 [.ag tA.c, .ag tB.c, .d (.sl ([wK].map sc))] (.tup [.ag tW.c, .d (.v (.int .i64 0))]) 0 := by have := lx tA tB [wK] (by decide); rw [ya] at this; exact this
 have hov2 : ax Tryz.prog 8 [.ag tA.c, .ag tB.c, .d (.sl (([] : List ByteArray).map sc))] (.tup [.ag fE.c, .d (.v (.int .i64 4))]) 0 := by have := lx tA tB [] (by decide); rw [xX] at this; exact this
 have hne : ax Tryz.prog 11 [.ag tC.c, .ag tD.c, .d (.sl (([] : List ByteArray).map sc))] (.tup [.ag tN.c, .d (.v (.int .i64 0))]) 0 := by have := sD tC tD [] (by decide); rw [x4] at this; exact this
 have hco : ax Tryz.prog 13 [.ag tS.c, .d (.sl (([] : List ByteArray).map sc))] (.tup [.ag tU.c, .d (.v (.int .i64 0))]) 0 := by have := rO tS [] (by decide); rw [xU] at this; exact this
 have hs : ∀ t : bt, ax Tryz.prog 10 [.ag t.c, .ag t.c] (.d (.v (.bool true))) 0 := fun t => by have := qU t t; rw [decide_eq_true (rfl : t = t)] at this; exact this
 refine ax.aR (n := 154) (ts := [0]) Tryz.func7 (by kernel_rfl) rfl Tryz.ntmps7 Tryz.results7 rfl rfl fun C hC hG => ?_
 refine W.seq (W.region (pE rfl (WO.nil (qs (W.seq (W.region (pu (aI aa rfl rfl rfl rfl rfl rfl rfl rfl rfl) rfl ?_)))))))
 refine pu (ah rfl rfl rfl (j7 [wK, aQ, bA] (by decide)) rfl) rfl ?_
 refine pu (ah rfl rfl rfl ((j0 _)) rfl) rfl ?_
 refine pu (ah rfl rfl rfl ((cD _)) rfl) rfl ?_
 refine pu (ah rfl rfl rfl ((cD _)) rfl) rfl ?_
 refine pu (aI aa rfl rfl rfl rfl rfl rfl rfl rfl rfl) rfl ?_
 refine pu (ah rfl rfl rfl ((j0 _)) rfl) rfl ?_
 refine pu (ah rfl rfl rfl ((cD _)) rfl) rfl ?_
 refine pu (ah rfl rfl rfl ((cD _)) rfl) rfl ?_
 refine pu (aI aa rfl rfl rfl rfl rfl rfl rfl rfl rfl) rfl ?_
 refine pu (aI aa rfl rfl rfl rfl rfl rfl rfl rfl rfl) rfl ?_
 refine pu (build aa rfl rfl rfl rfl) rfl ?_
 refine a8 aa rfl rfl rfl (aP aa rfl rfl rfl rfl rfl rfl rfl rfl (WO.nil (qs (W.seq (W.region (pu (aI aa rfl rfl rfl rfl rfl rfl rfl rfl rfl) rfl ?_))))))
 refine pu (ah rfl rfl rfl (j7 [wK, aQ, bA, wV] (by decide)) rfl) rfl ?_
 refine pu (ah rfl rfl rfl ((j0 _)) rfl) rfl ?_
 refine pu (ah rfl rfl rfl ((cD _)) rfl) rfl ?_
 refine pu (ah rfl rfl rfl ((cD _)) rfl) rfl ?_
 refine pu (ah rfl rfl rfl ((cD _)) rfl) rfl ?_
 refine pu (aI aa rfl rfl rfl rfl rfl rfl rfl rfl rfl) rfl ?_
 refine pu (ah rfl rfl rfl ((j0 _)) rfl) rfl ?_
 refine pu (ah rfl rfl rfl ((cD _)) rfl) rfl ?_
 refine pu (ah rfl rfl rfl ((cD _)) rfl) rfl ?_
 refine pu (ah rfl rfl rfl ((cD _)) rfl) rfl ?_
 refine pu (aI aa rfl rfl rfl rfl rfl rfl rfl rfl rfl) rfl ?_
 refine pu (aI aa rfl rfl rfl rfl rfl rfl rfl rfl rfl) rfl ?_
 refine pu (build aa rfl rfl rfl rfl) rfl ?_
 refine a8 aa rfl rfl rfl (aP aa rfl rfl rfl rfl rfl rfl rfl rfl (WO.nil (qs (W.seq (W.region (pE rfl (pE rfl (pu (aI aa rfl rfl rfl rfl rfl rfl rfl rfl rfl) rfl ?_))))))))
 refine pu (ah rfl rfl rfl hov1 rfl) rfl ?_
 iterate 3 refine pE rfl ?_
 refine a8 aa rfl rfl rfl (aP aa rfl rfl rfl rfl rfl rfl rfl rfl (pE rfl (WO.nil (qs (W.seq (W.region (pE rfl (pE rfl (pu (pd rfl rfl rfl hov2 rfl) rfl ?_)))))))))
 iterate 3 refine pE rfl ?_
 refine a8 aa rfl rfl rfl (aP aa rfl rfl rfl rfl rfl rfl rfl rfl (pE rfl (WO.nil (qs (W.seq (W.fv aa 10 1 (by kernel_rfl) rfl rfl ?_))))))
 refine aZ rfl (ev aa rfl) rfl ?_
 refine aZ rfl (ev aa rfl) rfl ?_
 refine aZ rfl (ah rfl rfl rfl ((j0 _)) rfl) rfl ?_
 refine aZ rfl (ah rfl rfl rfl ((cD _)) rfl) rfl ?_
 refine aZ rfl (ah rfl rfl rfl ((cD _)) rfl) rfl ?_
 refine aZ rfl (ah rfl rfl rfl ((cD _)) rfl) rfl ?_
 refine aZ rfl (aI aa rfl rfl rfl rfl rfl rfl rfl rfl rfl) rfl ?_
 refine aZ rfl (aI aa rfl rfl rfl rfl rfl rfl rfl rfl rfl) rfl ?_
 refine aZ rfl (build aa rfl rfl rfl rfl) rfl ?_
 refine eD 0 rfl rfl rfl rfl rfl rfl ?_
 refine CE.nil ?_
 refine aP aa rfl rfl rfl rfl rfl rfl rfl rfl (WO.nil (qs (W.seq (W.region (pu (aI aa rfl rfl rfl rfl rfl rfl rfl rfl rfl) rfl ?_)))))
 refine pu (ah rfl rfl rfl (j7 [aQ] (by decide)) rfl) rfl ?_
 refine pu (aI aa rfl rfl rfl rfl rfl rfl rfl rfl rfl) rfl ?_
 refine pu (ah rfl rfl rfl (eF [7] (by decide)) rfl) rfl ?_
 refine pu (aI aa rfl rfl rfl rfl rfl rfl rfl rfl rfl) rfl ?_
 refine pu (ah rfl rfl rfl (eF [2] (by decide)) rfl) rfl ?_
 refine pu (aI aa rfl rfl rfl rfl rfl rfl rfl rfl rfl) rfl ?_
 refine pu (build aa rfl rfl rfl rfl) rfl ?_
 refine a8 aa rfl rfl rfl (aP aa rfl rfl rfl rfl rfl rfl rfl rfl (WO.nil (qs (W.seq (W.region (pu (aI aa rfl rfl rfl rfl rfl rfl rfl rfl rfl) rfl ?_))))))
 refine pu (ah rfl rfl rfl (j7 [aQ, wV] (by decide)) rfl) rfl ?_
 refine pu (aI aa rfl rfl rfl rfl rfl rfl rfl rfl rfl) rfl ?_
 refine pu (ah rfl rfl rfl (eF [3, 1] (by decide)) rfl) rfl ?_
 refine pu (aI aa rfl rfl rfl rfl rfl rfl rfl rfl rfl) rfl ?_
 refine pu (ah rfl rfl rfl (eF [5, 2] (by decide)) rfl) rfl ?_
 refine pu (aI aa rfl rfl rfl rfl rfl rfl rfl rfl rfl) rfl ?_
 refine pu (ah rfl rfl rfl (eF [5, 3] (by decide)) rfl) rfl ?_
 refine pu (aI aa rfl rfl rfl rfl rfl rfl rfl rfl rfl) rfl ?_
 refine pu (ah rfl rfl rfl (eF [9, 4] (by decide)) rfl) rfl ?_
 refine pu (aI aa rfl rfl rfl rfl rfl rfl rfl rfl rfl) rfl ?_
 refine pu (build aa rfl rfl rfl rfl) rfl ?_
 refine a8 aa rfl rfl rfl (aP aa rfl rfl rfl rfl rfl rfl rfl rfl (WO.nil (qs (W.seq (W.region (pE rfl (pE rfl (pu (pd rfl rfl rfl hne rfl) rfl ?_))))))))
 iterate 3 refine pE rfl ?_
 refine a8 aa rfl rfl rfl (aP aa rfl rfl rfl rfl rfl rfl rfl rfl (pE rfl (WO.nil (qs (W.seq (W.fv aa 10 1 (by kernel_rfl) rfl rfl ?_))))))
 refine aZ rfl (ev aa rfl) rfl ?_
 refine aZ rfl (ev aa rfl) rfl ?_
 refine aZ rfl (aI aa rfl rfl rfl rfl rfl rfl rfl rfl rfl) rfl ?_
 refine aZ rfl (ah rfl rfl rfl (eF [7, 3] (by decide)) rfl) rfl ?_
 refine aZ rfl (ah rfl rfl rfl ((cD _)) rfl) rfl ?_
 refine aZ rfl (build aa rfl rfl rfl rfl) rfl ?_
 refine aZ rfl (aI aa rfl rfl rfl rfl rfl rfl rfl rfl rfl) rfl ?_
 refine aZ rfl (aI aa rfl rfl rfl rfl rfl rfl rfl rfl rfl) rfl ?_
 refine aZ rfl (build aa rfl rfl rfl rfl) rfl ?_
 refine eD 0 rfl rfl rfl rfl rfl rfl ?_
 refine CE.nil ?_
 refine aP aa rfl rfl rfl rfl rfl rfl rfl rfl (WO.nil (qs (W.seq (W.region (pu (aI aa rfl rfl rfl rfl rfl rfl rfl rfl rfl) rfl ?_)))))
 refine pu (ah rfl rfl rfl (j7 [aQ, bA] (by decide)) rfl) rfl ?_
 refine pu (aI aa rfl rfl rfl rfl rfl rfl rfl rfl rfl) rfl ?_
 refine pu (ah rfl rfl rfl (eF [0, 3] (by decide)) rfl) rfl ?_
 refine pu (aI aa rfl rfl rfl rfl rfl rfl rfl rfl rfl) rfl ?_
 refine pu (ah rfl rfl rfl (eF [7, 9] (by decide)) rfl) rfl ?_
 refine pu (aI aa rfl rfl rfl rfl rfl rfl rfl rfl rfl) rfl ?_
 refine pu (ah rfl rfl rfl (eF [8, 8] (by decide)) rfl) rfl ?_
 refine pu (aI aa rfl rfl rfl rfl rfl rfl rfl rfl rfl) rfl ?_
 refine pu (ah rfl rfl rfl (eF [3, 5] (by decide)) rfl) rfl ?_
 refine pu (aI aa rfl rfl rfl rfl rfl rfl rfl rfl rfl) rfl ?_
 refine pu (build aa rfl rfl rfl rfl) rfl ?_
 refine a8 aa rfl rfl rfl (aP aa rfl rfl rfl rfl rfl rfl rfl rfl (WO.nil (qs (W.seq (W.region (pE rfl (pu (pd rfl rfl rfl hco rfl) rfl ?_)))))))
 iterate 3 refine pE rfl ?_
 refine a8 aa rfl rfl rfl (aP aa rfl rfl rfl rfl rfl rfl rfl rfl (pE rfl (WO.nil (qs (W.seq (W.fv aa 9 1 (by kernel_rfl) rfl rfl ?_))))))
 refine aZ rfl (ev aa rfl) rfl ?_
 refine aZ rfl (ev aa rfl) rfl ?_
 refine aZ rfl (aI aa rfl rfl rfl rfl rfl rfl rfl rfl rfl) rfl ?_
 refine aZ rfl (ah rfl rfl rfl (eF [0, 5] (by decide)) rfl) rfl ?_
 refine aZ rfl (aI aa rfl rfl rfl rfl rfl rfl rfl rfl rfl) rfl ?_
 refine aZ rfl (ah rfl rfl rfl (eF [7, 9] (by decide)) rfl) rfl ?_
 refine aZ rfl (aI aa rfl rfl rfl rfl rfl rfl rfl rfl rfl) rfl ?_
 refine aZ rfl (build aa rfl rfl rfl rfl) rfl ?_
 refine eD 0 rfl rfl rfl rfl rfl rfl ?_
 refine CE.nil ?_
 refine aP aa rfl rfl rfl rfl rfl rfl rfl rfl (WO.nil (qs (W.seq ?_)))
 apply aD; (case hb => rfl)
 ·
  refine pE rfl (pE rfl (pu (ah rfl rfl rfl (hs tW) rfl) rfl ?_))
  refine pE rfl ?_
  apply aw; (case hj => rfl); (case hl => rfl)
  ·
   refine ab rfl rfl (pE rfl (ab rfl rfl ?_))
   iterate 3 refine pE rfl ?_
   apply aw; (case hj => rfl); (case hl => rfl)
   ·
    refine ab rfl rfl (pE rfl (ab rfl rfl ?_))
    iterate 3 refine pE rfl ?_
    apply aw; (case hj => rfl); (case hl => rfl)
    ·
     refine ab rfl rfl (pE rfl (ab rfl rfl (pE rfl (ab rfl rfl (pu (ah rfl rfl rfl (hs tN) rfl) rfl ?_)))))
     iterate 2 refine pE rfl ?_
     apply aw; (case hj => rfl); (case hl => rfl)
     ·
      refine ab rfl rfl (pE rfl (ab rfl rfl ?_))
      iterate 3 refine pE rfl ?_
      apply aw; (case hj => rfl); (case hl => rfl)
      ·
       refine ab rfl rfl (pE rfl (ab rfl rfl (pE rfl (ab rfl rfl (pu (ah rfl rfl rfl (hs tU) rfl) rfl ?_)))))
       iterate 2 refine pE rfl ?_
       apply aw; (case hj => rfl); (case hl => rfl)
       ·
        refine ab rfl rfl (pE rfl (ab rfl rfl ?_))
        iterate 3 refine pE rfl ?_
        refine WO.nil (ay rfl rfl rfl)
       iterate 2 refine aq rfl rfl rfl rfl ?_
       iterate 2 refine pE rfl ?_
       refine WO.nil (ay rfl rfl rfl)
      iterate 3 refine aq rfl rfl rfl rfl ?_
      iterate 2 refine pE rfl ?_
      iterate 2 refine aq rfl rfl rfl rfl ?_
      iterate 2 refine pE rfl ?_
      refine WO.nil (ay rfl rfl rfl)
     iterate 2 refine aq rfl rfl rfl rfl ?_
     iterate 2 refine pE rfl ?_
     iterate 3 refine aq rfl rfl rfl rfl ?_
     iterate 2 refine pE rfl ?_
     iterate 2 refine aq rfl rfl rfl rfl ?_
     iterate 2 refine pE rfl ?_
     refine WO.nil (ay rfl rfl rfl)
    iterate 3 refine aq rfl rfl rfl rfl ?_
    iterate 2 refine pE rfl ?_
    iterate 2 refine aq rfl rfl rfl rfl ?_
    iterate 2 refine pE rfl ?_
    iterate 3 refine aq rfl rfl rfl rfl ?_
    iterate 2 refine pE rfl ?_
    iterate 2 refine aq rfl rfl rfl rfl ?_
    iterate 2 refine pE rfl ?_
    refine WO.nil (ay rfl rfl rfl)
   iterate 2 refine aq rfl rfl rfl rfl ?_
   iterate 2 refine pE rfl ?_
   iterate 3 refine aq rfl rfl rfl rfl ?_
   iterate 2 refine pE rfl ?_
   iterate 2 refine aq rfl rfl rfl rfl ?_
   iterate 2 refine pE rfl ?_
   iterate 3 refine aq rfl rfl rfl rfl ?_
   iterate 2 refine pE rfl ?_
   iterate 2 refine aq rfl rfl rfl rfl ?_
   iterate 2 refine pE rfl ?_
   refine WO.nil (ay rfl rfl rfl)
  iterate 2 refine aq rfl rfl rfl rfl ?_
  iterate 2 refine pE rfl ?_
  iterate 2 refine aq rfl rfl rfl rfl ?_
  iterate 2 refine pE rfl ?_
  iterate 3 refine aq rfl rfl rfl rfl ?_
  iterate 2 refine pE rfl ?_
  iterate 2 refine aq rfl rfl rfl rfl ?_
  iterate 2 refine pE rfl ?_
  iterate 3 refine aq rfl rfl rfl rfl ?_
  iterate 2 refine pE rfl ?_
  iterate 2 refine aq rfl rfl rfl rfl ?_
  iterate 2 refine pE rfl ?_
  refine WO.nil (ay rfl rfl rfl)
 refine qs (W.ret (QF.ao trivial rfl ?_))
 rfl
end Go.Proofs.YtjenenllmjlimaaGreat
namespace Go.Proofs.YtjenenllmjlimaaGreat
open Go.Ab Go.Tb
set_option maxRecDepth 10000
attribute [local irreducible] W WO Pu QS QB QL QF QV bR CH QE
theorem rP (op : Int) (on : List ByteArray) (a b : bt) (hon : on.length ≤ 400) (hop : op = 7 ∨ op = 8 ∨ op = 9) : ax Tryz.prog 28 [.ag a.c, .ag b.c, .d (.v (.int .i64 op)), .d (.sl (on.map sc))]
  (.tup [.d (.sl ((iS op on a b).1.map Col.c)), .d (.v (.int .i64 (iS op on a b).2))]) 0 := by
 have hfs : ∀ w, kW (dp op on w) := fun w => ⟨Nat.zero_le _, hon, Nat.zero_le _, Nat.zero_le _⟩
 refine ax.aR (n := 41) (ts := [8, 9]) Tryz.func28 (by kernel_rfl) rfl Tryz.ntmps28 Tryz.results28 rfl rfl fun C hC hG => ?_
 refine W.seq (W.region (bg rfl rfl rfl (bg rfl rfl rfl ?_)))
 iterate 2 refine pE rfl ?_
 refine WO.nil (qs (W.seq (W.region (pE rfl (pu (ah rfl rfl rfl (qa a) rfl) rfl ?_)))))
 refine pE rfl (WO.nil (qs ?_))
 iterate 2 refine W.seq ?_
 refine W.region ?_
 iterate 2 refine pE rfl ?_
 refine WO.nil (qs (ak rfl (fun h16 => ?_) (fun h16 => ?_)))
 ·
  have hc : bl a ≠ 0 := by simpa using h16
  have hg : iS op on a b = ([], bl a) := by unfold iS fR dJ; rw [if_pos hc, if_pos hc]; split <;> rfl
  refine W.seq (W.region ?_)
  iterate 3 refine pE rfl ?_
  refine WO.nil (qs ?_)
  try refine aG (d := 8) rfl rfl ?_
  refine W.ret (ae (QF.ao trivial rfl ?_))
  (rw [hg]; rfl)
 have hc : bl a = 0 := by simpa using h16
 have haz := dH hc
 refine W.skip (qs (W.seq (W.region ?_)))
 iterate 2 refine pE rfl ?_
 refine pu (build aa rfl rfl rfl rfl) rfl ?_
 try refine vH 20 rfl rfl rfl ?_
 refine a8 aa rfl rfl rfl (aP aa rfl rfl rfl rfl rfl rfl rfl rfl (WO.nil (qs (W.seq (W.region (pE rfl (WO.nil (qs ?_))))))))
 iterate 2 refine W.seq ?_
 refine aG (d := 12) rfl rfl ?_
 refine W.region ?_
 iterate 2 refine pE rfl ?_
 refine WO.nil (qs (ak rfl (fun h22 => ?_) (fun h22 => ?_)))
 ·
  have h9 : op ≠ 9 := by simpa using h22
  refine W.seq (W.region (pE rfl (pu (ah rfl rfl rfl (qa b) rfl) rfl ?_)))
  refine pE rfl (WO.nil (qs ?_))
  iterate 2 refine W.seq ?_
  refine W.region ?_
  iterate 2 refine pE rfl ?_
  refine WO.nil (qs (ak rfl (fun h26 => ?_) (fun h26 => ?_)))
  ·
   have hc2 : bl b ≠ 0 := by simpa using h26
   have hg : iS op on a b = ([], bl b) := by unfold iS dJ; rw [if_neg h9, if_neg (by simp [hc]), if_pos hc2]
   refine W.seq (W.region ?_)
   iterate 3 refine pE rfl ?_
   refine WO.nil (qs ?_)
   try refine aG (d := 8) rfl rfl ?_
   refine W.ret (ae (ae (QF.ao trivial rfl ?_)))
   (rw [hg]; rfl)
  have hc2 : bl b = 0 := by simpa using h26
  have hbz := dH hc2
  have hft : tg [⟨wB, b⟩] := fun x hx => by simp at hx; subst hx; show b.cols.length ≤ 1000; omega
  have hg : iS op on a b = dB [⟨wB, b⟩] a.cols (dp op on wB) := by unfold iS dJ; rw [if_neg h9, if_neg (by simp [hc]), if_neg (by simp [hc2])]
  have hst := ql [⟨wB, b⟩] a.cols (dp op on wB) (hfs wB) hft (by omega)
  refine W.skip (qs (W.seq (W.region (pE rfl (aP aa rfl rfl rfl rfl rfl rfl rfl rfl (WO.nil (qs (W.region (pE rfl (pE rfl (pu (build aa rfl rfl rfl rfl) rfl ?_)))))))))))
  try refine vH 31 rfl rfl rfl ?_
  refine pu (aI aa rfl rfl rfl rfl rfl rfl rfl rfl rfl) rfl ?_
  refine br (fn := gM.c) (l := []) (a := ⟨wB, b⟩) aa rfl rfl rfl rfl rfl rfl rfl rfl rfl rfl (fun _ => rfl) (by decide) ?_
  refine pE rfl (WO.nil (qs (W.seq (W.region ?_))))
  iterate 2 refine pE rfl ?_
  refine pE rfl (pE rfl (pu (ah rfl rfl rfl hst rfl) rfl ?_))
  iterate 4 refine pE rfl ?_
  refine WO.nil (qs ?_)
  try refine aG (d := 8) rfl rfl ?_
  refine W.ret (QF.ao trivial rfl ?_)
  (rw [hg]; rfl)
 have h9 : op = 9 := by simpa using h22
 have hg : iS op on a b = dB [] a.cols (dp op on (B #[])) := by unfold iS fR; rw [if_pos h9, if_neg (by simp [hc]), h9]
 have hst := ql [] a.cols (dp op on (B #[])) (hfs _) (fun x hx => by cases hx) (by omega)
 refine W.skip (qs (W.seq (W.region ?_)))
 iterate 2 refine pE rfl ?_
 refine pE rfl (pE rfl (pu (ah rfl rfl rfl hst rfl) rfl ?_))
 iterate 4 refine pE rfl ?_
 refine WO.nil (qs ?_)
 try refine aG (d := 8) rfl rfl ?_
 refine W.ret (QF.ao trivial rfl ?_)
 (rw [hg]; rfl)
theorem um (l : List ByteArray) (s : ByteArray) : ax Tryz.prog 51 [.d (.sl (l.map sc)), .d (.v (.string s))] (.d (.v (.bool (l.any fun x => decide (s = x))))) 0 := by
 refine ax.aR (n := 18) (ts := [4]) Tryz.func51 (by kernel_rfl) rfl Tryz.ntmps51 Tryz.results51 rfl rfl fun C hC hG => ?_
 refine W.seq (W.region (pE rfl (WO.nil (qs ?_))))
 iterate 2 refine W.seq ?_
 refine W.region (pE rfl (WO.nil (qs (W.block (W.len (t := 0) rfl rfl (fun hlen => ?_))))))
 try simp only [List.length_map, Ex.aF] at hlen
 refine W.aS (ι := {x : Nat // match x with | k => k ≤ l.length ∧ (l.drop k).any (fun x => decide (s = x)) = l.any fun x => decide (s = x)})
  (fun x => match x.1 with | k => [(5, .d (.v (.int .i64 ((k : Nat) : Int))))]) [(0, _), (1, _)]
  (fun x => match x.1 with | k => []) [] [] 0 (fun x => match x.1 with | k => l.length - k)
  [] ⟨0, ?_⟩ rfl ?_ ⟨rfl, rfl, rfl, rfl, trivial⟩ ?_ trivial rfl ?_
 · exact ⟨Nat.zero_le _, rfl⟩
 · repeat' first | exact trivial | refine ⟨rfl, ?_⟩
 · repeat' exact trivial
 rintro ⟨k, hk, hI⟩
 show W _ _ _ _ _ ⟨[(5, .d (.v (.int .i64 ((k : Nat) : Int)))), (0, _), (1, _)], [], [], 0⟩
 iterate 2 refine W.seq ?_
 refine W.region ?_
 iterate 4 refine pE rfl ?_
 refine WO.nil (qs (a9 (l := l) (k := k) rfl (by simp [Ex.aF, aH]) hk (fun x hx hd hlt => ?_) (fun he hd => ?_)))
 ·
  rw [hd, List.any_cons] at hI
  refine W.skip (qs (W.seq (W.block (W.seq (W.region ?_)))))
  iterate 2 refine pE rfl ?_
  refine pu (indexAddr aa rfl rfl rfl rfl rfl rfl (Int.natCast_nonneg _) (aB hx) rfl) rfl ?_
  refine pE rfl ?_
  iterate 2 refine pE rfl ?_
  refine WO.nil (qs (ak rfl (fun h17 => ?_) (fun h17 => ?_)))
  ·
   have hq : s = x := Eq.symm (by simpa using h17)
   have hg : (l.any fun x => decide (s = x)) = true := by rw [← hI, decide_eq_true hq]; rfl
   refine W.seq (W.region (pE rfl (WO.nil (qs (W.ret (au (ae (aY (au (ae (QF.ao trivial rfl ?_)))))))))))
   rw [hg]; rfl
  have hq : ¬ s = x := by intro q; simp [q] at h17
  rw [decide_eq_false hq, Bool.false_or] at hI
  refine W.skip (aW (qs (W.region ?_)))
  iterate 3 refine pE rfl ?_
  refine WO.nil (W.aT [] ⟨k + 1, ?_⟩ ?_ rfl ?_ ⟨rfl, rfl, rfl, rfl, trivial⟩ ?_ trivial rfl)
  · exact ⟨hlt, hI⟩
  · dsimp only; omega
  · repeat' first | exact trivial | refine ⟨aC (by assumption) (by assumption), ?_⟩
  repeat' exact trivial
 rw [hd, List.any_nil] at hI
 refine W.exit (aK (aN (aL (qs (W.seq (W.region (pE rfl (WO.nil (qs (W.ret (QF.ao trivial rfl ?_)))))))))))
 rw [← hI]; rfl
theorem mD (n : Int) : ax Tryz.prog 41 [.d (.v (.int .i64 n))] (.ag (b8 n).c) 0 := by
 refine ax.eQ aa (n := 5) (rs := [.cell 2 39]) Tryz.func41 (by kernel_rfl) rfl Tryz.ntmps41 Tryz.results41 rfl fun C hC hG => ?_
 refine W.seq (W.region (a8 aa rfl rfl rfl (WO.nil (qs (W.seq (W.region (pE rfl (pu (build aa rfl rfl rfl rfl) rfl ?_))))))))
 refine aP aa rfl rfl rfl rfl rfl rfl rfl rfl (WO.nil (qs (W.ret (QV.ao aa trivial rfl ?_))))
 rfl
theorem mW (t : bt) {s : ByteArray} {i : Nat} (h : cP t.cols s = some i) : ax Tryz.prog 49 [.ag t.c, .d (.v (.string s))] (.d (.v (.int .i64 ((i : Nat) : Int)))) 0 := by
 have := rV t s
 rw [show (t.cols.findIdx? fun x => decide (x.name = s)) = some i from h] at this
 exact this
theorem uU (t : bt) (r : List aM) (i j : Nat) (hci : cP t.cols aQ = some i) (hcj : cP t.cols bA = some j) (hi : i < r.length) (hj : j < r.length) : ax Tryz.prog 29 [.ag t.c, .d (.sl (r.map aM.c))]
  (.tup [.ag (if jL r i j = true then [ci (a7 r i).n, ci (a7 r j).n] else [ci 0, ci 0]), .d (.v (.bool (jL r i j)))]) 0 := by
 have hvi : r[i]? = some (a7 r i) := eE hi
 have hvj : r[j]? = some (a7 r j) := eE hj
 refine ax.eQ aa (n := 39) (rs := [.cell 4 51, .tmp 5]) Tryz.func29 (by kernel_rfl) rfl Tryz.ntmps29 Tryz.results29 rfl fun C hC hG => ?_
 refine W.seq (W.region (bg rfl rfl rfl (a8 aa rfl rfl rfl (pE rfl (WO.nil (qs (W.seq (W.fv aa 13 2 (by kernel_rfl) rfl rfl ?_))))))))
 refine aZ rfl (ev aa rfl) rfl ?_
 refine aZ rfl (ev aa rfl) rfl ?_
 refine aZ rfl (ah rfl rfl rfl (mW t hci) rfl) rfl ?_
 refine aZ rfl (indexAddr (l := (a7 r i).c) aa rfl rfl rfl rfl rfl rfl (Int.natCast_nonneg _) (aB hvi) rfl) rfl ?_
 refine aZ rfl (ev aa rfl) rfl ?_
 refine aZ rfl (ev aa rfl) rfl ?_
 refine aZ rfl (ev aa rfl) rfl ?_
 refine aZ rfl (ah rfl rfl rfl (mW t hcj) rfl) rfl ?_
 refine aZ rfl (indexAddr (l := (a7 r j).c) aa rfl rfl rfl rfl rfl rfl (Int.natCast_nonneg _) (aB hvj) rfl) rfl ?_
 refine aZ rfl (ev aa rfl) rfl ?_
 refine eD 0 rfl rfl rfl rfl rfl rfl ?_
 refine eD 1 rfl rfl rfl rfl rfl rfl ?_
 refine jS 10 0 rfl rfl rfl rfl rfl rfl rfl rfl rfl rfl rfl rfl ?_
 refine CE.nil ?_
 refine aP aa rfl rfl rfl rfl rfl rfl rfl rfl (WO.nil (qs ?_))
 iterate 2 refine W.seq ?_
 apply aD; (case hb => rfl)
 ·
  refine pE rfl (pE rfl ?_)
  iterate 2 refine pE rfl ?_
  apply aw; (case hj => rfl); (case hl => rfl)
  ·
   iterate 3 refine aq rfl rfl rfl rfl ?_
   iterate 2 refine pE rfl ?_
   iterate 5 refine aq rfl rfl rfl rfl ?_
   refine pE rfl (WO.nil (ay rfl rfl rfl))
  refine ab rfl rfl (pE rfl (ab rfl rfl (pE rfl (ab rfl rfl ?_))))
  iterate 3 refine pE rfl ?_
  apply aw; (case hj => rfl); (case hl => rfl)
  ·
   iterate 5 refine aq rfl rfl rfl rfl ?_
   refine pE rfl (WO.nil (ay rfl rfl rfl))
  refine ab rfl rfl (pE rfl (ab rfl rfl (pE rfl (ab rfl rfl (pE rfl (ab rfl rfl (pE rfl (ab rfl rfl ?_))))))))
  iterate 2 refine pE rfl ?_
  refine WO.nil (ay rfl rfl rfl)
 refine qs (ak rfl (fun h32 => ?_) (fun h32 => ?_))
 ·
  have hg : jL r i j = false := by
   revert h32
   unfold jL
   by_cases q1 : (a7 r i).kind = 0 <;> by_cases q2 : (a7 r j).kind = 0 <;> by_cases q3 : (a7 r i).n < (a7 r j).n <;> simp [q1, q2, q3]
  refine W.seq (W.region (pu (build aa rfl rfl rfl rfl) rfl ?_))
  refine aP aa rfl rfl rfl rfl rfl rfl rfl rfl (pE rfl (WO.nil (qs (W.ret (ae (QV.ao aa trivial rfl ?_))))))
  rw [hg]; rfl
 have hg : jL r i j = true := by
  revert h32
  unfold jL
  by_cases q1 : (a7 r i).kind = 0 <;> by_cases q2 : (a7 r j).kind = 0 <;> by_cases q3 : (a7 r i).n < (a7 r j).n <;> simp [q1, q2, q3]
 refine W.skip (qs (W.seq (W.region (pE rfl (pE rfl (pE rfl (pE rfl (pu (build aa rfl rfl rfl rfl) rfl ?_))))))))
 refine aP aa rfl rfl rfl rfl rfl rfl rfl rfl (pE rfl (WO.nil (qs (W.ret (QV.ao aa trivial rfl ?_)))))
 rw [hg]; rfl
theorem tf (t : bt) (row : List aM) (not : List ByteArray) (h : t.cols.length ≤ 100000) (hr : row = [] ∨ t.cols.length ≤ row.length) : ax Tryz.prog 32 [.ag t.c, .d (.sl (row.map aM.c)), .d (.sl (not.map sc))]
  (.d (.sl ((fW row not t.cols).map aM.c))) 0 := by
 refine ax.aR (n := 39) (ts := [6]) Tryz.func32 (by kernel_rfl) rfl Tryz.ntmps32 Tryz.results32 rfl rfl fun C hC hG => ?_
 refine W.seq (W.region (bg rfl rfl rfl (pE rfl (WO.nil (qs (W.seq (W.region (pE rfl (WO.nil (qs ?_))))))))))
 iterate 2 refine W.seq ?_
 refine W.region (pE rfl (WO.nil (qs (W.block (aG (d := 7) rfl rfl ?_)))))
 refine fu (g := 0) (j := 0) rfl rfl (fun hlen => ?_)
 rw [List.length_map] at hlen
 refine W.aS (ι := {x : Nat × List aM // match x with | (k, out) => k ≤ t.cols.length ∧ out = fW row not (t.cols.take k)})
  (fun x => match x.1 with | (k, out) => [(3, .ptr 0 0), (7, .own 1 (out.map aM.c)), (8, .d (.v (.int .i64 ((k : Nat) : Int))))]) [(1, _), (2, _)]
  (fun x => match x.1 with | (k, out) => [(0, t.c.map A.d)]) [] [1] 2 (fun x => match x.1 with | (k, out) => t.cols.length - k)
  [0, 1] ⟨(0, []), ?_⟩ rfl ?_ ⟨rfl, rfl, rfl, rfl, trivial⟩ ?_ trivial rfl ?_
 · exact ⟨Nat.zero_le _, rfl⟩
 · repeat' first | exact trivial | refine ⟨rfl, ?_⟩
 · repeat' first | exact trivial | refine ⟨rfl, ?_⟩
 rintro ⟨⟨k, out⟩, hk, hI⟩
 show W _ _ _ _ _ ⟨[(3, .ptr 0 0), (7, .own 1 (out.map aM.c)), (8, .d (.v (.int .i64 ((k : Nat) : Int)))), (1, _), (2, _)], [(0, t.c.map A.d)], [1], 2⟩
 iterate 2 refine W.seq ?_
 refine W.region ?_
 iterate 2 refine pE rfl ?_
 refine pE rfl ?_
 iterate 2 refine pE rfl ?_
 refine WO.nil (qs (a9 (l := t.cols) (k := k) rfl (by simp [Ex.aF, aH]) hk (fun c hx hd hlt => ?_) (fun he hd => ?_)))
 ·
  have hol : out.length ≤ k := by rw [hI]; unfold fW; rw [List.length_map]; have := im not (t.cols.take k) 0; simp at this; omega
  have hst := congrArg (List.map fun i => if 0 < row.length then a7 row i else dq) (lq not t.cols k 0 c hx)
  rw [List.map_append, Nat.zero_add] at hst
  have hst : fW row not (t.cols.take (k + 1)) = fW row not (t.cols.take k) ++ _ := hst
  rw [← hI] at hst
  refine W.skip (qs (W.seq (W.block ?_)))
  iterate 2 refine W.seq ?_
  refine W.region ?_
  iterate 2 refine pE rfl ?_
  refine pE rfl (pE rfl (pu (indexAddr aa rfl rfl rfl rfl rfl rfl (Int.natCast_nonneg _) (aB hx) rfl) rfl ?_))
  refine pE rfl (pE rfl (pu (ah rfl rfl rfl (um not c.name) rfl) rfl ?_))
  refine WO.nil (qs (ak rfl (fun h23 => ?_) (fun h23 => ?_)))
  ·
   have hq : not.any (fun x => decide (c.name = x)) = true := by simpa using h23
   rw [if_pos hq, List.map_nil, List.append_nil] at hst
   have hbr : not.any (fun x => decide (c.name = x)) = true := hq
   refine W.exit (aK (aL (qs (W.region ?_))))
   iterate 3 refine pE rfl ?_
   refine WO.nil (W.aT [0, 1] ⟨(k + 1, out), ?_⟩ ?_ rfl ?_ ⟨rfl, rfl, rfl, rfl, trivial⟩ ?_ trivial rfl)
   · exact ⟨hlt, hst.symm⟩
   · dsimp only; omega
   · repeat' first | exact trivial | refine ⟨rfl, ?_⟩ | refine ⟨aC (by assumption) (by assumption), ?_⟩
   repeat' first | exact trivial | refine ⟨rfl, ?_⟩
  have hq : not.any (fun x => decide (c.name = x)) = false := by simpa using h23
  rw [if_neg (by simp [hq])] at hst
  refine W.skip (qs (W.seq (W.region ?_)))
  iterate 3 refine pE rfl ?_
  refine WO.nil (qs (ak rfl (fun h26 => ?_) (fun h26 => ?_)))
  ·
   have hp : 0 < row.length := by simp at h26; omega
   have hrv : row[k]? = some (a7 row k) := eE (by rcases hr with h | h; (rw [h] at hp; exact absurd hp (by decide)); omega)
   have hst : fW row not (t.cols.take (k + 1)) = out ++ [a7 row k] := by rw [hst, List.map_singleton, if_pos hp]
   have hbr : 0 < row.length := hp
   refine W.region ?_
   iterate 3 refine pE rfl ?_
   refine pu (indexAddr aa rfl rfl rfl rfl rfl rfl (Int.natCast_nonneg _) (aB hrv) rfl) rfl ?_
   refine pE rfl (pu (aI aa rfl rfl rfl rfl rfl rfl rfl rfl rfl) rfl ?_)
   refine br (fn := aM.c) (a := a7 row k) aa rfl rfl rfl rfl rfl rfl rfl rfl rfl rfl (fun _ => rfl) (by show (out.length + 1) * 32 ≤ _; omega) ?_
   refine pE rfl (WO.nil (aW (qs (W.region ?_))))
   iterate 3 refine pE rfl ?_
   refine WO.nil ?_
   (have _hb : 0 < row.length := hbr; refine W.aT [0, 2] ⟨(k + 1, out ++ [a7 row k]), ?_⟩ ?_ rfl ?_ ⟨rfl, rfl, rfl, rfl, trivial⟩ ?_ trivial rfl)
   · exact ⟨hlt, hst.symm⟩
   · dsimp only; omega
   · repeat' first | exact trivial | refine ⟨rfl, ?_⟩ | refine ⟨aC (by assumption) (by assumption), ?_⟩
   repeat' first | exact trivial | refine ⟨rfl, ?_⟩
  have hp : ¬ 0 < row.length := by have q := of_decide_eq_false h26; simp only [List.length_map] at q; omega
  have hst : fW row not (t.cols.take (k + 1)) = out ++ [dq] := by rw [hst, List.map_singleton, if_neg hp]
  have hbr : ¬ 0 < row.length := hp
  refine W.region (pE rfl (pu (build aa rfl rfl rfl rfl) rfl ?_))
  refine pu (aI aa rfl rfl rfl rfl rfl rfl rfl rfl rfl) rfl ?_
  refine br (fn := aM.c) (a := dq) aa rfl rfl rfl rfl rfl rfl rfl rfl rfl rfl (fun _ => rfl) (by show (out.length + 1) * 32 ≤ _; omega) ?_
  refine pE rfl (WO.nil (aW (qs (W.region ?_))))
  iterate 3 refine pE rfl ?_
  refine WO.nil ?_
  (have _hb : ¬ 0 < row.length := hbr; refine W.aT [0, 2] ⟨(k + 1, out ++ [dq]), ?_⟩ ?_ rfl ?_ ⟨rfl, rfl, rfl, rfl, trivial⟩ ?_ trivial rfl)
  · exact ⟨hlt, hst.symm⟩
  · dsimp only; omega
  · repeat' first | exact trivial | refine ⟨rfl, ?_⟩ | refine ⟨aC (by assumption) (by assumption), ?_⟩
  repeat' first | exact trivial | refine ⟨rfl, ?_⟩
 have hfin : out = fW row not t.cols := by rw [hI, List.take_of_length_le (by have := congrArg List.length hd; simp at this; omega)]
 refine W.exit (aK (aN (aL (qs (W.seq (W.region ?_))))))
 iterate 2 refine pE rfl ?_
 refine WO.nil (qs (W.ret (QF.ao trivial rfl ?_)))
 simp only [norm, az]; rw [hfin]; rfl
end Go.Proofs.YtjenenllmjlimaaGreat
namespace Go.Proofs.YtjenenllmjlimaaGreat
open Go.Ab Go.Tb
set_option maxRecDepth 10000
attribute [local irreducible] W WO Pu QS QB QL QF QV bR CH QE
theorem uQ (a b : bt) (z y : List aM) (on : List ByteArray) (h : ∀ s ∈ on, ∃ i j, cP a.cols s = some i ∧ i < z.length ∧ cP b.cols s = some j ∧ j < y.length) : ax Tryz.prog 30 [.ag a.c, .ag b.c, .d (.sl (z.map aM.c)), .d (.sl (y.map aM.c)), .d (.sl (on.map sc))]
  (.d (.v (.bool (fh a.cols b.cols z y on)))) 0 := by
 refine ax.aR (n := 47) (ts := [10]) Tryz.func30 (by kernel_rfl) rfl Tryz.ntmps30 Tryz.results30 rfl rfl fun C hC hG => ?_
 refine W.seq (W.region (bg rfl rfl rfl (bg rfl rfl rfl (pE rfl (WO.nil (qs ?_))))))
 iterate 2 refine W.seq ?_
 refine W.region (pE rfl (WO.nil (qs (W.block (W.len (t := 4) rfl rfl (fun hlen => ?_))))))
 try simp only [List.length_map, Ex.aF] at hlen
 refine W.aS (ι := {x : Nat // match x with | k => k ≤ on.length ∧ fh a.cols b.cols z y (on.drop k) = fh a.cols b.cols z y on})
  (fun x => match x.1 with | k => [(5, .ptr 0 0), (6, .ptr 1 0), (11, .d (.v (.int .i64 ((k : Nat) : Int))))]) [(2, _), (3, _), (4, _)]
  (fun x => match x.1 with | k => [(0, a.c.map A.d), (1, b.c.map A.d)]) [] [] 2 (fun x => match x.1 with | k => on.length - k)
  [0, 1] ⟨0, ?_⟩ rfl ?_ ⟨rfl, rfl, rfl, rfl, rfl, rfl, trivial⟩ ?_ trivial rfl ?_
 · exact ⟨Nat.zero_le _, rfl⟩
 · repeat' first | exact trivial | refine ⟨rfl, ?_⟩
 · repeat' first | exact trivial | refine ⟨rfl, ?_⟩
 rintro ⟨k, hk, hI⟩
 show W _ _ _ _ _ ⟨[(5, .ptr 0 0), (6, .ptr 1 0), (11, .d (.v (.int .i64 ((k : Nat) : Int)))), (2, _), (3, _), (4, _)], [(0, a.c.map A.d), (1, b.c.map A.d)], [], 2⟩
 iterate 2 refine W.seq ?_
 refine W.region ?_
 iterate 4 refine pE rfl ?_
 refine WO.nil (qs (a9 (l := on) (k := k) rfl (by simp [Ex.aF, aH]) hk (fun s hx hd hlt => ?_) (fun he hd => ?_)))
 ·
  rw [hd] at hI
  obtain ⟨i, j, h1, h2, h3, h4⟩ := h s (List.mem_of_getElem? hx)
  have hI : (!decide ((a7 z (bM a.cols s)).kind = 0) && decide (dI (a7 z (bM a.cols s)) (a7 y (bM b.cols s)) = 0) && fh a.cols b.cols z y (on.drop (k + 1))) = fh a.cols b.cols z y on := hI
  rw [b7 h1, b7 h3] at hI
  have hvi := eE h2
  have hvj := eE h4
  refine W.skip (qs (W.seq (W.block (W.seq (W.fv aa 21 2 (by kernel_rfl) rfl rfl ?_)))))
  refine aZ rfl (ev aa rfl) rfl ?_
  refine aZ rfl (ev aa rfl) rfl ?_
  refine aZ rfl (ev aa rfl) rfl ?_
  refine aZ rfl (ev aa rfl) rfl ?_
  refine aZ rfl (indexAddr aa rfl rfl rfl rfl rfl rfl (Int.natCast_nonneg _) (aB hx) rfl) rfl ?_
  refine aZ rfl (ev aa rfl) rfl ?_
  refine aZ rfl (ah rfl rfl rfl (mW a h1) rfl) rfl ?_
  refine aZ rfl (indexAddr (l := (a7 z i).c) aa rfl rfl rfl rfl rfl rfl (Int.natCast_nonneg _) (aB hvi) rfl) rfl ?_
  refine aZ rfl (ev aa rfl) rfl ?_
  refine aZ rfl (ev aa rfl) rfl ?_
  refine aZ rfl (ev aa rfl) rfl ?_
  refine aZ rfl (ev aa rfl) rfl ?_
  refine aZ rfl (ev aa rfl) rfl ?_
  refine aZ rfl (indexAddr aa rfl rfl rfl rfl rfl rfl (Int.natCast_nonneg _) (aB hx) rfl) rfl ?_
  refine aZ rfl (ev aa rfl) rfl ?_
  refine aZ rfl (ah rfl rfl rfl (mW b h3) rfl) rfl ?_
  refine aZ rfl (indexAddr (l := (a7 y j).c) aa rfl rfl rfl rfl rfl rfl (Int.natCast_nonneg _) (aB hvj) rfl) rfl ?_
  refine aZ rfl (ev aa rfl) rfl ?_
  refine eD 0 rfl rfl rfl rfl rfl rfl ?_
  refine eD 1 rfl rfl rfl rfl rfl rfl ?_
  refine jS 18 0 rfl rfl rfl rfl rfl rfl rfl rfl rfl rfl rfl rfl ?_
  refine CE.nil ?_
  refine aP aa rfl rfl rfl rfl rfl rfl rfl rfl (WO.nil (qs (W.seq ?_)))
  apply aD; (case hb => rfl)
  ·
   refine pE rfl (pE rfl ?_)
   iterate 2 refine pE rfl ?_
   apply aw; (case hj => rfl); (case hl => rfl)
   ·
    iterate 4 refine aq rfl rfl rfl rfl ?_
    refine pE rfl (WO.nil (ay rfl rfl rfl))
   refine ab rfl rfl (pE rfl (ab rfl rfl (pE rfl (ab rfl rfl (pu (ah rfl rfl rfl (uC (a7 z i) (a7 y j)) rfl) rfl ?_)))))
   refine ab rfl rfl ?_
   iterate 2 refine pE rfl ?_
   refine WO.nil (ay rfl rfl rfl)
  refine qs (ak rfl (fun h46 => ?_) (fun h46 => ?_))
  ·
   have hg : fh a.cols b.cols z y on = false := by
    rw [← hI]
    revert h46
    by_cases q1 : (a7 z i).kind = 0 <;> by_cases q2 : dI (a7 z i) (a7 y j) = 0 <;> simp [q1, q2]
   refine W.seq (W.region (pE rfl (WO.nil (qs (W.ret (au (ae (aY (au (ae (QF.ao trivial rfl ?_)))))))))))
   rw [hg]; rfl
  have hn : fh a.cols b.cols z y (on.drop (k + 1)) = fh a.cols b.cols z y on := by
   rw [← hI]
   revert h46
   by_cases q1 : (a7 z i).kind = 0 <;> by_cases q2 : dI (a7 z i) (a7 y j) = 0 <;> simp [q1, q2]
  refine W.skip (aW (qs (W.region ?_)))
  iterate 3 refine pE rfl ?_
  refine WO.nil (W.aT [0, 1] ⟨k + 1, ?_⟩ ?_ rfl ?_ ⟨rfl, rfl, rfl, rfl, rfl, rfl, trivial⟩ ?_ trivial rfl)
  · exact ⟨hlt, hn⟩
  · dsimp only; omega
  · repeat' first | exact trivial | refine ⟨rfl, ?_⟩ | refine ⟨aC (by assumption) (by assumption), ?_⟩
  repeat' first | exact trivial | refine ⟨rfl, ?_⟩
 rw [hd] at hI
 have hg : fh a.cols b.cols z y on = true := hI.symm
 refine W.exit (aK (aN (aL (qs (W.seq (W.region (pE rfl (WO.nil (qs (W.ret (QF.ao trivial rfl ?_)))))))))))
 rw [hg]; rfl
theorem v5 (t : bt) (row : List aM) (i j : Nat) (f u : Int) (hci : cP t.cols aQ = some i) (hcj : cP t.cols bA = some j) (hi : i < row.length) (hj : j < row.length) (hl : row.length ≤ 100000) :
  ax Tryz.prog 31 [.ag t.c, .d (.sl (row.map aM.c)), .ag [ci f, ci u]] (.own 0 ((nT row i j f u).map aM.c)) 1 := by
 have hr0 : (row.map aM.c)[((i : Nat) : Int).toNat]? = some (a7 row i).c := aB (eE hi)
 have hr1 : ((row.set i (b8 f)).map aM.c)[((j : Nat) : Int).toNat]? = some (a7 (row.set i (b8 f)) j).c := aB (eE (by rw [List.length_set]; exact hj))
 refine ax.aR (n := 26) (ts := [6]) Tryz.func31 (by kernel_rfl) rfl Tryz.ntmps31 Tryz.results31 rfl rfl fun C hC hG => ?_
 refine W.seq (W.region (bg rfl rfl rfl (bg rfl rfl rfl (pE rfl (WO.nil (qs (W.seq (W.region (uz (es := []) aa rfl rfl rfl rfl rfl rfl rfl (fun x hx => nomatch hx) rfl ?_)))))))))
 refine pE rfl (gW (es2 := row.map aM.c) aa rfl rfl rfl rfl rfl rfl rfl rfl rfl rfl (List.nil_append _) (by rw [List.nil_append]; exact lp _) (by show (0 + (row.map aM.c).length) * 32 ≤ _; rw [List.length_map]; omega) rfl ?_)
 refine pE rfl (WO.nil (qs (W.seq (W.fv aa 6 0 (by kernel_rfl) rfl rfl ?_))))
 refine aZ rfl (ev aa rfl) rfl ?_
 refine aZ rfl (ev aa rfl) rfl ?_
 refine aZ rfl (ah rfl rfl rfl (mW t hci) rfl) rfl ?_
 refine aZ rfl (ev aa rfl) rfl ?_
 refine aZ rfl (ev aa rfl) rfl ?_
 refine aZ rfl (ah rfl rfl rfl ((mD _)) rfl) rfl ?_
 refine CE.nil ?_
 refine pu (eX (l := (a7 row i).c) aa rfl rfl rfl rfl rfl rfl (Int.natCast_nonneg _) hr0 rfl) rfl ?_
 refine kZ aa 7 rfl rfl rfl rfl hr0 rfl rfl rfl rfl rfl rfl (oI (v := b8 f) (a7 row i)) rfl ?_
 refine WO.nil (qs (W.seq (W.fv aa 6 0 (by kernel_rfl) rfl rfl ?_)))
 refine aZ rfl (ev aa rfl) rfl ?_
 refine aZ rfl (ev aa rfl) rfl ?_
 refine aZ rfl (ah rfl rfl rfl (mW t hcj) rfl) rfl ?_
 refine aZ rfl (ev aa rfl) rfl ?_
 refine aZ rfl (ev aa rfl) rfl ?_
 refine aZ rfl (ah rfl rfl rfl ((mD _)) rfl) rfl ?_
 refine CE.nil ?_
 refine pu (eX (l := (a7 (row.set i (b8 f)) j).c) aa rfl rfl rfl rfl rfl rfl (Int.natCast_nonneg _) hr1 rfl) rfl ?_
 refine kZ aa 7 rfl rfl rfl rfl hr1 rfl rfl rfl rfl rfl rfl (oI (v := b8 u) (a7 (row.set i (b8 f)) j)) rfl ?_
 refine WO.nil (qs (W.seq (mV 7 rfl rfl rfl rfl ?_)))
 refine W.region ?_
 iterate 2 refine pE rfl ?_
 refine WO.nil (qs (W.ret (QF.j6 6 trivial rfl (by simp) ?_)))
 rfl
end Go.Proofs.YtjenenllmjlimaaGreat
namespace Go.Proofs.YtjenenllmjlimaaGreat
open Go.Ab Go.Tb
set_option maxRecDepth 10000
attribute [local irreducible] W WO Pu QS QB QL QF QV bR CH QE
theorem ug (t : bt) (r : List aM) (i j : Nat) (hci : cP t.cols aQ = some i) (hcj : cP t.cols bA = some j) (hi : i < r.length) (hj : j < r.length) (he : jL r i j = bY r i j) :
  ∃ F U : Int, (bY r i j = true → F = (a7 r i).n ∧ U = (a7 r j).n) ∧ ax Tryz.prog 29 [.ag t.c, .d (.sl (r.map aM.c))] (.tup [.ag [ci F, ci U], .d (.v (.bool (bY r i j)))]) 0 := by
 have h := uU t r i j hci hcj hi hj
 rw [he] at h
 cases q : bY r i j with
 | true =>
  rw [q] at h
  exact ⟨_, _, fun _ => ⟨rfl, rfl⟩, h⟩
 | false =>
  rw [q] at h
  exact ⟨0, 0, (fun h => by cases h), h⟩
theorem rI (a b : bt) (on : List ByteArray) (hon : on.length ≤ 400) : ax Tryz.prog 9 [.ag a.c, .ag b.c, .d (.sl (on.map sc))]
  (.tup [.ag (cC a b on).1.c, .d (.v (.int .i64 (cC a b on).2))]) 0 := by
 have hcol := rP 7 on a b hon (.inl rfl)
 rw [show iS 7 on a b = dJ 7 on a b from rfl] at hcol
 obtain ⟨CT0, hCT⟩ : ∃ c, dJ 7 on a b = c := ⟨_, rfl⟩
 rw [hCT] at hcol
 refine ax.eQ aa (n := 137) (rs := [.cell 6 25, .tmp 7]) Tryz.func9 (by kernel_rfl) rfl Tryz.ntmps9 Tryz.results9 rfl fun C hC hG => ?_
 refine W.seq (W.region (bg rfl rfl rfl (bg rfl rfl rfl (a8 aa rfl rfl rfl (pE rfl (WO.nil (qs (W.seq (W.region (pE rfl (pE rfl (pE rfl (pu (ah rfl rfl rfl hcol rfl) rfl ?_)))))))))))))
 iterate 5 refine pE rfl ?_
 refine WO.nil (qs ?_)
 iterate 2 refine W.seq ?_
 refine W.region ?_
 iterate 2 refine pE rfl ?_
 refine WO.nil (qs (ak rfl (fun h27 => ?_) (fun h27 => ?_)))
 ·
  have he : CT0.2 ≠ 0 := by simpa using h27
  have hg : cC a b on = (fE, CT0.2) := by unfold cC; rw [hCT, if_pos he]
  refine W.seq (W.region (pu (build aa rfl rfl rfl rfl) rfl ?_))
  refine pE rfl (aP aa rfl rfl rfl rfl rfl rfl rfl rfl (pE rfl (WO.nil (qs ?_))))
  try refine cd 2 0 rfl rfl rfl ?_
  try refine cd 2 1 rfl rfl rfl ?_
  refine W.ret (ae (QV.ao aa trivial rfl ?_))
  (rw [hg]; rfl)
 have he : CT0.2 = 0 := by simpa using h27
 have hok := tY (.inl rfl) (by rw [hCT]; exact he)
 have hoo := xq hok
 have haz := dH hok.ga
 have hbz := dH hok.gb
 have hol := hok.len
 have hra := fK hok.ga
 have hrb := fK hok.gb
 have hlma : a.rows.length ≤ maxLen := by simp only [maxLen]; omega
 have hlmb : b.rows.length ≤ maxLen := by simp only [maxLen]; omega
 obtain ⟨o, ho⟩ : ∃ o, vY a b on = o := ⟨_, rfl⟩
 have hgo : cC a b on = (match fJ o b.rows a.rows [] with | none => (fE, 7) | some rows => (⟨CT0.1, rows⟩, 0)) := by unfold cC; rw [hCT, if_neg (by simp [he]), ho]; rfl
 have e7 : aO 7 = [aQ, bA] := rfl
 rw [e7] at hok
 obtain ⟨a0, ca0, ha0, ha0c, ha0t⟩ := hok.spa aQ (by simp)
 obtain ⟨a1, ca1, ha1, ha1c, ha1t⟩ := hok.spa bA (by simp)
 obtain ⟨b0, cb0, hb0, hb0c, hb0t⟩ := hok.spb aQ (by simp)
 obtain ⟨b1, cb1, hb1, hb1c, hb1t⟩ := hok.spb bA (by simp)
 have oa0 : o.m0 = a0 := by rw [← ho]; exact b7 ha0
 have oa1 : o.m1 = a1 := by rw [← ho]; exact b7 ha1
 have ob0 : o.t0 = b0 := by rw [← ho]; exact b7 hb0
 have ob1 : o.t1 = b1 := by rw [← ho]; exact b7 hb1
 rw [← oa0] at ha0 ha0c
 rw [← oa1] at ha1 ha1c
 rw [← ob0] at hb0 hb0c
 rw [← ob1] at hb1 hb1c
 have hagr : ∀ z ∈ a.rows, ∀ y ∈ b.rows, fh a.cols b.cols z y on = ep (bq z o.left) (bq y o.right) := fun z hz y hy => by
  rw [← ho]; exact pH hok.ga hok.gb hz hy hok.ons
 have hmore : cS ([aQ, bA] ++ on) b.cols 0 = o.more := by rw [sC, ← ho]; rfl
 rw [ho] at hoo
 refine W.skip (qs (W.seq (W.region (pE rfl (pu (build aa rfl rfl rfl rfl) rfl ?_)))))
 refine a8 aa rfl rfl rfl (aP aa rfl rfl rfl rfl rfl rfl rfl rfl (WO.nil (qs (W.seq (W.region (lg aa rfl rfl rfl rfl rfl rfl rfl rfl (by rfl) ?_))))))
 refine pE rfl (c8 (fn := sc) (l := [aQ, bA]) (l2 := on) aa rfl rfl rfl rfl rfl rfl rfl rfl rfl rfl (fun _ => rfl) (by show (2 + on.length) * 16 ≤ _; omega) ?_)
 refine pE rfl (WO.nil (qs ?_))
 iterate 2 refine W.seq ?_
 refine qu 11 rfl rfl ?_
 refine W.region (pE rfl (WO.nil (qs (W.block (eU 3 1 rfl rfl rfl ?_)))))
 refine W.aS (ι := {x : Nat × List (List aM) // match x with | (i, out) => i ≤ a.rows.length ∧ out.length ≤ 20000 ∧ fJ o b.rows (a.rows.drop i) out = fJ o b.rows a.rows []})
  (fun x => match x.1 with | (i, out) => [(3, .ptr 0 0), (4, .ptr 1 0), (6, .ptr 2 0), (10, .ptr 3 0), (12, .d (.v (.int .i64 ((i : Nat) : Int))))]) [(2, _), (11, _)]
  (fun x => match x.1 with | (i, out) => [(0, a.c.map A.d), (1, b.c.map A.d), (2, [.d (.v (.slice none 0 0)), .d (.v (.slice none 0 0))]), (3, [.d (.sl (CT0.1.map Col.c)), .own 4 (out.map rc)])]) [] [4] 5 (fun x => match x.1 with | (i, out) => a.rows.length - i)
  [0, 1, 2, 3, 6] ⟨(0, []), ?_⟩ rfl ?_ ⟨rfl, rfl, rfl, rfl, trivial⟩ ?_ trivial rfl ?_
 · exact ⟨Nat.zero_le _, Nat.zero_le _, rfl⟩
 · repeat' first | exact trivial | refine ⟨rfl, ?_⟩
 · repeat' first | exact trivial | refine ⟨rfl, ?_⟩
 rintro ⟨⟨i, out⟩, hk, hn, hI⟩
 show W _ _ _ _ _ ⟨[(3, .ptr 0 0), (4, .ptr 1 0), (6, .ptr 2 0), (10, .ptr 3 0), (12, .d (.v (.int .i64 ((i : Nat) : Int)))), (2, _), (11, _)], [(0, a.c.map A.d), (1, b.c.map A.d), (2, [.d (.v (.slice none 0 0)), .d (.v (.slice none 0 0))]), (3, [.d (.sl (CT0.1.map Col.c)), .own 4 (out.map rc)])], [4], 5⟩
 iterate 2 refine W.seq ?_
 refine W.region ?_
 iterate 2 refine pE rfl ?_
 refine pE rfl ?_
 iterate 2 refine pE rfl ?_
 refine WO.nil (qs (a9 (l := a.rows) (k := i) rfl (by simp [Ex.aF, aH]) hk (fun z hx hd hlt => ?_) (fun he hd => ?_)))
 ·
  rw [hd] at hI
  simp only [fJ] at hI
  have hzx := hx
  have hzlt := hlt
  have hxm := List.mem_of_getElem? hx
  have hxl := (hra z hxm).1
  have hzv0 := (lh hok.ga hxm ha0c).2
  have hzv1 := (lh hok.ga hxm ha1c).2
  rw [ha0t] at hzv0
  rw [ha1t] at hzv1
  obtain ⟨F, U, hFU, hsx⟩ := ug a z o.m0 o.m1 ha0 ha1 (by rw [hxl]; exact hoo.m0) (by rw [hxl]; exact hoo.m1) (rj hok.ga hxm ha0c ha1c ha0t ha1t)
  refine W.skip (qs (W.seq (W.block (W.seq (W.fv aa 12 1 (by kernel_rfl) rfl rfl ?_)))))
  refine aZ rfl (ev aa rfl) rfl ?_
  refine aZ rfl (ev aa rfl) rfl ?_
  refine aZ rfl (ev aa rfl) rfl ?_
  refine aZ rfl (ev aa rfl) rfl ?_
  refine aZ rfl (indexAddr aa rfl rfl rfl rfl rfl rfl (Int.natCast_nonneg _) (aB hx) rfl) rfl ?_
  refine aZ rfl (ev aa rfl) rfl ?_
  refine aZ rfl (ah rfl rfl rfl hsx rfl) rfl ?_
  refine aZ rfl (ev aa rfl) rfl ?_
  refine aZ rfl (ev aa rfl) rfl ?_
  refine aZ rfl (ev aa rfl) rfl ?_
  refine eD 0 rfl rfl rfl rfl rfl rfl ?_
  refine jS 10 0 rfl rfl rfl rfl rfl rfl rfl rfl rfl rfl rfl rfl ?_
  refine CE.nil ?_
  refine pE rfl (WO.nil (qs (W.seq (W.region (pE rfl (WO.nil (qs (W.block ?_))))))))
  refine W.aS (ι := {x : Nat × List (List aM) // match x with | (j, out2) => j ≤ b.rows.length ∧ out2.length ≤ 20000 ∧ (bY z o.m0 o.m1 = true → kv o z (b.rows.drop j) out2 = kv o z b.rows out) ∧ (bY z o.m0 o.m1 = false → out2 = out)})
   (fun x => match x.1 with | (j, out2) => [(3, .ptr 0 0), (4, .ptr 1 0), (6, .ptr 2 0), (10, .ptr 3 0), (13, .ptr 5 0), (15, .d (.v (.int .i64 ((j : Nat) : Int))))]) [(2, _), (11, _), (12, _), (14, _)]
   (fun x => match x.1 with | (j, out2) => [(0, a.c.map A.d), (1, b.c.map A.d), (2, [.d (.v (.slice none 0 0)), .d (.v (.slice none 0 0))]), (3, [.d (.sl (CT0.1.map Col.c)), .own 4 (out2.map rc)]), (5, [.d (ci F), .d (ci U)])]) [] [4] 6 (fun x => match x.1 with | (j, out2) => b.rows.length - j)
   [0, 1, 2, 3, 4, 5] ⟨(0, out), ?_⟩ rfl ?_ ⟨rfl, rfl, rfl, rfl, rfl, rfl, rfl, rfl, trivial⟩ ?_ trivial rfl ?_
  · exact ⟨Nat.zero_le _, hn, fun _ => rfl, fun _ => rfl⟩
  · repeat' first | exact trivial | refine ⟨rfl, ?_⟩
  · repeat' first | exact trivial | refine ⟨rfl, ?_⟩
  rintro ⟨⟨j, out2⟩, hk, hn2, hJ, hJ0⟩
  show W _ _ _ _ _ ⟨[(3, .ptr 0 0), (4, .ptr 1 0), (6, .ptr 2 0), (10, .ptr 3 0), (13, .ptr 5 0), (15, .d (.v (.int .i64 ((j : Nat) : Int)))), (2, _), (11, _), (12, _), (14, _)], [(0, a.c.map A.d), (1, b.c.map A.d), (2, [.d (.v (.slice none 0 0)), .d (.v (.slice none 0 0))]), (3, [.d (.sl (CT0.1.map Col.c)), .own 4 (out2.map rc)]), (5, [.d (ci F), .d (ci U)])], [4], 6⟩
  iterate 2 refine W.seq ?_
  apply aD; (case hb => rfl)
  ·
   iterate 2 refine pE rfl ?_
   refine pE rfl ?_
   iterate 3 refine pE rfl ?_
   apply aw; (case hj => rfl); (case hl => rfl)
   ·
    refine ab rfl rfl ?_
    iterate 2 refine pE rfl ?_
    refine WO.nil (ay rfl rfl rfl)
   refine aq rfl rfl rfl rfl (pE rfl (WO.nil (ay rfl rfl rfl)))
  refine qs (ak rfl (fun h59 => ?_) (fun h59 => ?_))
  ·
   have hsz : bY z o.m0 o.m1 = true ∧ j < b.rows.length := by
    revert h59
    by_cases q : (j : Int) < (b.rows.length : Int)
    · cases bY z o.m0 o.m1 <;> simp [q] <;> omega
    simp [q]
   obtain ⟨hsz, hlt⟩ := hsz
   obtain ⟨rfl, rfl⟩ := hFU hsz
   obtain ⟨y, hy⟩ : ∃ y, b.rows[j]? = some y := ⟨b.rows[j], by simp [hlt]⟩
   have hd2 : b.rows.drop j = y :: b.rows.drop (j + 1) := by
    have := List.drop_eq_getElem_cons hlt
    rw [this, (List.getElem?_eq_some_iff.1 hy).2]
   have hJ := hJ hsz
   rw [if_pos hsz] at hI
   rw [hd2] at hJ
   simp only [kv] at hJ
   have hym := List.mem_of_getElem? hy
   have hyl := (hrb y hym).1
   obtain ⟨G, V, hGV, hsy⟩ := ug b y o.t0 o.t1 hb0 hb1 (by rw [hyl]; exact hoo.t0) (by rw [hyl]; exact hoo.t1) (rj hok.gb hym hb0c hb1c hb0t hb1t)
   have hag := uQ a b z y on (fun s hs => by
    obtain ⟨i, j, c, d, h1, h2, h3, h4, _⟩ := hok.ons s hs
    exact ⟨i, j, h1, by rw [hxl]; exact (List.getElem?_eq_some_iff.1 h3).1, h2, by rw [hyl]; exact (List.getElem?_eq_some_iff.1 h4).1⟩)
   rw [hagr z hxm y hym] at hag
   refine W.skip (qs (W.seq (W.block (W.seq (W.fv aa 12 1 (by kernel_rfl) rfl rfl ?_)))))
   refine aZ rfl (ev aa rfl) rfl ?_
   refine aZ rfl (ev aa rfl) rfl ?_
   refine aZ rfl (ev aa rfl) rfl ?_
   refine aZ rfl (ev aa rfl) rfl ?_
   refine aZ rfl (indexAddr aa rfl rfl rfl rfl rfl rfl (Int.natCast_nonneg _) (aB hy) rfl) rfl ?_
   refine aZ rfl (ev aa rfl) rfl ?_
   refine aZ rfl (ah rfl rfl rfl hsy rfl) rfl ?_
   refine aZ rfl (ev aa rfl) rfl ?_
   refine aZ rfl (ev aa rfl) rfl ?_
   refine aZ rfl (ev aa rfl) rfl ?_
   refine eD 0 rfl rfl rfl rfl rfl rfl ?_
   refine jS 10 0 rfl rfl rfl rfl rfl rfl rfl rfl rfl rfl rfl rfl ?_
   refine CE.nil ?_
   refine pE rfl (WO.nil (qs (W.seq (W.region (pE rfl (pE rfl (pE rfl (pE rfl ?_))))))))
   iterate 2 refine pE rfl ?_
   refine pE rfl (pE rfl (pE rfl (pE rfl (pu (build aa rfl rfl rfl rfl) rfl ?_))))
   refine a8 aa rfl rfl rfl (aP aa rfl rfl rfl rfl rfl rfl rfl rfl (WO.nil (qs ?_)))
   iterate 2 refine W.seq ?_
   apply ia aa; (case hb => rfl); (case hB => kernel_rfl)
   ·
    iterate 3 refine an (ev aa rfl) rfl ?_
    apply dO; (case hj => rfl); (case hl => rfl)
    ·
     iterate 5 refine bG rfl rfl rfl rfl ?_
     iterate 2 refine an (ev aa rfl) rfl ?_
     iterate 15 refine bG rfl rfl rfl rfl ?_
     refine an (ev aa rfl) rfl ?_
     refine CH.nil ?_
     refine ay rfl rfl rfl
    refine aE rfl rfl (ev aa rfl) rfl ?_
    refine aE rfl rfl (ev aa rfl) rfl ?_
    refine aE rfl rfl (ev aa rfl) rfl ?_
    refine aE rfl rfl (ev aa rfl) rfl ?_
    refine aE rfl rfl (ev aa rfl) rfl ?_
    iterate 2 refine an (ev aa rfl) rfl ?_
    apply dO; (case hj => rfl); (case hl => rfl)
    ·
     iterate 15 refine bG rfl rfl rfl rfl ?_
     refine an (ev aa rfl) rfl ?_
     refine CH.nil ?_
     refine ay rfl rfl rfl
    refine aE rfl rfl (ev aa rfl) rfl ?_
    refine aE rfl rfl (ev aa rfl) rfl ?_
    refine aE rfl rfl (ev aa rfl) rfl ?_
    refine aE rfl rfl (ev aa rfl) rfl ?_
    refine aE rfl rfl (ev aa rfl) rfl ?_
    refine aE rfl rfl (indexAddr aa rfl rfl rfl rfl rfl rfl (Int.natCast_nonneg _) (aB hzx) rfl) rfl ?_
    refine aE rfl rfl (ev aa rfl) rfl ?_
    refine aE rfl rfl (ev aa rfl) rfl ?_
    refine aE rfl rfl (ev aa rfl) rfl ?_
    refine aE rfl rfl (ev aa rfl) rfl ?_
    refine aE rfl rfl (indexAddr aa rfl rfl rfl rfl rfl rfl (Int.natCast_nonneg _) (aB hy) rfl) rfl ?_
    refine aE rfl rfl (ev aa rfl) rfl ?_
    refine aE rfl rfl (ev aa rfl) rfl ?_
    refine aE rfl rfl (ah rfl rfl rfl hag rfl) rfl ?_
    refine aE rfl rfl (ev aa rfl) rfl ?_
    refine an (ev aa rfl) rfl ?_
    refine CH.nil ?_
    refine ay rfl rfl rfl
   refine qs (ak rfl (fun h108 => ?_) (fun h108 => ?_))
   ·
    have hbr : fF o z y = false := by
     revert h108
     unfold fF kK lZ
     cases q : bY y o.t0 o.t1 with
     | false => intro _; rfl
     | true =>
      obtain ⟨rfl, rfl⟩ := hGV q
      cases ep (bq z o.left) (bq y o.right) <;> simp
    rw [if_neg (by simp [hbr])] at hJ
    refine W.exit (aK (aL (qs (W.region ?_))))
    iterate 3 refine pE rfl ?_
    refine WO.nil ?_
    (have _hb : fF o z y = false := hbr; refine W.aT [0, 1, 2, 3, 4, 5] ⟨(j + 1, out2), ?_⟩ ?_ rfl ?_ ⟨rfl, rfl, rfl, rfl, rfl, rfl, rfl, rfl, trivial⟩ ?_ trivial rfl)
    · exact ⟨hlt, (by first | exact hn2 | (rw [List.length_append]; simp; omega)), (fun _ => hJ), (fun h => by rw [hsz] at h; cases h)⟩
    · dsimp only; omega
    · repeat' first | exact trivial | refine ⟨rfl, ?_⟩ | refine ⟨aC (by assumption) (by assumption), ?_⟩
    repeat' first | exact trivial | refine ⟨rfl, ?_⟩
   have hmt : fF o z y = true := by
    revert h108
    unfold fF kK lZ
    cases q : bY y o.t0 o.t1 with
    | false => intro h; simp at h
    | true =>
     obtain ⟨rfl, rfl⟩ := hGV q
     cases ep (bq z o.left) (bq y o.right) <;> simp
   have hsy2 : bY y o.t0 o.t1 = true := by
    unfold fF at hmt
    simp only [Bool.and_eq_true] at hmt
    exact hmt.1
   obtain ⟨rfl, rfl⟩ := hGV hsy2
   rw [if_pos hmt] at hJ
   refine W.skip (qs ?_)
   iterate 2 refine W.seq ?_
   refine W.region (pE rfl (pE rfl ?_))
   iterate 2 refine pE rfl ?_
   refine WO.nil (qs (ak rfl (fun h112 => ?_) (fun h112 => ?_)))
   ·
    have hq : out2.length = 20000 := by simp at h112; omega
    rw [if_pos hq] at hJ
    have hg : cC a b on = (fE, 7) := by
     rw [← hJ] at hI
     rw [hgo, ← hI]
    refine W.seq (W.region (pu (build aa rfl rfl rfl rfl) rfl ?_))
    refine aP aa rfl rfl rfl rfl rfl rfl rfl rfl (pE rfl (WO.nil (qs ?_)))
    try refine cd 2 0 rfl rfl rfl ?_
    try refine cd 2 1 rfl rfl rfl ?_
    refine W.ret (ae (au (ae (aY (au (au (ae (aY (au (ae (QV.ao aa trivial rfl ?_)))))))))))
    (rw [hg]; rfl)
   have hq : ¬ out2.length = 20000 := by simp at h112; omega
   rw [if_neg hq] at hJ
   have hcutf := v5 a z o.m0 o.m1 (kK o z y) (lZ o z y) ha0 ha1 (by rw [hxl]; exact hoo.m0) (by rw [hxl]; exact hoo.m1) (by omega)
   have hothf := tf b y ([aQ, bA] ++ on) (by omega) (.inr (by omega))
   rw [sU (by rw [hyl]; have := hoo.t0; omega), hmore] at hothf
   have hz2 : (a7 z o.m0).kind = 2 ∧ (a7 z o.m1).kind = 2 := by
    unfold bY at hsz
    simp only [Bool.and_eq_true, decide_eq_true_eq] at hsz
    exact ⟨hsz.1, hsz.2.1⟩
   have hrow : nU o z y = nT z o.m0 o.m1 (kK o z y) (lZ o z y) ++ bq y o.more := by
    unfold nU
    exact vB (by rw [hxl]; exact hoo.m0) (by rw [hxl]; exact hoo.m1) hz2.1 (vL hzv0 hz2.1) hz2.2 (vL hzv1 hz2.2)
   have hcl : (nT z o.m0 o.m1 (kK o z y) (lZ o z y)).length = z.length := by unfold nT; rw [List.length_set, List.length_set]
   have hpl : (bq y o.more).length ≤ 32 := by
    show (o.more.map _).length ≤ 32
    rw [List.length_map, ← hmore]
    have := im ([aQ, bA] ++ on) b.cols 0
    omega
   have hbr : fF o z y = true ∨ False := .inl hmt
   refine W.skip (qs ?_)
   refine' W.fq aa [_, _] [[8, 4], [9, 4], [10, 9]] [9, 10, 11] [9, 18] 20 (by kernel_rfl) (by kernel_rfl) rfl rfl ?hL_1
   case' hL_1 => skip
   refine' aU (ev aa rfl) ?p_2 rfl rfl rfl (by kernel_rfl) rfl ?h_2
   case' h_2 => skip
   refine' aU (ev aa rfl) ?p_3 rfl rfl rfl (by kernel_rfl) rfl ?h_3
   case' h_3 => skip
   refine' aU (ev aa rfl) ?p_4 rfl rfl rfl (by kernel_rfl) rfl ?h_4
   case' h_4 => skip
   refine' aU (ev aa rfl) ?p_5 rfl rfl rfl (by kernel_rfl) rfl ?h_5
   case' h_5 => skip
   refine' aU (ev aa rfl) ?p_6 rfl rfl rfl (by kernel_rfl) rfl ?h_6
   case' h_6 => skip
   refine' aU (ev aa rfl) ?p_7 rfl rfl rfl (by kernel_rfl) rfl ?h_7
   case' h_7 => skip
   refine' aU (indexAddr aa rfl rfl rfl rfl rfl rfl (Int.natCast_nonneg _) (aB hzx) rfl) ?p_8 rfl rfl rfl (by kernel_rfl) rfl ?h_8
   case' h_8 => skip
   refine' aU (ev aa rfl) ?p_9 rfl rfl rfl (by kernel_rfl) rfl ?h_9
   case' h_9 => skip
   refine' aU (ev aa rfl) ?p_10 rfl rfl rfl (by kernel_rfl) rfl ?h_10
   case' h_10 => skip
   refine' kH ?x_11 rfl rfl rfl (by kernel_rfl) (fun h => (ar h (by kernel_rfl)).elim) rfl ?h_11
   case x_11 =>
    intro b hb g; cases b
    · exact (ar hb (by kernel_rfl)).elim
    refine e6 rfl rfl rfl (hcutf) (by rfl) rfl rfl ?_
    refine WO.nil ?_
    refine' iI rfl ?_ ?_ ?_ ?_
    all_goals try exact rfl
   case' h_11 => skip
   refine' aU (ev aa rfl) ?p_12 rfl rfl rfl (by kernel_rfl) rfl ?h_12
   case' h_12 => skip
   refine' aU (ev aa rfl) ?p_13 rfl rfl rfl (by kernel_rfl) rfl ?h_13
   case' h_13 => skip
   refine' aU (ev aa rfl) ?p_14 rfl rfl rfl (by kernel_rfl) rfl ?h_14
   case' h_14 => skip
   refine' aU (ev aa rfl) ?p_15 rfl rfl rfl (by kernel_rfl) rfl ?h_15
   case' h_15 => skip
   refine' aU (indexAddr aa rfl rfl rfl rfl rfl rfl (Int.natCast_nonneg _) (aB hy) rfl) ?p_16 rfl rfl rfl (by kernel_rfl) rfl ?h_16
   case' h_16 => skip
   refine' aU (ev aa rfl) ?p_17 rfl rfl rfl (by kernel_rfl) rfl ?h_17
   case' h_17 => skip
   refine' aU (ev aa rfl) ?p_18 rfl rfl rfl (by kernel_rfl) rfl ?h_18
   case' h_18 => skip
   refine' aU (ah rfl rfl rfl hothf rfl) ?p_19 rfl rfl rfl (by kernel_rfl) rfl ?h_19
   case' h_19 => skip
   refine' kH ?x_20 rfl rfl rfl (by kernel_rfl) (fun h => (ar h (by kernel_rfl)).elim) rfl ?h_20
   case x_20 =>
    intro b hb g; cases b
    · exact (ar hb (by kernel_rfl)).elim
    refine c8 (fn := aM.c) (l := nT z o.m0 o.m1 (kK o z y) (lZ o z y)) (l2 := bq y o.more) aa rfl rfl rfl rfl rfl rfl rfl rfl rfl rfl (fun _ => rfl) (by show (_ + _) * 32 ≤ _; omega) ?_
    refine WO.nil ?_
    refine' iI rfl ?_ ?_ ?_ ?_
    all_goals try exact rfl
   case' h_20 => skip
   case p_2 => refine ⟨fun ha => (ar ha (by kernel_rfl)).elim, ?_, fun ha => (ar ha (by kernel_rfl)).elim, ?_, fun ha => (ar ha (by kernel_rfl)).elim, ?_⟩ <;> intro ha <;> first | exact ⟨ev aa rfl, fun h => nomatch h⟩ | exact (ar ha (by kernel_rfl)).elim
   case p_3 => refine ⟨fun ha => (ar ha (by kernel_rfl)).elim, ?_, fun ha => (ar ha (by kernel_rfl)).elim, ?_, fun ha => (ar ha (by kernel_rfl)).elim, ?_⟩ <;> intro ha <;> first | exact ⟨ev aa rfl, fun h => nomatch h⟩ | exact ⟨bT aa rfl rfl rfl rfl, fun h => nomatch h⟩ | exact ⟨bU aa rfl rfl rfl rfl rfl, fun h => nomatch h⟩ | exact (ar ha (by kernel_rfl)).elim
   case p_4 => refine ⟨fun ha => (ar ha (by kernel_rfl)).elim, ?_, fun ha => (ar ha (by kernel_rfl)).elim, ?_, fun ha => (ar ha (by kernel_rfl)).elim, ?_⟩ <;> intro ha <;> first | exact ⟨ev aa rfl, fun h => nomatch h⟩ | exact ⟨bT aa rfl rfl rfl rfl, fun h => nomatch h⟩ | exact ⟨bU aa rfl rfl rfl rfl rfl, fun h => nomatch h⟩ | exact (ar ha (by kernel_rfl)).elim
   case p_5 => refine ⟨fun ha => (ar ha (by kernel_rfl)).elim, ?_, fun ha => (ar ha (by kernel_rfl)).elim, ?_, fun ha => (ar ha (by kernel_rfl)).elim, ?_⟩ <;> intro ha <;> first | exact ⟨ev aa rfl, fun h => nomatch h⟩ | exact (ar ha (by kernel_rfl)).elim
   case p_6 => refine ⟨fun ha => (ar ha (by kernel_rfl)).elim, ?_, fun ha => (ar ha (by kernel_rfl)).elim, ?_, fun ha => (ar ha (by kernel_rfl)).elim, ?_⟩ <;> intro ha <;> first | exact ⟨ev aa rfl, fun h => nomatch h⟩ | exact ⟨bT aa rfl rfl rfl rfl, fun h => nomatch h⟩ | exact ⟨bU aa rfl rfl rfl rfl rfl, fun h => nomatch h⟩ | exact (ar ha (by kernel_rfl)).elim
   case p_7 => refine ⟨fun ha => (ar ha (by kernel_rfl)).elim, ?_, fun ha => (ar ha (by kernel_rfl)).elim, ?_, fun ha => (ar ha (by kernel_rfl)).elim, ?_⟩ <;> intro ha <;> first | exact ⟨ev aa rfl, fun h => nomatch h⟩ | exact (ar ha (by kernel_rfl)).elim
   case p_8 => refine ⟨fun ha => (ar ha (by kernel_rfl)).elim, ?_, fun ha => (ar ha (by kernel_rfl)).elim, ?_, fun ha => (ar ha (by kernel_rfl)).elim, ?_⟩ <;> intro ha <;> first | exact ⟨indexAddr aa rfl rfl rfl rfl rfl rfl (Int.natCast_nonneg _) (aB hzx) rfl, fun h => nomatch h⟩ | exact (ar ha (by kernel_rfl)).elim
   case p_9 => refine ⟨fun ha => (ar ha (by kernel_rfl)).elim, ?_, fun ha => (ar ha (by kernel_rfl)).elim, ?_, fun ha => (ar ha (by kernel_rfl)).elim, ?_⟩ <;> intro ha <;> first | exact ⟨ev aa rfl, fun h => nomatch h⟩ | exact ⟨bT aa rfl rfl rfl rfl, fun h => nomatch h⟩ | exact ⟨bU aa rfl rfl rfl rfl rfl, fun h => nomatch h⟩ | exact (ar ha (by kernel_rfl)).elim
   case p_10 => refine ⟨fun ha => (ar ha (by kernel_rfl)).elim, ?_, fun ha => (ar ha (by kernel_rfl)).elim, ?_, fun ha => (ar ha (by kernel_rfl)).elim, ?_⟩ <;> intro ha <;> first | exact ⟨ev aa rfl, fun h => nomatch h⟩ | exact ⟨bT aa rfl rfl rfl rfl, fun h => nomatch h⟩ | exact ⟨bU aa rfl rfl rfl rfl rfl, fun h => nomatch h⟩ | exact (ar ha (by kernel_rfl)).elim
   case p_12 => refine ⟨fun ha => (ar ha (by kernel_rfl)).elim, ?_, fun ha => (ar ha (by kernel_rfl)).elim, ?_, fun ha => (ar ha (by kernel_rfl)).elim, ?_⟩ <;> intro ha <;> first | exact ⟨ev aa rfl, fun h => nomatch h⟩ | exact ⟨bT aa rfl rfl rfl rfl, fun h => nomatch h⟩ | exact ⟨bU aa rfl rfl rfl rfl rfl, fun h => nomatch h⟩ | exact (ar ha (by kernel_rfl)).elim
   case p_13 => refine ⟨fun ha => (ar ha (by kernel_rfl)).elim, ?_, fun ha => (ar ha (by kernel_rfl)).elim, ?_, fun ha => (ar ha (by kernel_rfl)).elim, ?_⟩ <;> intro ha <;> first | exact ⟨ev aa rfl, fun h => nomatch h⟩ | exact (ar ha (by kernel_rfl)).elim
   case p_14 => refine ⟨fun ha => (ar ha (by kernel_rfl)).elim, ?_, fun ha => (ar ha (by kernel_rfl)).elim, ?_, fun ha => (ar ha (by kernel_rfl)).elim, ?_⟩ <;> intro ha <;> first | exact ⟨ev aa rfl, fun h => nomatch h⟩ | exact ⟨bT aa rfl rfl rfl rfl, fun h => nomatch h⟩ | exact ⟨bU aa rfl rfl rfl rfl rfl, fun h => nomatch h⟩ | exact (ar ha (by kernel_rfl)).elim
   case p_15 => refine ⟨fun ha => (ar ha (by kernel_rfl)).elim, ?_, fun ha => (ar ha (by kernel_rfl)).elim, ?_, fun ha => (ar ha (by kernel_rfl)).elim, ?_⟩ <;> intro ha <;> first | exact ⟨ev aa rfl, fun h => nomatch h⟩ | exact (ar ha (by kernel_rfl)).elim
   case p_16 => refine ⟨fun ha => (ar ha (by kernel_rfl)).elim, ?_, fun ha => (ar ha (by kernel_rfl)).elim, ?_, fun ha => (ar ha (by kernel_rfl)).elim, ?_⟩ <;> intro ha <;> first | exact ⟨indexAddr aa rfl rfl rfl rfl rfl rfl (Int.natCast_nonneg _) (aB hy) rfl, fun h => nomatch h⟩ | exact (ar ha (by kernel_rfl)).elim
   case p_17 => refine ⟨fun ha => (ar ha (by kernel_rfl)).elim, ?_, fun ha => (ar ha (by kernel_rfl)).elim, ?_, fun ha => (ar ha (by kernel_rfl)).elim, ?_⟩ <;> intro ha <;> first | exact ⟨ev aa rfl, fun h => nomatch h⟩ | exact ⟨bT aa rfl rfl rfl rfl, fun h => nomatch h⟩ | exact ⟨bU aa rfl rfl rfl rfl rfl, fun h => nomatch h⟩ | exact (ar ha (by kernel_rfl)).elim
   case p_18 => refine ⟨fun ha => (ar ha (by kernel_rfl)).elim, ?_, fun ha => (ar ha (by kernel_rfl)).elim, ?_, fun ha => (ar ha (by kernel_rfl)).elim, ?_⟩ <;> intro ha <;> first | exact ⟨ev aa rfl, fun h => nomatch h⟩ | exact (ar ha (by kernel_rfl)).elim
   case p_19 => refine ⟨fun ha => (ar ha (by kernel_rfl)).elim, ?_, fun ha => (ar ha (by kernel_rfl)).elim, ?_, fun ha => (ar ha (by kernel_rfl)).elim, ?_⟩ <;> intro ha <;> first | exact ⟨ah rfl rfl rfl hothf rfl, fun h => nomatch h⟩ | exact (ar ha (by kernel_rfl)).elim
   refine' aU (aI aa rfl rfl rfl rfl rfl rfl rfl rfl rfl) ?p_21 rfl rfl rfl (by kernel_rfl) rfl ?h_21
   case' h_21 => skip
   case p_21 => refine ⟨fun ha => (ar ha (by kernel_rfl)).elim, ?_, fun ha => (ar ha (by kernel_rfl)).elim, ?_, fun ha => (ar ha (by kernel_rfl)).elim, ?_⟩ <;> intro ha <;> first | exact ⟨aI aa rfl rfl rfl rfl rfl rfl rfl rfl rfl, fun h => nomatch h⟩ | exact (ar ha (by kernel_rfl)).elim
   refine CD.nil ?_ rfl
   refine br (fn := rc) (a := nU o z y) aa rfl rfl (by rw [hrow]; rfl) rfl rfl rfl rfl rfl rfl rfl (fun _ => rfl) (by show (out2.length + 1) * 24 ≤ _; omega) ?_
   refine pE rfl (aP aa rfl rfl rfl rfl rfl rfl rfl rfl (WO.nil (aW (qs (W.region ?_)))))
   iterate 3 refine pE rfl ?_
   refine WO.nil ?_
   (have _hb : fF o z y = true ∨ False := hbr; refine W.aT [0, 1, 2, 3, 10, 5] ⟨(j + 1, out2 ++ [nU o z y]), ?_⟩ ?_ rfl ?_ ⟨rfl, rfl, rfl, rfl, rfl, rfl, rfl, rfl, trivial⟩ ?_ trivial rfl)
   · exact ⟨hlt, (by first | exact hn2 | (rw [List.length_append]; simp; omega)), (fun _ => hJ), (fun h => by rw [hsz] at h; cases h)⟩
   · dsimp only; omega
   · repeat' first | exact trivial | refine ⟨rfl, ?_⟩ | refine ⟨aC (by assumption) (by assumption), ?_⟩
   repeat' first | exact trivial | refine ⟨rfl, ?_⟩
  have hfin : (bY z o.m0 o.m1 = true ∧ b.rows.drop j = []) ∨ bY z o.m0 o.m1 = false := by
   revert h59
   cases bY z o.m0 o.m1
   · intro _; exact .inr rfl
   intro h; left
   refine ⟨rfl, List.drop_eq_nil_of_le ?_⟩
   simp at h; omega
  have hI2 : fJ o b.rows (a.rows.drop (i + 1)) out2 = fJ o b.rows a.rows [] := by
   rcases hfin with ⟨h1, h2⟩ | h1
   ·
    have := hJ h1
    rw [h2] at this
    simp only [kv] at this
    rw [if_pos h1, ← this] at hI
    exact hI
   rw [if_neg (by simp [h1])] at hI
   rw [hJ0 h1]; exact hI
  refine W.exit (aK (aN (aL (aW (qs (W.region ?_))))))
  iterate 3 refine pE rfl ?_
  refine WO.nil (W.aT [0, 1, 2, 3, 4] ⟨(i + 1, out2), ?_⟩ ?_ rfl ?_ ⟨rfl, rfl, rfl, rfl, trivial⟩ ?_ trivial rfl)
  · exact ⟨hzlt, hn2, hI2⟩
  · dsimp only; omega
  · repeat' first | exact trivial | refine ⟨rfl, ?_⟩ | refine ⟨aC (by assumption) (by assumption), ?_⟩
  repeat' first | exact trivial | refine ⟨rfl, ?_⟩
 rw [hd] at hI
 simp only [fJ] at hI
 have hg : cC a b on = (⟨CT0.1, out⟩, 0) := by rw [hgo, ← hI]
 refine W.exit (aK (aN (aL (qs (W.seq (W.region (pE rfl (aP aa rfl rfl rfl rfl rfl rfl rfl rfl (pE rfl (WO.nil (qs ?_)))))))))))
 try refine cd 2 0 rfl rfl rfl ?_
 try refine cd 2 1 rfl rfl rfl ?_
 refine W.ret (QV.ao aa trivial rfl ?_)
 (rw [hg]; rfl)
end Go.Proofs.YtjenenllmjlimaaGreat
namespace Go.Proofs.YtjenenllmjlimaaGreat
open Go.Ab Go.Tb
set_option maxRecDepth 10000
attribute [local irreducible] W WO Pu QS QB QL QF QV bR CH QE
theorem rR (a b : bt) (on : List ByteArray) : ax Tryz.prog 3 [.ag a.c, .ag b.c, .d (.sl (on.map sc))] (.d (.v (.bool true))) 0 := by
 have hs : ∀ t : bt, ax Tryz.prog 10 [.ag t.c, .ag t.c] (.d (.v (.bool true))) 0 := fun t => by have := qU t t; rw [decide_eq_true (rfl : t = t)] at this; exact this
 refine ax.aR (n := 42) (ts := [6]) Tryz.func3 (by kernel_rfl) rfl Tryz.ntmps3 Tryz.results3 rfl rfl fun C hC hG => ?_
 refine W.seq (W.region (bg rfl rfl rfl (bg rfl rfl rfl (pE rfl (WO.nil (qs ?_))))))
 iterate 2 refine W.seq ?_
 refine W.region (pE rfl (pE rfl (pE rfl (pu (ah rfl rfl rfl (v9 a b on) rfl) rfl ?_))))
 refine pE rfl (WO.nil (qs (ak rfl (fun h15 => ?_) (fun h15 => ?_))))
 ·
  refine W.seq (W.region (pu (ah rfl rfl rfl pN rfl) rfl ?_))
  refine pE rfl (WO.nil (qs (W.ret (ae (QF.ao trivial rfl ?_)))))
  rfl
 have hfew : om a b on = true := by simpa using h15
 have hon := (uV hfew).1
 refine W.skip (qs (W.seq (W.region (pE rfl (pE rfl (pE rfl (pu (ah rfl rfl rfl (lx a b on (by omega)) rfl) rfl ?_)))))))
 iterate 3 refine pE rfl ?_
 refine a8 aa rfl rfl rfl (aP aa rfl rfl rfl rfl rfl rfl rfl rfl (pE rfl (WO.nil (qs (W.seq (W.region (pE rfl (pE rfl (pE rfl (pu (ah rfl rfl rfl (rI a b on (by omega)) rfl) rfl ?_))))))))))
 iterate 3 refine pE rfl ?_
 refine a8 aa rfl rfl rfl (aP aa rfl rfl rfl rfl rfl rfl rfl rfl (pE rfl (WO.nil (qs (W.seq ?_)))))
 apply aD; (case hb => rfl)
 ·
  refine pE rfl (pE rfl (pu (ah rfl rfl rfl (hs (cC a b on).1) rfl) rfl ?_))
  refine pE rfl ?_
  apply aw; (case hj => rfl); (case hl => rfl)
  ·
   refine ab rfl rfl (pE rfl (ab rfl rfl (pE rfl (ab rfl rfl ?_))))
   iterate 3 refine pE rfl ?_
   apply aw; (case hj => rfl); (case hl => rfl)
   ·
    refine ab rfl rfl (pu (ah rfl rfl rfl pN rfl) rfl ?_)
    iterate 2 refine pE rfl ?_
    refine WO.nil (ay rfl rfl rfl)
   refine aq rfl rfl rfl rfl ?_
   iterate 2 refine pE rfl ?_
   refine WO.nil (ay rfl rfl rfl)
  iterate 3 refine aq rfl rfl rfl rfl ?_
  iterate 2 refine pE rfl ?_
  refine aq rfl rfl rfl rfl ?_
  iterate 2 refine pE rfl ?_
  refine WO.nil (ay rfl rfl rfl)
 refine qs (W.ret (QF.ao trivial rfl ?_))
 (simp only [norm, az]; simp; done)
end Go.Proofs.YtjenenllmjlimaaGreat
