import Derived.Test.YtjenenllmjlimaaQ4
namespace Go.Proofs.Ytjenenllmjlimaa
open Go.Ab Go.Tb
set_option maxRecDepth 10000
attribute [local irreducible] W WO Pu QS QB QL QF QV bD CH QE
theorem kW (p : Nat → Bool) (f i j : Nat) : dT p (f + 1) i j = if i < j then (if p ((i + j) / 2) = true then dT p f ((i + j) / 2 + 1) j else dT p f i ((i + j) / 2)) else i := rfl
theorem rr {x : Nat} (h : x ≤ 1000000) : IntKind.u64.wrap ((x : Int)) = (x : Int) := by
 simp only [IntKind.wrap, IntKind.signed, IntKind.bits]
 simp
 omega
theorem rz {x : Nat} : ((x : Int)).fdiv (2 ^ (min (IntKind.u64.wrap 1).toNat IntKind.u64.bits)) = ((x / 2 : Nat) : Int) := by
 have e : min (IntKind.u64.wrap 1).toNat IntKind.u64.bits = 1 := by decide
 rw [e]
 have : ((x : Int)).fdiv 2 = (x : Int) / 2 := Int.fdiv_eq_ediv_of_nonneg _ (by omega)
 rw [show ((2 : Int) ^ 1) = 2 from rfl, this]
 omega
theorem lQ {x : Nat} (h : x ≤ 1000000) : cS (.int .u64 (x : Int)) = true := by
 simp [cS, IntKind.min, IntKind.max, IntKind.signed, IntKind.bits]; omega
theorem ri {x : Nat} (h : x ≤ 1000000) : IntKind.i64.wrap ((x : Int)) = (x : Int) := wrap64 (by omega)
theorem lJ : ∀ (f : Nat) (l : List Pc) (a m b k cap : Nat), l.length ≤ 100000 → a < m → m < b → b ≤ l.length → b - a ≤ f →
  cP Try.prog 65 [.sb 0 l.length cap, .d (.v (.int .i64 (a : Int))), .d (.v (.int .i64 (m : Int))), .d (.v (.int .i64 (b : Int))), .clo 34 []] [aV (l.map Pc.c) k] 0 (.tup []) [aV ((dE be f l a m b).map Pc.c) k] 0
 | 0, l, a, m, b, k, cap, hcap, h1, h2, h3, hf => by omega
 | f + 1, l, a, m, b, k, cap, hcap, h1, h2, h3, hf => by
  refine cP.eP aa (n := 220) (rs := []) Try.func65 (by kernel_rfl) rfl Try.ntmps65 Try.results65 rfl rfl fun C hC hG => ?_
  iterate 2 refine W.seq ?_
  refine W.region ?_
  iterate 2 refine pE rfl ?_
  refine pu (bz (ev aa rfl) (fz (x := m) (y := a) (by omega) (by omega))) rfl ?_
  refine pE rfl (WO.nil (qs (an rfl (fun h28 => ?_) (fun h28 => ?_))))
  ·
   have e1 : m - a = 1 := by simp at h28; omega
   refine W.seq (W.region ?_)
   iterate 2 refine pE rfl ?_
   refine WO.nil (qs (W.seq (W.region ?_)))
   iterate 2 refine pE rfl ?_
   refine WO.nil (qs (W.seq (W.block ?_)))
   refine W.aU (ι := {x : Nat × Nat × Nat // match x with | (g, i, j) => j - i < g ∧ m ≤ i ∧ i ≤ j ∧ j ≤ b ∧ dT (fun h => be (el l h) (el l a)) g i j = dT (fun h => be (el l h) (el l a)) (b - m + 1) m b})
    (fun x => match x.1 with | (g, i, j) => [(0, .sb 0 l.length cap), (10, .d (.v (.int .i64 ((i : Nat) : Int)))), (11, .d (.v (.int .i64 ((j : Nat) : Int))))]) [(1, _), (4, _)]
    (fun x => match x.1 with | (g, i, j) => [(0, aV (l.map Pc.c) k)]) [] [] 1 (fun x => match x.1 with | (g, i, j) => j - i)
    [0] ⟨(b - m + 1, m, b), ?_⟩ rfl ?_ ⟨rfl, rfl, rfl, rfl, trivial⟩ ?_ trivial rfl ?_
   · exact ⟨by omega, Nat.le_refl _, by omega, Nat.le_refl _, rfl⟩
   · repeat' first | exact trivial | refine ⟨rfl, ?_⟩
   · repeat' first | exact trivial | refine ⟨congrArg some (a0 _ _ _), ?_⟩
   rintro ⟨⟨g, i, j⟩, hg, hi, hij, hj, hI⟩
   show W _ _ _ _ _ ⟨[(0, .sb 0 l.length cap), (10, .d (.v (.int .i64 ((i : Nat) : Int)))), (11, .d (.v (.int .i64 ((j : Nat) : Int)))), (1, _), (4, _)], [(0, aV (l.map Pc.c) k)], [], 1⟩
   obtain ⟨g, rfl⟩ : ∃ q, g = q + 1 := ⟨g - 1, by omega⟩
   rw [kW] at hI
   iterate 2 refine W.seq ?_
   refine W.region ?_
   iterate 3 refine pE rfl ?_
   refine WO.nil (qs (an rfl (fun h33 => ?_) (fun h33 => ?_)))
   ·
    have hlt : i < j := by simp at h33; omega
    rw [if_pos hlt] at hI
    refine W.skip (qs (W.block (W.seq (W.region ?_))))
    iterate 2 refine pE rfl ?_
    refine pu (bz (ev aa rfl) (dq (x := i) (y := j) (by omega))) rfl ?_
    refine pu (bz (ev aa rfl) (rr (x := i + j) (by omega))) rfl ?_
    refine pu (rN (r := (((i + j) / 2 : Nat) : Int)) rfl rfl (by decide) rz (lQ (by omega))) rfl ?_
    refine pu (bz (ev aa rfl) (ri (x := (i + j) / 2) (by omega))) rfl ?_
    refine pE rfl (WO.nil (qs (W.seq (W.bw aa (by kernel_rfl) ?_))))
    iterate 3 refine ao (ev aa rfl) rfl ?_
    refine ao (bk aa rfl rfl rfl rfl rfl (Int.natCast_nonneg _) (show (i + j) / 2 < l.length by omega) rfl) rfl ?_
    refine ao (dm (i := (i + j) / 2) aa rfl rfl rfl rfl (bK l) (cL (by omega))) rfl ?_
    iterate 2 refine ao (ev aa rfl) rfl ?_
    refine ao (bk aa rfl rfl rfl rfl rfl (Int.natCast_nonneg _) (show a < l.length by omega) rfl) rfl ?_
    refine ao (dm (i := a) aa rfl rfl rfl rfl (bK l) (cL (by omega))) rfl ?_
    refine ao (ab rfl rfl rfl (iA (el l ((i + j) / 2)) (el l a)) rfl) rfl ?_
    refine ao (ev aa rfl) rfl ?_
    refine CH.nil ?_
    refine qs (an rfl (fun h50 => ?_) (fun h50 => ?_))
    ·
     have hbr : be (el l ((i + j) / 2)) (el l a) = true := h50
     rw [if_pos hbr] at hI
     refine W.region (pE rfl (pu (bz (ev aa rfl) (dq (x := (i + j) / 2) (y := 1) (by omega))) rfl ?_))
     refine pE rfl (WO.nil (aZ ?_))
     (have _hb : be (el l ((i + j) / 2)) (el l a) = true := hbr; refine W.aW [0] ⟨(g, (i + j) / 2 + 1, j), ?_⟩ ?_ rfl ?_ ⟨rfl, rfl, rfl, rfl, trivial⟩ ?_ trivial rfl)
     · exact ⟨by omega, by omega, by omega, by omega, hI⟩
     · dsimp only; omega
     · repeat' first | exact trivial | refine ⟨rfl, ?_⟩
     repeat' first | exact trivial | refine ⟨congrArg some (a0 _ _ _), ?_⟩
    have hbr : be (el l ((i + j) / 2)) (el l a) = false := h50
    rw [if_neg (by rw [hbr]; decide)] at hI
    refine W.region ?_
    iterate 2 refine pE rfl ?_
    refine WO.nil (aZ ?_)
    (have _hb : be (el l ((i + j) / 2)) (el l a) = false := hbr; refine W.aW [0] ⟨(g, i, (i + j) / 2), ?_⟩ ?_ rfl ?_ ⟨rfl, rfl, rfl, rfl, trivial⟩ ?_ trivial rfl)
    · exact ⟨by omega, by omega, by omega, by omega, hI⟩
    · dsimp only; omega
    · repeat' first | exact trivial | refine ⟨rfl, ?_⟩
    repeat' first | exact trivial | refine ⟨congrArg some (a0 _ _ _), ?_⟩
   have hlt : ¬ i < j := by simp at h33; omega
   rw [if_neg hlt] at hI
   refine W.exit (aK (aP (aL (qs ?_))))
   iterate 2 refine W.seq ?_
   refine W.region ?_
   iterate 2 refine pE rfl ?_
   refine WO.nil (qs (W.block ?_))
   have hr1 : i ≤ b := by omega
   refine W.aU (ι := {x : Nat × List Pc // match x with | (x, L) => a ≤ x ∧ x ≤ i - 1 ∧ L.length = l.length ∧ oP L (i - 1 - x) x = oP l (i - 1 - a) a})
    (fun x => match x.1 with | (x, L) => [(0, .sb 0 l.length cap), (13, .d (.v (.int .i64 ((x : Nat) : Int))))]) [(10, _)]
    (fun x => match x.1 with | (x, L) => [(0, aV (L.map Pc.c) k)]) [] [] 1 (fun x => match x.1 with | (x, L) => i - 1 - x)
    [0] ⟨(a, l), ?_⟩ rfl ?_ ⟨rfl, rfl, trivial⟩ ?_ trivial rfl ?_
   · exact ⟨Nat.le_refl _, by omega, rfl, rfl⟩
   · repeat' first | exact trivial | refine ⟨rfl, ?_⟩
   · repeat' first | exact trivial | refine ⟨congrArg some (a0 _ _ _), ?_⟩
   rintro ⟨⟨x, L⟩, hx1, hx2, hL, hU⟩
   show W _ _ _ _ _ ⟨[(0, .sb 0 l.length cap), (13, .d (.v (.int .i64 ((x : Nat) : Int)))), (10, _)], [(0, aV (L.map Pc.c) k)], [], 1⟩
   iterate 2 refine W.seq ?_
   refine W.region ?_
   iterate 2 refine pE rfl ?_
   refine pu (bz (ev aa rfl) (fz (x := i) (y := 1) (by omega) (by omega))) rfl ?_
   refine pE rfl (WO.nil (qs (an rfl (fun h58 => ?_) (fun h58 => ?_))))
   ·
    have hxi : x < i - 1 := by simp at h58; omega
    obtain ⟨r, hr⟩ : ∃ r, i - 1 - x = r + 1 := ⟨i - 1 - x - 1, by omega⟩
    have hr2 : i - 1 - (x + 1) = r := by omega
    rw [hr] at hU
    simp only [oP] at hU
    have ea : (L.map Pc.c)[x]? = some (el L x).c := cL (by omega)
    have eb : (L.map Pc.c)[x + 1]? = some (el L (x + 1)).c := cL (by omega)
    have eb2 : ((L.set x (el L (x + 1))).map Pc.c)[x + 1]? = some (el L (x + 1)).c := by rw [cL (by rw [List.length_set]; omega), jT (by omega), if_neg (by omega)]
    refine W.skip (qs (W.seq (W.block ?_)))
    apply W.gJ aa 16 15; (case hB => kernel_rfl); (case h1 => rfl); (case h2 => rfl)
    refine' ba (ev aa rfl) rfl rfl rfl rfl rfl ?h_1
    case' h_1 => skip
    refine' ba (ev aa rfl) rfl rfl rfl rfl rfl ?h_2
    case' h_2 => skip
    refine' bG ?p1_3 (ev aa rfl) rfl rfl rfl rfl rfl ?h_3
    case' h_3 => skip
    refine' bG ?p1_4 (ev aa rfl) rfl rfl rfl rfl rfl ?h_4
    case' h_4 => skip
    refine' bG ?p1_5 (bz (ev aa rfl) (dq (x := x) (y := 1) (by omega))) rfl rfl rfl rfl rfl ?h_5
    case' h_5 => skip
    refine' ba (ev aa rfl) rfl rfl rfl rfl rfl ?h_6
    case' h_6 => skip
    refine' ba (ev aa rfl) rfl rfl rfl rfl rfl ?h_7
    case' h_7 => skip
    refine' ba (bz (ev aa rfl) (dq (x := x) (y := 1) (by omega))) rfl rfl rfl rfl rfl ?h_8
    case' h_8 => skip
    refine' ba (bk aa rfl rfl rfl rfl rfl (Int.natCast_nonneg _) (show x + 1 < l.length by omega) rfl) rfl rfl rfl rfl rfl ?h_9
    case' h_9 => skip
    refine' ba (dm (i := x + 1) aa rfl rfl rfl rfl (bK L) eb) rfl rfl rfl rfl rfl ?h_10
    case' h_10 => skip
    refine' bG ?p1_11 (ev aa rfl) rfl rfl rfl rfl rfl ?h_11
    case' h_11 => skip
    refine' bG ?p1_12 (ev aa rfl) rfl rfl rfl rfl rfl ?h_12
    case' h_12 => skip
    refine' bG ?p1_13 (bk aa rfl rfl rfl rfl rfl (Int.natCast_nonneg _) (show x < l.length by omega) rfl) rfl rfl rfl rfl rfl ?h_13
    case' h_13 => skip
    refine' ba (dm (i := x) aa rfl rfl rfl rfl (bK L) ea) rfl rfl rfl rfl rfl ?h_14
    case' h_14 => skip
    refine' ba (bk aa rfl rfl rfl rfl rfl (Int.natCast_nonneg _) (show x < l.length by omega) rfl) rfl rfl rfl rfl rfl ?h_15
    case' h_15 => skip
    refine' kz (fun g => ?e_16) rfl rfl ?h_16
    case e_16 =>
     refine fZ (i := x) aa rfl rfl rfl rfl (bK L) ea rfl rfl (fE (x := el L (x + 1))) ?_
     refine WO.nil ?_
     exact ⟨rfl, rfl⟩
    case' h_16 => skip
    case p1_3 => exact (ev aa rfl)
    case p1_4 => exact (ev aa rfl)
    case p1_5 => exact (bz (ev aa rfl) (dq (x := x) (y := 1) (by omega)))
    case p1_11 => exact (ev aa rfl)
    case p1_12 => exact (ev aa rfl)
    case p1_13 => exact (bk aa rfl rfl rfl rfl rfl (Int.natCast_nonneg _) (show x < l.length by omega) rfl)
    refine CC.nil ?_
    refine pu (bk aa rfl rfl rfl rfl rfl (Int.natCast_nonneg _) (show x + 1 < l.length by omega) rfl) rfl ?_
    refine fZ (i := x + 1) aa rfl rfl rfl rfl (bK _) eb2 rfl rfl (fE (x := el L x)) ?_
    refine WO.nil (aZ (qs (W.region (pE rfl (pu (bz (ev aa rfl) (dq (x := x) (y := 1) (by omega))) rfl ?_)))))
    refine pE rfl (WO.nil (W.aW [0] ⟨(x + 1, dK L x (x + 1)), ?_⟩ ?_ rfl ?_ ⟨rfl, rfl, trivial⟩ ?_ trivial rfl))
    · exact ⟨by omega, by omega, by rw [du]; exact hL, by rw [hr2]; exact hU⟩
    · dsimp only; omega
    · repeat' first | exact trivial | refine ⟨rfl, ?_⟩
    repeat' first | exact trivial | refine ⟨congrArg some (a0 _ _ _), ?_⟩
   have hxi : i - 1 - x = 0 := by simp at h58; omega
   rw [hxi] at hU
   simp only [oP] at hU
   have hg : dE be (f + 1) l a m b = L := by
    unfold dE
    rw [if_pos e1, ← hI, hU]
   refine W.exit (aK (aP (aL (qs (W.ret (ah (fu.end aa [] trivial rfl rfl rfl rfl ?_ ?_)))))))
   · rw [hg]; exact gG rfl
   rfl
  have e1 : ¬ m - a = 1 := by simp at h28; omega
  refine W.skip (qs ?_)
  iterate 2 refine W.seq ?_
  refine W.region ?_
  iterate 2 refine pE rfl ?_
  refine pu (bz (ev aa rfl) (fz (x := b) (y := m) (by omega) (by omega))) rfl ?_
  refine pE rfl (WO.nil (qs (an rfl (fun h80 => ?_) (fun h80 => ?_))))
  ·
   have e2 : b - m = 1 := by simp at h80; omega
   refine W.seq (W.region ?_)
   iterate 2 refine pE rfl ?_
   refine WO.nil (qs (W.seq (W.region ?_)))
   iterate 2 refine pE rfl ?_
   refine WO.nil (qs (W.seq (W.block ?_)))
   refine W.aU (ι := {x : Nat × Nat × Nat // match x with | (g, i, j) => j - i < g ∧ a ≤ i ∧ i ≤ j ∧ j ≤ m ∧ dT (fun h => !be (el l m) (el l h)) g i j = dT (fun h => !be (el l m) (el l h)) (m - a + 1) a m})
    (fun x => match x.1 with | (g, i, j) => [(0, .sb 0 l.length cap), (14, .d (.v (.int .i64 ((i : Nat) : Int)))), (15, .d (.v (.int .i64 ((j : Nat) : Int))))]) [(2, _), (4, _)]
    (fun x => match x.1 with | (g, i, j) => [(0, aV (l.map Pc.c) k)]) [] [] 1 (fun x => match x.1 with | (g, i, j) => j - i)
    [0] ⟨(m - a + 1, a, m), ?_⟩ rfl ?_ ⟨rfl, rfl, rfl, rfl, trivial⟩ ?_ trivial rfl ?_
   · exact ⟨by omega, Nat.le_refl _, by omega, Nat.le_refl _, rfl⟩
   · repeat' first | exact trivial | refine ⟨rfl, ?_⟩
   · repeat' first | exact trivial | refine ⟨congrArg some (a0 _ _ _), ?_⟩
   rintro ⟨⟨g, i, j⟩, hg, hi, hij, hj, hI⟩
   show W _ _ _ _ _ ⟨[(0, .sb 0 l.length cap), (14, .d (.v (.int .i64 ((i : Nat) : Int)))), (15, .d (.v (.int .i64 ((j : Nat) : Int)))), (2, _), (4, _)], [(0, aV (l.map Pc.c) k)], [], 1⟩
   obtain ⟨g, rfl⟩ : ∃ q, g = q + 1 := ⟨g - 1, by omega⟩
   rw [kW] at hI
   iterate 2 refine W.seq ?_
   refine W.region ?_
   iterate 3 refine pE rfl ?_
   refine WO.nil (qs (an rfl (fun h85 => ?_) (fun h85 => ?_)))
   ·
    have hlt : i < j := by simp at h85; omega
    rw [if_pos hlt] at hI
    refine W.skip (qs (W.block (W.seq (W.region ?_))))
    iterate 2 refine pE rfl ?_
    refine pu (bz (ev aa rfl) (dq (x := i) (y := j) (by omega))) rfl ?_
    refine pu (bz (ev aa rfl) (rr (x := i + j) (by omega))) rfl ?_
    refine pu (rN (r := (((i + j) / 2 : Nat) : Int)) rfl rfl (by decide) rz (lQ (by omega))) rfl ?_
    refine pu (bz (ev aa rfl) (ri (x := (i + j) / 2) (by omega))) rfl ?_
    refine pE rfl (WO.nil (qs (W.seq (W.bw aa (by kernel_rfl) ?_))))
    iterate 3 refine ao (ev aa rfl) rfl ?_
    refine ao (bk aa rfl rfl rfl rfl rfl (Int.natCast_nonneg _) (show m < l.length by omega) rfl) rfl ?_
    refine ao (dm (i := m) aa rfl rfl rfl rfl (bK l) (cL (by omega))) rfl ?_
    iterate 2 refine ao (ev aa rfl) rfl ?_
    refine ao (bk aa rfl rfl rfl rfl rfl (Int.natCast_nonneg _) (show (i + j) / 2 < l.length by omega) rfl) rfl ?_
    refine ao (dm (i := (i + j) / 2) aa rfl rfl rfl rfl (bK l) (cL (by omega))) rfl ?_
    refine ao (ab rfl rfl rfl (iA (el l m) (el l ((i + j) / 2))) rfl) rfl ?_
    iterate 2 refine ao (ev aa rfl) rfl ?_
    refine CH.nil ?_
    refine qs (an rfl (fun h103 => ?_) (fun h103 => ?_))
    ·
     have hbr : (!be (el l m) (el l ((i + j) / 2))) = true := h103
     rw [if_pos hbr] at hI
     refine W.region (pE rfl (pu (bz (ev aa rfl) (dq (x := (i + j) / 2) (y := 1) (by omega))) rfl ?_))
     refine pE rfl (WO.nil (aZ ?_))
     (have _hb : (!be (el l m) (el l ((i + j) / 2))) = true := hbr; refine W.aW [0] ⟨(g, (i + j) / 2 + 1, j), ?_⟩ ?_ rfl ?_ ⟨rfl, rfl, rfl, rfl, trivial⟩ ?_ trivial rfl)
     · exact ⟨by omega, by omega, by omega, by omega, hI⟩
     · dsimp only; omega
     · repeat' first | exact trivial | refine ⟨rfl, ?_⟩
     repeat' first | exact trivial | refine ⟨congrArg some (a0 _ _ _), ?_⟩
    have hbr : (!be (el l m) (el l ((i + j) / 2))) = false := h103
    rw [if_neg (by rw [hbr]; decide)] at hI
    refine W.region ?_
    iterate 2 refine pE rfl ?_
    refine WO.nil (aZ ?_)
    (have _hb : (!be (el l m) (el l ((i + j) / 2))) = false := hbr; refine W.aW [0] ⟨(g, i, (i + j) / 2), ?_⟩ ?_ rfl ?_ ⟨rfl, rfl, rfl, rfl, trivial⟩ ?_ trivial rfl)
    · exact ⟨by omega, by omega, by omega, by omega, hI⟩
    · dsimp only; omega
    · repeat' first | exact trivial | refine ⟨rfl, ?_⟩
    repeat' first | exact trivial | refine ⟨congrArg some (a0 _ _ _), ?_⟩
   have hlt : ¬ i < j := by simp at h85; omega
   rw [if_neg hlt] at hI
   refine W.exit (aK (aP (aL (qs ?_))))
   iterate 2 refine W.seq ?_
   refine W.region ?_
   iterate 2 refine pE rfl ?_
   refine WO.nil (qs (W.block ?_))
   refine W.aU (ι := {x : Nat × List Pc // match x with | (x, L) => i ≤ x ∧ x ≤ m ∧ L.length = l.length ∧ oK L (x - i) x = oK l (m - i) m})
    (fun x => match x.1 with | (x, L) => [(0, .sb 0 l.length cap), (17, .d (.v (.int .i64 ((x : Nat) : Int))))]) [(14, _)]
    (fun x => match x.1 with | (x, L) => [(0, aV (L.map Pc.c) k)]) [] [] 1 (fun x => match x.1 with | (x, L) => x - i)
    [0] ⟨(m, l), ?_⟩ rfl ?_ ⟨rfl, rfl, trivial⟩ ?_ trivial rfl ?_
   · exact ⟨by omega, Nat.le_refl _, rfl, rfl⟩
   · repeat' first | exact trivial | refine ⟨rfl, ?_⟩
   · repeat' first | exact trivial | refine ⟨congrArg some (a0 _ _ _), ?_⟩
   rintro ⟨⟨x, L⟩, hx1, hx2, hL, hU⟩
   show W _ _ _ _ _ ⟨[(0, .sb 0 l.length cap), (17, .d (.v (.int .i64 ((x : Nat) : Int)))), (14, _)], [(0, aV (L.map Pc.c) k)], [], 1⟩
   iterate 2 refine W.seq ?_
   refine W.region ?_
   iterate 3 refine pE rfl ?_
   refine WO.nil (qs (an rfl (fun h110 => ?_) (fun h110 => ?_)))
   ·
    have hxi : i < x := by simp at h110; omega
    obtain ⟨y, rfl⟩ : ∃ y, x = y + 1 := ⟨x - 1, by omega⟩
    have hr : y + 1 - i = y - i + 1 := by omega
    rw [hr] at hU
    simp only [oK] at hU
    rw [show y + 1 - 1 = y from rfl] at hU
    have ea : (L.map Pc.c)[y + 1]? = some (el L (y + 1)).c := cL (by omega)
    have eb : (L.map Pc.c)[y]? = some (el L y).c := cL (by omega)
    have eb2 : ((L.set (y + 1) (el L y)).map Pc.c)[y]? = some (el L y).c := by rw [cL (by rw [List.length_set]; omega), jT (by omega), if_neg (by omega)]
    have hsub : IntKind.i64.wrap (((y + 1 : Nat) : Int) - 1) = ((y : Nat) : Int) := by rw [wrap64 (by omega)]; omega
    refine W.skip (qs (W.seq (W.block ?_)))
    apply W.gJ aa 16 15; (case hB => kernel_rfl); (case h1 => rfl); (case h2 => rfl)
    refine' ba (ev aa rfl) rfl rfl rfl rfl rfl ?h_17
    case' h_17 => skip
    refine' ba (ev aa rfl) rfl rfl rfl rfl rfl ?h_18
    case' h_18 => skip
    refine' bG ?p1_19 (ev aa rfl) rfl rfl rfl rfl rfl ?h_19
    case' h_19 => skip
    refine' bG ?p1_20 (ev aa rfl) rfl rfl rfl rfl rfl ?h_20
    case' h_20 => skip
    refine' bG ?p1_21 (bz (ev aa rfl) hsub) rfl rfl rfl rfl rfl ?h_21
    case' h_21 => skip
    refine' ba (ev aa rfl) rfl rfl rfl rfl rfl ?h_22
    case' h_22 => skip
    refine' ba (ev aa rfl) rfl rfl rfl rfl rfl ?h_23
    case' h_23 => skip
    refine' ba (bz (ev aa rfl) hsub) rfl rfl rfl rfl rfl ?h_24
    case' h_24 => skip
    refine' ba (bk aa rfl rfl rfl rfl rfl (Int.natCast_nonneg _) (show y < l.length by omega) rfl) rfl rfl rfl rfl rfl ?h_25
    case' h_25 => skip
    refine' ba (dm (i := y) aa rfl rfl rfl rfl (bK L) eb) rfl rfl rfl rfl rfl ?h_26
    case' h_26 => skip
    refine' bG ?p1_27 (ev aa rfl) rfl rfl rfl rfl rfl ?h_27
    case' h_27 => skip
    refine' bG ?p1_28 (ev aa rfl) rfl rfl rfl rfl rfl ?h_28
    case' h_28 => skip
    refine' bG ?p1_29 (bk aa rfl rfl rfl rfl rfl (Int.natCast_nonneg _) (show y + 1 < l.length by omega) rfl) rfl rfl rfl rfl rfl ?h_29
    case' h_29 => skip
    refine' ba (dm (i := y + 1) aa rfl rfl rfl rfl (bK L) ea) rfl rfl rfl rfl rfl ?h_30
    case' h_30 => skip
    refine' ba (bk aa rfl rfl rfl rfl rfl (Int.natCast_nonneg _) (show y + 1 < l.length by omega) rfl) rfl rfl rfl rfl rfl ?h_31
    case' h_31 => skip
    refine' kz (fun g => ?e_32) rfl rfl ?h_32
    case e_32 =>
     refine fZ (i := y + 1) aa rfl rfl rfl rfl (bK L) ea rfl rfl (fE (x := el L y)) ?_
     refine WO.nil ?_
     exact ⟨rfl, rfl⟩
    case' h_32 => skip
    case p1_19 => exact (ev aa rfl)
    case p1_20 => exact (ev aa rfl)
    case p1_21 => exact (bz (ev aa rfl) hsub)
    case p1_27 => exact (ev aa rfl)
    case p1_28 => exact (ev aa rfl)
    case p1_29 => exact (bk aa rfl rfl rfl rfl rfl (Int.natCast_nonneg _) (show y + 1 < l.length by omega) rfl)
    refine CC.nil ?_
    refine pu (bk aa rfl rfl rfl rfl rfl (Int.natCast_nonneg _) (show y < l.length by omega) rfl) rfl ?_
    refine fZ (i := y) aa rfl rfl rfl rfl (bK _) eb2 rfl rfl (fE (x := el L (y + 1))) ?_
    refine WO.nil (aZ (qs (W.region (pE rfl (pu (bz (ev aa rfl) hsub) rfl ?_)))))
    refine pE rfl (WO.nil (W.aW [0] ⟨(y, dK L (y + 1) y), ?_⟩ ?_ rfl ?_ ⟨rfl, rfl, trivial⟩ ?_ trivial rfl))
    · exact ⟨by omega, by omega, by rw [du]; exact hL, hU⟩
    · dsimp only; omega
    · repeat' first | exact trivial | refine ⟨rfl, ?_⟩
    repeat' first | exact trivial | refine ⟨congrArg some (a0 _ _ _), ?_⟩
   have hxi : x - i = 0 := by simp at h110; omega
   rw [hxi] at hU
   simp only [oK] at hU
   have hg : dE be (f + 1) l a m b = L := by
    unfold dE
    rw [if_neg e1, if_pos e2, ← hI, hU]
   refine W.exit (aK (aP (aL (qs (W.ret (ah (fu.end aa [] trivial rfl rfl rfl rfl ?_ ?_)))))))
   · rw [hg]; exact gG rfl
   rfl
  have e2 : ¬ b - m = 1 := by simp at h80; omega
  refine W.skip (qs (W.seq ?_))
  have hG : dE be (f + 1) l a m b = dE be (f + 1) l a m b := rfl
  conv at hG => rhs; unfold dE
  rw [if_neg e1, if_neg e2] at hG
  dsimp only at hG
  generalize hmid : (a + b) / 2 = mid at hG
  generalize hs0 : (if mid < m then mid + m - b else a) = s0 at hG
  generalize hr0 : (if mid < m then mid else m) = r0 at hG
  have hle : s0 ≤ r0 := by subst hs0 hr0; split <;> omega
  have hs1 : a ≤ s0 := by subst hs0; split <;> omega
  have hr1 : r0 ≤ m ∧ r0 ≤ mid := by subst hr0; split <;> omega
  have hs2 : mid + m ≤ b + s0 := by subst hs0; split <;> omega
  have hlow : ∀ c, s0 ≤ c → c < r0 → m ≤ mid + m - 1 - c ∧ mid + m - 1 - c < b := fun c p1 p2 => by subst hs0 hr0; split at p1 <;> split at p2 <;> omega
  have hhalf := rz (x := a + b)
  rw [hmid] at hhalf
  refine W.region ?_
  iterate 2 refine pE rfl ?_
  refine pu (bz (ev aa rfl) (dq (x := a) (y := b) (by omega))) rfl ?_
  refine pu (bz (ev aa rfl) (rr (x := a + b) (by omega))) rfl ?_
  refine pu (rN (r := (mid : Int)) rfl rfl (by decide) hhalf (lQ (by omega))) rfl ?_
  refine pu (bz (ev aa rfl) (ri (x := mid) (by omega))) rfl ?_
  refine pE rfl (WO.nil (qs (W.seq (W.region ?_))))
  iterate 2 refine pE rfl ?_
  refine pu (bz (ev aa rfl) (dq (x := mid) (y := m) (by omega))) rfl ?_
  refine pE rfl (WO.nil (qs (W.seq (W.region ?_))))
  iterate 2 refine pE rfl ?_
  refine WO.nil (qs ?_)
  iterate 2 refine W.seq ?_
  refine W.region ?_
  iterate 3 refine pE rfl ?_
  refine WO.nil (qs (W.rJ [(0, .sb 0 l.length cap), (1, .d (.v (.int .i64 ((a : Nat) : Int)))), (2, .d (.v (.int .i64 ((m : Nat) : Int)))), (3, .d (.v (.int .i64 ((b : Nat) : Int)))), (4, .clo 34 []), (18, .d (.v (.int .i64 ((mid : Nat) : Int)))), (19, .d (.v (.int .i64 (((mid + m) : Nat) : Int)))), (20, .d (.v (.int .i64 ((s0 : Nat) : Int)))), (21, .d (.v (.int .i64 ((r0 : Nat) : Int))))] [] [(0, aV (l.map Pc.c) k)] [] [] 1 ?_ ?_))
  ·
   refine an rfl (fun h140 => ?_) (fun h140 => ?_)
   ·
    have hq : mid < m := by simp at h140; omega
    rw [if_pos hq] at hs0 hr0
    subst hs0 hr0
    refine W.seq (W.region ?_)
    iterate 2 refine pE rfl ?_
    refine pu (bz (ev aa rfl) (fz (x := mid + m) (y := b) (by omega) (by omega))) rfl ?_
    refine pE rfl (WO.nil (qs (W.region ?_)))
    iterate 2 refine pE rfl ?_
    refine WO.nil (gF [0] rfl ?_ trivial ?_ trivial rfl)
    · repeat' first | exact trivial | refine ⟨rfl, ?_⟩
    repeat' first | exact trivial | refine ⟨congrArg some (a0 _ _ _), ?_⟩
   have hq : ¬ mid < m := by simp at h140; omega
   rw [if_neg hq] at hs0 hr0
   subst hs0 hr0
   refine W.seq (W.region ?_)
   iterate 2 refine pE rfl ?_
   refine WO.nil (qs (W.region ?_))
   iterate 2 refine pE rfl ?_
   refine WO.nil (gF [0] rfl ?_ trivial ?_ trivial rfl)
   · repeat' first | exact trivial | refine ⟨rfl, ?_⟩
   repeat' first | exact trivial | refine ⟨congrArg some (a0 _ _ _), ?_⟩
  refine qs (W.seq (W.region (pE rfl (pu (bz (ev aa rfl) (fz (x := mid + m) (y := 1) (by omega) (by omega))) rfl ?_))))
  refine pE rfl (WO.nil (qs (W.seq (W.block ?_))))
  refine W.aU (ι := {x : Nat × Nat × Nat // match x with | (g, i, j) => j - i < g ∧ s0 ≤ i ∧ i ≤ j ∧ j ≤ r0 ∧ dT (fun c => !be (el l (mid + m - 1 - c)) (el l c)) g i j = dT (fun c => !be (el l (mid + m - 1 - c)) (el l c)) (r0 - s0 + 1) s0 r0})
   (fun x => match x.1 with | (g, i, j) => [(0, .sb 0 l.length cap), (20, .d (.v (.int .i64 ((i : Nat) : Int)))), (21, .d (.v (.int .i64 ((j : Nat) : Int))))]) [(1, _), (2, _), (3, _), (4, _), (18, _), (19, _), (22, _)]
   (fun x => match x.1 with | (g, i, j) => [(0, aV (l.map Pc.c) k)]) [] [] 1 (fun x => match x.1 with | (g, i, j) => j - i)
   [0] ⟨(r0 - s0 + 1, s0, r0), ?_⟩ rfl ?_ ⟨rfl, rfl, rfl, rfl, rfl, rfl, rfl, rfl, rfl, rfl, rfl, rfl, rfl, rfl, trivial⟩ ?_ trivial rfl ?_
  · exact ⟨by omega, Nat.le_refl _, by omega, Nat.le_refl _, rfl⟩
  · repeat' first | exact trivial | refine ⟨rfl, ?_⟩
  · repeat' first | exact trivial | refine ⟨congrArg some (a0 _ _ _), ?_⟩
  rintro ⟨⟨g, i, j⟩, hg, hi, hij, hj, hI⟩
  show W _ _ _ _ _ ⟨[(0, .sb 0 l.length cap), (20, .d (.v (.int .i64 ((i : Nat) : Int)))), (21, .d (.v (.int .i64 ((j : Nat) : Int)))), (1, _), (2, _), (3, _), (4, _), (18, _), (19, _), (22, _)], [(0, aV (l.map Pc.c) k)], [], 1⟩
  obtain ⟨g, rfl⟩ : ∃ q, g = q + 1 := ⟨g - 1, by omega⟩
  rw [kW] at hI
  iterate 2 refine W.seq ?_
  refine W.region ?_
  iterate 3 refine pE rfl ?_
  refine WO.nil (qs (an rfl (fun h151 => ?_) (fun h151 => ?_)))
  ·
   have hlt : i < j := by simp at h151; omega
   rw [if_pos hlt] at hI
   have hlw := hlow ((i + j) / 2) (by omega) (by omega)
   refine W.skip (qs (W.block (W.seq (W.region ?_))))
   iterate 2 refine pE rfl ?_
   refine pu (bz (ev aa rfl) (dq (x := i) (y := j) (by omega))) rfl ?_
   refine pu (bz (ev aa rfl) (rr (x := i + j) (by omega))) rfl ?_
   refine pu (rN (r := (((i + j) / 2 : Nat) : Int)) rfl rfl (by decide) rz (lQ (by omega))) rfl ?_
   refine pu (bz (ev aa rfl) (ri (x := (i + j) / 2) (by omega))) rfl ?_
   refine pE rfl (WO.nil (qs (W.seq (W.bw aa (by kernel_rfl) ?_))))
   iterate 4 refine ao (ev aa rfl) rfl ?_
   refine ao (bz (ev aa rfl) (fz (x := mid + m - 1) (y := (i + j) / 2) (by omega) (by omega))) rfl ?_
   refine ao (bk aa rfl rfl rfl rfl rfl (Int.natCast_nonneg _) (show mid + m - 1 - (i + j) / 2 < l.length by omega) rfl) rfl ?_
   refine ao (dm (i := mid + m - 1 - (i + j) / 2) aa rfl rfl rfl rfl (bK l) (cL (by omega))) rfl ?_
   iterate 2 refine ao (ev aa rfl) rfl ?_
   refine ao (bk aa rfl rfl rfl rfl rfl (Int.natCast_nonneg _) (show (i + j) / 2 < l.length by omega) rfl) rfl ?_
   refine ao (dm (i := (i + j) / 2) aa rfl rfl rfl rfl (bK l) (cL (by omega))) rfl ?_
   refine ao (ab rfl rfl rfl (iA (el l (mid + m - 1 - (i + j) / 2)) (el l ((i + j) / 2))) rfl) rfl ?_
   iterate 2 refine ao (ev aa rfl) rfl ?_
   refine CH.nil ?_
   refine qs (an rfl (fun h171 => ?_) (fun h171 => ?_))
   ·
    have hbr : (!be (el l (mid + m - 1 - (i + j) / 2)) (el l ((i + j) / 2))) = true := h171
    rw [if_pos hbr] at hI
    refine W.region (pE rfl (pu (bz (ev aa rfl) (dq (x := (i + j) / 2) (y := 1) (by omega))) rfl ?_))
    refine pE rfl (WO.nil (aZ ?_))
    (have _hb : (!be (el l (mid + m - 1 - (i + j) / 2)) (el l ((i + j) / 2))) = true := hbr; refine W.aW [0] ⟨(g, (i + j) / 2 + 1, j), ?_⟩ ?_ rfl ?_ ⟨rfl, rfl, rfl, rfl, rfl, rfl, rfl, rfl, rfl, rfl, rfl, rfl, rfl, rfl, trivial⟩ ?_ trivial rfl)
    · exact ⟨by omega, by omega, by omega, by omega, hI⟩
    · dsimp only; omega
    · repeat' first | exact trivial | refine ⟨rfl, ?_⟩
    repeat' first | exact trivial | refine ⟨congrArg some (a0 _ _ _), ?_⟩
   have hbr : (!be (el l (mid + m - 1 - (i + j) / 2)) (el l ((i + j) / 2))) = false := h171
   rw [if_neg (by rw [hbr]; decide)] at hI
   refine W.region ?_
   iterate 2 refine pE rfl ?_
   refine WO.nil (aZ ?_)
   (have _hb : (!be (el l (mid + m - 1 - (i + j) / 2)) (el l ((i + j) / 2))) = false := hbr; refine W.aW [0] ⟨(g, i, (i + j) / 2), ?_⟩ ?_ rfl ?_ ⟨rfl, rfl, rfl, rfl, rfl, rfl, rfl, rfl, rfl, rfl, rfl, rfl, rfl, rfl, trivial⟩ ?_ trivial rfl)
   · exact ⟨by omega, by omega, by omega, by omega, hI⟩
   · dsimp only; omega
   · repeat' first | exact trivial | refine ⟨rfl, ?_⟩
   repeat' first | exact trivial | refine ⟨congrArg some (a0 _ _ _), ?_⟩
  have hlt : ¬ i < j := by simp at h151; omega
  rw [if_neg hlt] at hI
  rw [← hI] at hG
  obtain ⟨e, he⟩ : ∃ e, mid + m - i = e := ⟨_, rfl⟩
  rw [he] at hG
  have hse : m ≤ e := by omega
  have hsb : e ≤ b := by omega
  obtain ⟨l1, hl1⟩ : ∃ x, (if i < m ∧ m < e then gv (m - i + (e - m)) l m (m - i) (e - m) else l) = x := ⟨_, rfl⟩
  rw [hl1] at hG
  have hlen1 : l1.length = l.length := by
   subst hl1
   split
   · exact (iB (lo := 0) (hi := l.length) _ _ _ _ _ (by omega) (by omega) (by omega) (by omega)).len
   rfl
  obtain ⟨l2, hl2⟩ : ∃ x, (if a < i ∧ i < mid then dE be f l1 a i mid else l1) = x := ⟨_, rfl⟩
  rw [hl2] at hG
  have hlen2 : l2.length = l.length := by
   subst hl2
   split
   · exact (eB be f l1 a i mid (by omega) (by omega) (by omega)).len.trans hlen1
   exact hlen1
  refine W.exit (aK (aP (aL (qs (W.seq (W.region ?_))))))
  iterate 2 refine pE rfl ?_
  refine pu (bz (ev aa rfl) (y := ((e : Nat) : Int)) (by rw [← he]; exact fz (x := mid + m) (y := i) (by omega) (by omega))) rfl ?_
  refine pE rfl (WO.nil (qs ?_))
  iterate 2 refine W.seq ?_
  apply aG; (case hb => rfl)
  ·
   iterate 4 refine pE rfl ?_
   apply aD; (case hj => rfl); (case hl => rfl)
   ·
    refine ak rfl rfl (pE rfl (ak rfl rfl (pE rfl (ak rfl rfl ?_))))
    iterate 2 refine pE rfl ?_
    refine WO.nil (aB rfl rfl rfl)
   iterate 3 refine ax rfl rfl rfl rfl ?_
   refine pE rfl (WO.nil (aB rfl rfl rfl))
  refine qs (W.rJ [(0, .sb 0 l.length cap), (1, .d (.v (.int .i64 ((a : Nat) : Int)))), (2, .d (.v (.int .i64 ((m : Nat) : Int)))), (3, .d (.v (.int .i64 ((b : Nat) : Int)))), (4, .clo 34 []), (18, .d (.v (.int .i64 ((mid : Nat) : Int)))), (20, .d (.v (.int .i64 ((i : Nat) : Int)))), (24, .d (.v (.int .i64 ((e : Nat) : Int))))] [] [(0, aV (l1.map Pc.c) k)] [] [] 1 ?_ ?_)
  ·
   refine an rfl (fun h185 => ?_) (fun h185 => ?_)
   ·
    have hq : i < m ∧ m < e := by simp at h185; omega
    rw [if_pos hq] at hl1
    subst hl1
    refine W.region ?_
    iterate 5 refine pE rfl ?_
    refine fJ 0 rfl rfl rfl rfl (u9 l i m e k cap (m - i + (e - m)) hcap hq.1 hq.2 (by omega) (Nat.le_refl _)) rfl ?_
    refine WO.nil (gF [0] rfl ?_ trivial ?_ trivial rfl)
    · repeat' first | exact trivial | refine ⟨rfl, ?_⟩
    repeat' first | exact trivial | refine ⟨congrArg some (a0 _ _ _), ?_⟩
   have hq : ¬ (i < m ∧ m < e) := by simp at h185; omega
   rw [if_neg hq] at hl1
   subst hl1
   refine W.skip (gF [0] rfl ?_ trivial ?_ trivial rfl)
   · repeat' first | exact trivial | refine ⟨rfl, ?_⟩
   repeat' first | exact trivial | refine ⟨congrArg some (a0 _ _ _), ?_⟩
  refine qs ?_
  iterate 2 refine W.seq ?_
  apply aG; (case hb => rfl)
  ·
   iterate 4 refine pE rfl ?_
   apply aD; (case hj => rfl); (case hl => rfl)
   ·
    refine ak rfl rfl (pE rfl (ak rfl rfl (pE rfl (ak rfl rfl ?_))))
    iterate 2 refine pE rfl ?_
    refine WO.nil (aB rfl rfl rfl)
   iterate 3 refine ax rfl rfl rfl rfl ?_
   refine pE rfl (WO.nil (aB rfl rfl rfl))
  refine qs (W.rJ [(0, .sb 0 l.length cap), (1, .d (.v (.int .i64 ((a : Nat) : Int)))), (2, .d (.v (.int .i64 ((m : Nat) : Int)))), (3, .d (.v (.int .i64 ((b : Nat) : Int)))), (4, .clo 34 []), (18, .d (.v (.int .i64 ((mid : Nat) : Int)))), (20, .d (.v (.int .i64 ((i : Nat) : Int)))), (24, .d (.v (.int .i64 ((e : Nat) : Int))))] [] [(0, aV (l2.map Pc.c) k)] [] [] 1 ?_ ?_)
  ·
   refine an rfl (fun h199 => ?_) (fun h199 => ?_)
   ·
    have hq : a < i ∧ i < mid := by simp at h199; omega
    rw [if_pos hq] at hl2
    subst hl2
    have hsl := lJ f l1 a i mid k cap (by omega) hq.1 hq.2 (by omega) (by omega)
    rw [hlen1] at hsl
    refine W.region ?_
    iterate 5 refine pE rfl ?_
    refine fJ 0 rfl rfl rfl rfl hsl rfl ?_
    refine WO.nil (gF [0] rfl ?_ trivial ?_ trivial rfl)
    · repeat' first | exact trivial | refine ⟨rfl, ?_⟩
    repeat' first | exact trivial | refine ⟨congrArg some (a0 _ _ _), ?_⟩
   have hq : ¬ (a < i ∧ i < mid) := by simp at h199; omega
   rw [if_neg hq] at hl2
   subst hl2
   refine W.skip (gF [0] rfl ?_ trivial ?_ trivial rfl)
   · repeat' first | exact trivial | refine ⟨rfl, ?_⟩
   repeat' first | exact trivial | refine ⟨congrArg some (a0 _ _ _), ?_⟩
  refine qs (W.seq ?_)
  apply aG; (case hb => rfl)
  ·
   iterate 4 refine pE rfl ?_
   apply aD; (case hj => rfl); (case hl => rfl)
   ·
    refine ak rfl rfl (pE rfl (ak rfl rfl (pE rfl (ak rfl rfl ?_))))
    iterate 2 refine pE rfl ?_
    refine WO.nil (aB rfl rfl rfl)
   iterate 3 refine ax rfl rfl rfl rfl ?_
   refine pE rfl (WO.nil (aB rfl rfl rfl))
  refine qs (an rfl (fun h213 => ?_) (fun h213 => ?_))
  ·
   have hq : mid < e ∧ e < b := by simp at h213; omega
   rw [if_pos hq] at hG
   have hsl := lJ f l2 mid e b k cap (by omega) hq.1 hq.2 (by omega) (by omega)
   rw [hlen2] at hsl
   refine W.region ?_
   iterate 5 refine pE rfl ?_
   refine fJ 0 rfl rfl rfl rfl hsl rfl ?_
   refine WO.nil (fu.end aa [] trivial rfl rfl rfl rfl ?_ ?_)
   · rw [hG]; exact gG rfl
   rfl
  have hq : ¬ (mid < e ∧ e < b) := by simp at h213; omega
  rw [if_neg hq] at hG
  refine W.skip (fu.end aa [] trivial rfl rfl rfl rfl ?_ ?_)
  · rw [hG]; exact gG rfl
  rfl
end Go.Proofs.Ytjenenllmjlimaa
namespace Go.Proofs.Ytjenenllmjlimaa
open Go.Ab Go.Tb
set_option maxRecDepth 10000
attribute [local irreducible] W WO Pu QS QB QL QF QV bD CH QE
theorem ss (n g : Nat) (L : List Pc) (a : Nat) : j9 be n (g + 1) L a = if a + 20 ≤ n then j9 be n g (eI be L a (a + 20)) (a + 20) else eI be L a n := rfl
theorem sn (n bs g : Nat) (L : List Pc) (a : Nat) : km be n bs (g + 1) L a = if a + 2 * bs ≤ n then km be n bs g (dE be n L a (a + bs) (a + 2 * bs)) (a + 2 * bs) else if a + bs < n then dE be n L a (a + bs) n else L := rfl
theorem oL (n g : Nat) (L : List Pc) (bs : Nat) : lD be n (g + 1) L bs = if bs < n then lD be n g (km be n bs (n + 1) L 0) (2 * bs) else L := rfl
theorem sr (l : List Pc) (k cap : Nat) (hcap : l.length ≤ 100000) :
  cP Try.prog 45 [.sb 0 l.length cap, .d (.v (.int .i64 (l.length : Int))), .clo 34 []] [aV (l.map Pc.c) k] 0 (.tup []) [aV ((dF be l).map Pc.c) k] 0 := by
 obtain ⟨N, hN⟩ : ∃ N, l.length = N := ⟨_, rfl⟩
 have hS : dF be l = lD be N (N + 1) (j9 be N (N + 1) l 0) 20 := by unfold dF; rw [hN]
 rw [hN]
 rw [hN] at hcap
 refine cP.eP aa (n := 63) (rs := []) Try.func45 (by kernel_rfl) rfl Try.ntmps45 Try.results45 rfl rfl fun C hC hG => ?_
 refine W.seq (W.region (pE rfl (WO.nil (qs (W.seq (W.region ?_))))))
 iterate 3 refine pE rfl ?_
 refine WO.nil (qs (W.seq (W.block ?_)))
 refine W.aU (ι := {x : Nat × Nat × List Pc // match x with | (g, a, L) => a ≤ N ∧ N < a + g ∧ L.length = N ∧ j9 be N g L a = j9 be N (N + 1) l 0})
  (fun x => match x.1 with | (g, a, L) => [(0, .sb 0 N cap), (7, .d (.v (.int .i64 ((a : Nat) : Int)))), (8, .d (.v (.int .i64 (((a + 20) : Nat) : Int))))]) [(1, _), (2, _), (6, _)]
  (fun x => match x.1 with | (g, a, L) => [(0, aV (L.map Pc.c) k)]) [] [] 1 (fun x => match x.1 with | (g, a, L) => N - a)
  [0] ⟨(N + 1, 0, l), ?_⟩ rfl ?_ ⟨rfl, rfl, rfl, rfl, rfl, rfl, trivial⟩ ?_ trivial rfl ?_
 · exact ⟨Nat.zero_le _, by omega, hN, rfl⟩
 · repeat' first | exact trivial | refine ⟨rfl, ?_⟩
 · repeat' first | exact trivial | refine ⟨congrArg some (a0 _ _ _), ?_⟩
 rintro ⟨⟨g, a, L⟩, ha, hg, hL, hI⟩
 show W _ _ _ _ _ ⟨[(0, .sb 0 N cap), (7, .d (.v (.int .i64 ((a : Nat) : Int)))), (8, .d (.v (.int .i64 (((a + 20) : Nat) : Int)))), (1, _), (2, _), (6, _)], [(0, aV (L.map Pc.c) k)], [], 1⟩
 obtain ⟨g, rfl⟩ : ∃ q, g = q + 1 := ⟨g - 1, by omega⟩
 rw [ss] at hI
 iterate 2 refine W.seq ?_
 refine W.region ?_
 iterate 3 refine pE rfl ?_
 refine WO.nil (qs (an rfl (fun h13 => ?_) (fun h13 => ?_)))
 ·
  have hq : a + 20 ≤ N := by simp at h13; omega
  rw [if_pos hq] at hI
  have hsl := sG L a (a + 20) k cap (by omega) (by omega) (by omega)
  rw [hL] at hsl
  have hlen := (fI be (l := L) (a := a) (b := a + 20) (by omega)).len.trans hL
  refine W.skip (qs (W.block (W.seq (W.region ?_))))
  iterate 4 refine pE rfl ?_
  refine fJ 0 rfl rfl rfl rfl hsl rfl ?_
  refine WO.nil (qs (W.seq (W.region ?_)))
  iterate 2 refine pE rfl ?_
  refine WO.nil (qs (W.region ?_))
  iterate 2 refine pE rfl ?_
  refine pu (bz (ev aa rfl) (dq (x := a + 20) (y := 20) (by omega))) rfl ?_
  refine pE rfl (WO.nil (aZ (W.aW [0] ⟨(g, a + 20, eI be L a (a + 20)), ?_⟩ ?_ rfl ?_ ⟨rfl, rfl, rfl, rfl, rfl, rfl, trivial⟩ ?_ trivial rfl)))
  · exact ⟨by omega, by omega, hlen, hI⟩
  · dsimp only; omega
  · repeat' first | exact trivial | refine ⟨rfl, ?_⟩
  repeat' first | exact trivial | refine ⟨congrArg some (a0 _ _ _), ?_⟩
 have hq : ¬ a + 20 ≤ N := by simp at h13; omega
 rw [if_neg hq] at hI
 have hsl := sG L a N k cap (by omega) (by omega) (by omega)
 rw [hL] at hsl
 have hlen := (fI be (l := L) (a := a) (b := N) (by omega)).len.trans hL
 obtain ⟨M0, hM0⟩ : ∃ x, eI be L a N = x := ⟨_, rfl⟩
 rw [hM0] at hsl hlen hI
 rw [← hI] at hS
 refine W.exit (aK (aP (aL (qs (W.seq (W.region ?_))))))
 iterate 4 refine pE rfl ?_
 refine fJ 0 rfl rfl rfl rfl hsl rfl ?_
 refine WO.nil (qs (W.block ?_))
 refine W.aU (ι := {x : Nat × Nat × List Pc // match x with | (g1, bs, M) => 0 < bs ∧ bs ≤ 2 * N + 20 ∧ N < bs + g1 ∧ M.length = N ∧ lD be N g1 M bs = dF be l})
  (fun x => match x.1 with | (g1, bs, M) => [(0, .sb 0 N cap), (6, .d (.v (.int .i64 ((bs : Nat) : Int))))]) [(1, _), (2, _)]
  (fun x => match x.1 with | (g1, bs, M) => [(0, aV (M.map Pc.c) k)]) [] [] 1 (fun x => match x.1 with | (g1, bs, M) => N - bs)
  [0] ⟨(N + 1, 20, M0), ?_⟩ rfl ?_ ⟨rfl, rfl, rfl, rfl, trivial⟩ ?_ trivial rfl ?_
 · exact ⟨by omega, by omega, by omega, hlen, hS.symm⟩
 · repeat' first | exact trivial | refine ⟨rfl, ?_⟩
 · repeat' first | exact trivial | refine ⟨congrArg some (a0 _ _ _), ?_⟩
 rintro ⟨⟨g1, bs, M⟩, hb0, hb1, hb2, hM, hD⟩
 show W _ _ _ _ _ ⟨[(0, .sb 0 N cap), (6, .d (.v (.int .i64 ((bs : Nat) : Int)))), (1, _), (2, _)], [(0, aV (M.map Pc.c) k)], [], 1⟩
 iterate 2 refine W.seq ?_
 refine W.region ?_
 iterate 3 refine pE rfl ?_
 refine WO.nil (qs (an rfl (fun h30 => ?_) (fun h30 => ?_)))
 ·
  have hq1 : bs < N := by simp at h30; omega
  obtain ⟨g1, rfl⟩ : ∃ q, g1 = q + 1 := ⟨g1 - 1, by omega⟩
  rw [oL, if_pos hq1] at hD
  have h2b : IntKind.i64.wrap (2 * (bs : Int)) = ((2 * bs : Nat) : Int) := by rw [wrap64 (by omega)]; omega
  have h2c : IntKind.i64.wrap ((bs : Int) * 2) = ((2 * bs : Nat) : Int) := by rw [wrap64 (by omega)]; omega
  refine W.skip (qs (W.block (W.seq (W.region (pE rfl (pu (bz (ev aa rfl) (y := ((0 + 2 * bs : Nat) : Int)) (by rw [Nat.zero_add]; exact h2b)) rfl ?_))))))
  iterate 2 refine pE rfl ?_
  refine WO.nil (qs (W.seq (W.block ?_)))
  refine W.aU (ι := {x : Nat × Nat × List Pc // match x with | (h, c, T) => c ≤ N ∧ N < c + h ∧ T.length = N ∧ km be N bs h T c = km be N bs (N + 1) M 0})
   (fun x => match x.1 with | (h, c, T) => [(0, .sb 0 N cap), (7, .d (.v (.int .i64 ((c : Nat) : Int)))), (8, .d (.v (.int .i64 (((c + 2 * bs) : Nat) : Int))))]) [(1, _), (2, _), (6, _)]
   (fun x => match x.1 with | (h, c, T) => [(0, aV (T.map Pc.c) k)]) [] [] 1 (fun x => match x.1 with | (h, c, T) => N - c)
   [0] ⟨(N + 1, 0, M), ?_⟩ rfl ?_ ⟨rfl, rfl, rfl, rfl, rfl, rfl, trivial⟩ ?_ trivial rfl ?_
  · exact ⟨Nat.zero_le _, by omega, hM, rfl⟩
  · repeat' first | exact trivial | refine ⟨rfl, ?_⟩
  · repeat' first | exact trivial | refine ⟨congrArg some (a0 _ _ _), ?_⟩
  rintro ⟨⟨h, c, T⟩, hc, hh, hT, hR⟩
  show W _ _ _ _ _ ⟨[(0, .sb 0 N cap), (7, .d (.v (.int .i64 ((c : Nat) : Int)))), (8, .d (.v (.int .i64 (((c + 2 * bs) : Nat) : Int)))), (1, _), (2, _), (6, _)], [(0, aV (T.map Pc.c) k)], [], 1⟩
  obtain ⟨h, rfl⟩ : ∃ q, h = q + 1 := ⟨h - 1, by omega⟩
  rw [sn] at hR
  iterate 2 refine W.seq ?_
  refine W.region ?_
  iterate 3 refine pE rfl ?_
  refine WO.nil (qs (an rfl (fun h35 => ?_) (fun h35 => ?_)))
  ·
   have hq2 : c + 2 * bs ≤ N := by simp at h35; omega
   rw [if_pos hq2] at hR
   have hsl2 := lJ N T c (c + bs) (c + 2 * bs) k cap (by omega) (by omega) (by omega) (by omega) (by omega)
   rw [hT] at hsl2
   have hlen2 := (eB be N T c (c + bs) (c + 2 * bs) (by omega) (by omega) (by omega)).len.trans hT
   refine W.skip (qs (W.block (W.seq (W.region ?_))))
   iterate 4 refine pE rfl ?_
   refine pu (bz (ev aa rfl) (dq (x := c) (y := bs) (by omega))) rfl ?_
   iterate 2 refine pE rfl ?_
   refine fJ 0 rfl rfl rfl rfl hsl2 rfl ?_
   refine WO.nil (qs (W.seq (W.region ?_)))
   iterate 2 refine pE rfl ?_
   refine WO.nil (qs (W.region ?_))
   iterate 2 refine pE rfl ?_
   refine pu (bz (ev aa rfl) (y := ((2 * bs : Nat) : Int)) h2b) rfl ?_
   refine pu (bz (ev aa rfl) (dq (x := c + 2 * bs) (y := 2 * bs) (by omega))) rfl ?_
   refine pE rfl (WO.nil (aZ (W.aW [0] ⟨(h, c + 2 * bs, dE be N T c (c + bs) (c + 2 * bs)), ?_⟩ ?_ rfl ?_ ⟨rfl, rfl, rfl, rfl, rfl, rfl, trivial⟩ ?_ trivial rfl)))
   · exact ⟨by omega, by omega, hlen2, hR⟩
   · dsimp only; omega
   · repeat' first | exact trivial | refine ⟨rfl, ?_⟩
   repeat' first | exact trivial | refine ⟨congrArg some (a0 _ _ _), ?_⟩
  have hq2 : ¬ c + 2 * bs ≤ N := by simp at h35; omega
  rw [if_neg hq2] at hR
  refine W.exit (aK (aP (aL (qs ?_))))
  iterate 2 refine W.seq ?_
  refine W.region ?_
  iterate 2 refine pE rfl ?_
  refine pu (bz (ev aa rfl) (dq (x := c) (y := bs) (by omega))) rfl ?_
  refine pE rfl (WO.nil (qs (W.seq (W.region ?_))))
  iterate 3 refine pE rfl ?_
  refine WO.nil (qs (an rfl (fun h54 => ?_) (fun h54 => ?_)))
  ·
   have hbr : c + bs < N := by simp at h54; omega
   rw [if_pos hbr] at hR
   rw [← hR] at hD
   have hsl3 := lJ N T c (c + bs) N k cap (by omega) (by omega) (by omega) (by omega) (by omega)
   rw [hT] at hsl3
   have hlen3 := (eB be N T c (c + bs) N (by omega) (by omega) (by omega)).len.trans hT
   refine W.region ?_
   iterate 5 refine pE rfl ?_
   refine fJ 0 rfl rfl rfl rfl hsl3 rfl ?_
   refine WO.nil (qs (W.region (pE rfl (pu (bz (ev aa rfl) (y := ((2 * bs : Nat) : Int)) h2c) rfl ?_))))
   refine pE rfl (WO.nil (aZ ?_))
   (have _hb : c + bs < N := hbr; refine W.aW [0] ⟨(g1, 2 * bs, dE be N T c (c + bs) N), ?_⟩ ?_ rfl ?_ ⟨rfl, rfl, rfl, rfl, trivial⟩ ?_ trivial rfl)
   · exact ⟨by omega, by omega, by omega, hlen3, hD⟩
   · dsimp only; omega
   · repeat' first | exact trivial | refine ⟨rfl, ?_⟩
   repeat' first | exact trivial | refine ⟨congrArg some (a0 _ _ _), ?_⟩
  have hbr : ¬ c + bs < N := by simp at h54; omega
  rw [if_neg hbr] at hR
  rw [← hR] at hD
  have hlen3 := hT
  refine W.skip (qs (W.region (pE rfl (pu (bz (ev aa rfl) (y := ((2 * bs : Nat) : Int)) h2c) rfl ?_))))
  refine pE rfl (WO.nil (aZ ?_))
  (have _hb : ¬ c + bs < N := hbr; refine W.aW [0] ⟨(g1, 2 * bs, T), ?_⟩ ?_ rfl ?_ ⟨rfl, rfl, rfl, rfl, trivial⟩ ?_ trivial rfl)
  · exact ⟨by omega, by omega, by omega, hlen3, hD⟩
  · dsimp only; omega
  · repeat' first | exact trivial | refine ⟨rfl, ?_⟩
  repeat' first | exact trivial | refine ⟨congrArg some (a0 _ _ _), ?_⟩
 have hq1 : ¬ bs < N := by simp at h30; omega
 have hE : dF be l = M := by
  rw [← hD]
  cases g1 with
  | zero => rfl
  | succ q => rw [oL, if_neg hq1]
 refine W.exit (aK (aP (aL (fu.end aa [] trivial rfl rfl rfl rfl ?_ ?_))))
 · rw [hE]; exact gG rfl
 rfl
theorem oS (l : List Pc) (k cap : Nat) (hcap : l.length ≤ 100000) :
  cP Try.prog 33 [.sb 0 l.length cap, .clo 34 []] [aV (l.map Pc.c) k] 0 (.tup []) [aV ((dF be l).map Pc.c) k] 0 := by
 refine cP.eP aa (n := 9) (rs := []) Try.func33 (by kernel_rfl) rfl Try.ntmps33 Try.results33 rfl rfl fun C hC hG => ?_
 refine W.region ?_
 iterate 2 refine pE rfl ?_
 refine pu (vK aa rfl rfl rfl) rfl ?_
 refine pE rfl (fJ 0 rfl rfl rfl rfl (sr l k cap hcap) rfl ?_)
 refine WO.nil (fu.end aa [] trivial rfl rfl rfl rfl ?_ ?_)
 · exact gG rfl
 rfl
end Go.Proofs.Ytjenenllmjlimaa
namespace Go.Proofs.Ytjenenllmjlimaa
open Go.Ab Go.Tb
set_option maxRecDepth 10000
attribute [local irreducible] W WO Pu QS QB QL QF QV bD CH QE
theorem nj (a b : bo) (on : List ByteArray) (hon : on.length ≤ 400) : aw Try.prog 8 [.ag a.c, .ag b.c, .d (.sl (on.map sc))]
  (.tup [.ag (dS a b on).1.c, .d (.v (.int .i64 (dS a b on).2))]) 0 := by
 have hcol := gX 7 on [a, b] (by simp) hon
 rw [mN] at hcol
 obtain ⟨CT0, hCT⟩ : ∃ c, cX 7 on a b = c := ⟨_, rfl⟩
 rw [hCT] at hcol
 refine aw.eP aa (n := 148) (rs := [.cell 6 25, .tmp 7]) Try.func8 (by kernel_rfl) rfl Try.ntmps8 Try.results8 rfl fun C hC hG => ?_
 refine W.seq (W.region (bJ rfl rfl rfl (bJ rfl rfl rfl (aX aa rfl rfl rfl (pE rfl (WO.nil (qs (W.seq (W.region (pE rfl (pE rfl (pE rfl (pu (aC aa rfl rfl rfl rfl rfl rfl rfl rfl rfl) rfl ?_)))))))))))))
 refine pu (ab rfl rfl rfl hcol rfl) rfl ?_
 iterate 5 refine pE rfl ?_
 refine WO.nil (qs ?_)
 iterate 2 refine W.seq ?_
 refine W.region ?_
 iterate 2 refine pE rfl ?_
 refine WO.nil (qs (an rfl (fun h36 => ?_) (fun h36 => ?_)))
 ·
  have he : CT0.2 ≠ 0 := by simpa using h36
  have hg : dS a b on = (fb, CT0.2) := by unfold dS; rw [hCT, if_pos he]
  refine W.seq (W.region (pu (build aa rfl rfl rfl rfl) rfl ?_))
  refine pE rfl (aM aa rfl rfl rfl rfl rfl rfl rfl rfl (pE rfl (WO.nil (qs ?_))))
  try refine cf 2 0 rfl rfl rfl ?_
  try refine cf 2 1 rfl rfl rfl ?_
  try refine cf 1 0 rfl rfl rfl ?_
  try refine cf 1 1 rfl rfl rfl ?_
  refine W.ret (ah (QV.aq aa trivial rfl ?_))
  (rw [hg]; rfl)
 have he : CT0.2 = 0 := by simpa using h36
 have hok := tH (.inl rfl) (by rw [hCT]; exact he)
 have hoo := wb hok
 have haz := c9 hok.ga
 have hbz := c9 hok.gb
 have hol := hok.len
 have hra := dU hok.ga
 have hrb := dU hok.gb
 obtain ⟨o, ho⟩ : ∃ o, vh a b on = o := ⟨_, rfl⟩
 have hgo : dS a b on = (match jx o b.rows a.rows [] with | none => (fb, 7) | some rows => (⟨CT0.1, rows⟩, 0)) := by unfold dS; rw [hCT, if_neg (by simp [he]), ho]; rfl
 have e7 : aR 7 = [aN, bM] := rfl
 rw [e7] at hok
 have hpl : aw Try.prog 23 [.ag a.c, .d (.sl (on.map sc))] (.d (.sl (o.left.map nc))) 0 := by
  have := dv a on (by omega)
  rw [eL (fun s hs => by obtain ⟨i, j, c, d, h1, _⟩ := hok.ons s hs; exact ⟨i, h1⟩)] at this
  rw [← ho]; exact this
 have hpr : aw Try.prog 23 [.ag b.c, .d (.sl (on.map sc))] (.d (.sl (o.right.map nc))) 0 := by
  have := dv b on (by omega)
  rw [eL (fun s hs => by obtain ⟨i, j, c, d, _, h1, _⟩ := hok.ons s hs; exact ⟨j, h1⟩)] at this
  rw [← ho]; exact this
 have hpm : aw Try.prog 23 [.ag a.c, .d (.sl ([aN, bM].map sc))] (.d (.sl ([o.m0, o.m1].map nc))) 0 := by
  have := dv a [aN, bM] (by simp)
  rw [eL (fun s hs => by obtain ⟨i, c, h1, _⟩ := hok.spa s hs; exact ⟨i, h1⟩)] at this
  rw [← ho]; exact this
 have hpt : aw Try.prog 23 [.ag b.c, .d (.sl ([aN, bM].map sc))] (.d (.sl ([o.t0, o.t1].map nc))) 0 := by
  have := dv b [aN, bM] (by simp)
  rw [eL (fun s hs => by obtain ⟨i, c, h1, _⟩ := hok.spb s hs; exact ⟨i, h1⟩)] at this
  rw [← ho]; exact this
 have hre : aw Try.prog 24 [.ag b.c, .d (.sl ((on ++ [aN, bM]).map sc))] (.d (.sl (o.more.map nc))) 0 := by
  have := qL b (on ++ [aN, bM]) (by omega)
  rw [← ho]; exact this
 rw [ho] at hoo
 have hll : o.left.length ≤ 16 := by rw [← ho]; show (on.map _).length ≤ _; rw [List.length_map]; exact hol
 have hrl : o.right.length ≤ 16 := by rw [← ho]; show (on.map _).length ≤ _; rw [List.length_map]; exact hol
 have hml : o.more.length ≤ 32 := by rw [← ho]; have := jk (on ++ [aN, bM]) b.cols 0; show (cE _ _ _).length ≤ _; omega
 refine W.skip (qs (W.seq (W.bw aa (by kernel_rfl) ?_)))
 refine ao (ev aa rfl) rfl ?_
 refine ao (ev aa rfl) rfl ?_
 refine ao (ab rfl rfl rfl hpl rfl) rfl ?_
 refine ao (ev aa rfl) rfl ?_
 refine ao (ev aa rfl) rfl ?_
 refine ao (ab rfl rfl rfl hpr rfl) rfl ?_
 iterate 2 refine ao (ev aa rfl) rfl ?_
 refine CH.nil ?_
 refine qs (W.seq (W.bw aa (by kernel_rfl) ?_))
 refine ao (ev aa rfl) rfl ?_
 refine ao (aC aa rfl rfl rfl rfl rfl rfl rfl rfl rfl) rfl ?_
 refine ao (ab rfl rfl rfl hpm rfl) rfl ?_
 refine ao (ev aa rfl) rfl ?_
 refine ao (aC aa rfl rfl rfl rfl rfl rfl rfl rfl rfl) rfl ?_
 refine ao (ab rfl rfl rfl hpt rfl) rfl ?_
 iterate 2 refine ao (ev aa rfl) rfl ?_
 refine CH.nil ?_
 refine qs (W.seq ?_)
 refine' W.eM aa [_, _] [[3], [4]] [4, 5] [2, 4] 5 (by kernel_rfl) (by kernel_rfl) rfl rfl ?hL_1
 case' hL_1 => skip
 refine' aQ (ev aa rfl) ?p_2 rfl rfl rfl (by kernel_rfl) rfl ?h_2
 case' h_2 => skip
 refine' aQ (ev aa rfl) ?p_3 rfl rfl rfl (by kernel_rfl) rfl ?h_3
 case' h_3 => skip
 refine' kC ?x_4 rfl rfl rfl (by kernel_rfl) (fun h => (ae h (by kernel_rfl)).elim) rfl ?h_4
 case x_4 =>
  intro b hb g; cases b
  · exact (ae hb (by kernel_rfl)).elim
  refine eU rfl rfl rfl (oD on (by omega)) (by rfl) rfl rfl ?_
  refine WO.nil ?_
  refine' iv rfl ?_ ?_ ?_ ?_
  all_goals try exact rfl
 case' h_4 => skip
 refine' aQ (aC aa rfl rfl rfl rfl rfl rfl rfl rfl rfl) ?p_5 rfl rfl rfl (by kernel_rfl) rfl ?h_5
 case' h_5 => skip
 refine' kC ?x_6 rfl rfl rfl (by kernel_rfl) (fun h => (ae h (by kernel_rfl)).elim) rfl ?h_6
 case x_6 =>
  intro b hb g; cases b
  · exact (ae hb (by kernel_rfl)).elim
  refine fa (fn := sc) (l := on) (l2 := [aN, bM]) aa rfl rfl rfl rfl rfl rfl rfl rfl rfl rfl (fun _ => rfl) (by show (on.length + 2) * 16 ≤ _; omega) ?_
  refine WO.nil ?_
  refine' iv rfl ?_ ?_ ?_ ?_
  all_goals try exact rfl
 case' h_6 => skip
 case p_2 => refine ⟨fun ha => (ae ha (by kernel_rfl)).elim, ?_, fun ha => (ae ha (by kernel_rfl)).elim, ?_, fun ha => (ae ha (by kernel_rfl)).elim, ?_⟩ <;> intro ha <;> first | exact ⟨ev aa rfl, fun h => nomatch h⟩ | exact ⟨ct aa rfl rfl rfl rfl, fun h => nomatch h⟩ | exact ⟨cw aa rfl rfl rfl rfl rfl, fun h => nomatch h⟩ | exact (ae ha (by kernel_rfl)).elim
 case p_3 => refine ⟨fun ha => (ae ha (by kernel_rfl)).elim, ?_, fun ha => (ae ha (by kernel_rfl)).elim, ?_, fun ha => (ae ha (by kernel_rfl)).elim, ?_⟩ <;> intro ha <;> first | exact ⟨ev aa rfl, fun h => nomatch h⟩ | exact (ae ha (by kernel_rfl)).elim
 case p_5 => refine ⟨fun ha => (ae ha (by kernel_rfl)).elim, ?_, fun ha => (ae ha (by kernel_rfl)).elim, ?_, fun ha => (ae ha (by kernel_rfl)).elim, ?_⟩ <;> intro ha <;> first | exact ⟨aC aa rfl rfl rfl rfl rfl rfl rfl rfl rfl, fun h => nomatch h⟩ | exact (ae ha (by kernel_rfl)).elim
 refine CD.nil ?_ rfl
 refine pu (ab rfl rfl rfl hre rfl) rfl ?_
 refine pE rfl (WO.nil (qs (W.seq (W.region (pE rfl (pu (build aa rfl rfl rfl rfl) rfl ?_))))))
 refine aX aa rfl rfl rfl (aM aa rfl rfl rfl rfl rfl rfl rfl rfl (WO.nil (qs ?_)))
 iterate 2 refine W.seq ?_
 refine W.region (pE rfl (pE rfl ?_))
 iterate 2 refine pE rfl ?_
 refine WO.nil (qs (W.block (ew 5 1 rfl rfl rfl ?_)))
 refine W.len (t := 60) rfl rfl (fun hlen => ?_)
 try simp only [List.length_map, Ex.aA] at hlen
 refine W.aU (ι := {x : Nat × List (List aH) // match x with | (i, out) => i ≤ a.rows.length ∧ out.length ≤ 20000 ∧ jx o b.rows (a.rows.drop i) out = jx o b.rows a.rows []})
  (fun x => match x.1 with | (i, out) => [(4, .ptr 0 0), (6, .ptr 1 0), (15, .ptr 2 0), (62, .d (.v (.int .i64 ((i : Nat) : Int))))]) [(10, _), (11, _), (12, _), (13, _), (14, _), (60, _), (61, _)]
  (fun x => match x.1 with | (i, out) => [(0, b.c.map A.d), (1, [.d (.v (.slice none 0 0)), .d (.v (.slice none 0 0))]), (2, [.d (.sl (CT0.1.map Col.c)), .own 3 (out.map rc)])]) [] [3] 4 (fun x => match x.1 with | (i, out) => a.rows.length - i)
  [1, 2, 5, 6] ⟨(0, []), ?_⟩ rfl ?_ ⟨rfl, rfl, rfl, rfl, rfl, rfl, rfl, rfl, rfl, rfl, rfl, rfl, rfl, rfl, trivial⟩ ?_ trivial rfl ?_
 · exact ⟨Nat.zero_le _, Nat.zero_le _, rfl⟩
 · repeat' first | exact trivial | refine ⟨rfl, ?_⟩
 · repeat' first | exact trivial | refine ⟨rfl, ?_⟩
 rintro ⟨⟨i, out⟩, hk, hn, hI⟩
 show W _ _ _ _ _ ⟨[(4, .ptr 0 0), (6, .ptr 1 0), (15, .ptr 2 0), (62, .d (.v (.int .i64 ((i : Nat) : Int)))), (10, _), (11, _), (12, _), (13, _), (14, _), (60, _), (61, _)], [(0, b.c.map A.d), (1, [.d (.v (.slice none 0 0)), .d (.v (.slice none 0 0))]), (2, [.d (.sl (CT0.1.map Col.c)), .own 3 (out.map rc)])], [3], 4⟩
 refine W.seq (W.region (pE rfl (WO.nil (qs (W.seq (bb (l := a.rows) (k := i) rfl (by simp [Ex.aA, aI]) hk (fun z hx hd hlt => ?_) (fun he hd => ?_)))))))
 ·
  rw [hd] at hI
  simp only [jx] at hI
  have hxm := List.mem_of_getElem? hx
  have hxl := (hra z hxm).1
  have hsx := lM z o.m0 o.m1 (by rw [hxl]; exact hoo.m0) (by rw [hxl]; exact hoo.m1)
  have hpx := gf z o.left (by omega) (fun q hq => by rw [hxl]; exact hoo.left q hq)
  refine W.skip (qs (W.seq (W.block (W.seq (W.region (pu (indexAddr aa rfl rfl rfl rfl rfl rfl (Int.natCast_nonneg _) (aF hx) rfl) rfl ?_))))))
  refine pE rfl (pE rfl (WO.nil (qs (W.seq (W.region ?_)))))
  iterate 2 refine pE rfl ?_
  refine pu (ab rfl rfl rfl hsx rfl) rfl ?_
  iterate 3 refine pE rfl ?_
  refine aX aa rfl rfl rfl (aM aa rfl rfl rfl rfl rfl rfl rfl rfl (pE rfl (WO.nil (qs ?_))))
  iterate 2 refine W.seq ?_
  refine W.region ?_
  iterate 2 refine pE rfl ?_
  refine WO.nil (qs (an rfl (fun h73 => ?_) (fun h73 => ?_)))
  ·
   have hbr : da z o.m0 o.m1 = false := by simpa using h73
   rw [if_neg (by simp [hbr])] at hI
   refine W.exit (aK (aL (qs (W.region ?_))))
   iterate 2 refine pE rfl ?_
   refine WO.nil ?_
   (have _hb : da z o.m0 o.m1 = false := hbr; refine W.aW [0, 1, 2, 3] ⟨(i + 1, out), ?_⟩ ?_ rfl ?_ ⟨rfl, rfl, rfl, rfl, rfl, rfl, rfl, rfl, rfl, rfl, rfl, rfl, rfl, rfl, trivial⟩ ?_ trivial rfl)
   · exact ⟨hlt, (by first | exact hn2 | exact hn), hI⟩
   · dsimp only; omega
   · repeat' first | exact trivial | refine ⟨rfl, ?_⟩ | refine ⟨aE (by assumption) (by assumption), ?_⟩
   repeat' first | exact trivial | refine ⟨rfl, ?_⟩
  have hbr : da z o.m0 o.m1 = true := by simpa using h73
  rw [if_pos hbr] at hI
  refine W.skip (qs (W.seq (W.region (pE rfl (pE rfl ?_)))))
  iterate 2 refine pE rfl ?_
  refine WO.nil (qs (W.block (W.len (t := 75) rfl rfl (fun hlen => ?_))))
  try simp only [List.length_map, Ex.aA] at hlen
  refine W.aU (ι := {x : Nat × List (List aH) // match x with | (j, out2) => j ≤ b.rows.length ∧ out2.length ≤ 20000 ∧ mx o z (b.rows.drop j) out2 = mx o z b.rows out})
   (fun x => match x.1 with | (j, out2) => [(4, .ptr 0 0), (6, .ptr 1 0), (15, .ptr 2 0), (18, .ptr 4 0), (77, .d (.v (.int .i64 ((j : Nat) : Int))))]) [(10, _), (11, _), (12, _), (13, _), (14, _), (17, _), (60, _), (61, _), (62, _), (75, _), (76, _)]
   (fun x => match x.1 with | (j, out2) => [(0, b.c.map A.d), (1, [.d (.v (.slice none 0 0)), .d (.v (.slice none 0 0))]), (2, [.d (.sl (CT0.1.map Col.c)), .own 3 (out2.map rc)]), (4, [.d (ci (br z o.m0).n), .d (ci (br z o.m1).n)])]) [] [3] 5 (fun x => match x.1 with | (j, out2) => b.rows.length - j)
   [0, 1, 2, 3, 4] ⟨(0, out), ?_⟩ rfl ?_ ⟨rfl, rfl, rfl, rfl, rfl, rfl, rfl, rfl, rfl, rfl, rfl, rfl, rfl, rfl, rfl, rfl, rfl, rfl, rfl, rfl, rfl, rfl, trivial⟩ ?_ trivial rfl ?_
  · exact ⟨Nat.zero_le _, hn, rfl⟩
  · repeat' first | exact trivial | refine ⟨rfl, ?_⟩
  · repeat' first | exact trivial | refine ⟨rfl, ?_⟩
  rintro ⟨⟨j, out2⟩, hk, hn2, hJ⟩
  show W _ _ _ _ _ ⟨[(4, .ptr 0 0), (6, .ptr 1 0), (15, .ptr 2 0), (18, .ptr 4 0), (77, .d (.v (.int .i64 ((j : Nat) : Int)))), (10, _), (11, _), (12, _), (13, _), (14, _), (17, _), (60, _), (61, _), (62, _), (75, _), (76, _)], [(0, b.c.map A.d), (1, [.d (.v (.slice none 0 0)), .d (.v (.slice none 0 0))]), (2, [.d (.sl (CT0.1.map Col.c)), .own 3 (out2.map rc)]), (4, [.d (ci (br z o.m0).n), .d (ci (br z o.m1).n)])], [3], 5⟩
  refine W.seq (W.region (pE rfl (WO.nil (qs (W.seq (bb (l := b.rows) (k := j) rfl (by simp [Ex.aA, aI]) hk (fun y hx hd hlt => ?_) (fun he hd => ?_)))))))
  ·
   rw [hd] at hJ
   simp only [mx] at hJ
   have hym := List.mem_of_getElem? hx
   have hyl := (hrb y hym).1
   have hsy := lM y o.t0 o.t1 (by rw [hyl]; exact hoo.t0) (by rw [hyl]; exact hoo.t1)
   have hpy := gf y o.right (by omega) (fun q hq => by rw [hyl]; exact hoo.right q hq)
   have hpz := gf y o.more (by omega) (fun q hq => by rw [hyl]; exact hoo.more q hq)
   have hpzl : (bt y o.more).length = o.more.length := List.length_map _
   refine W.skip (qs (W.seq (W.block (W.seq (W.region (pu (indexAddr aa rfl rfl rfl rfl rfl rfl (Int.natCast_nonneg _) (aF hx) rfl) rfl ?_))))))
   refine pE rfl (pE rfl (WO.nil (qs (W.seq (W.region ?_)))))
   iterate 2 refine pE rfl ?_
   refine pu (ab rfl rfl rfl hsy rfl) rfl ?_
   iterate 3 refine pE rfl ?_
   refine aX aa rfl rfl rfl (aM aa rfl rfl rfl rfl rfl rfl rfl rfl (pE rfl (WO.nil (qs (W.seq (W.bw aa (by kernel_rfl) ?_))))))
   refine ao (ev aa rfl) rfl ?_
   refine ao (ev aa rfl) rfl ?_
   refine ao (ev aa rfl) rfl ?_
   refine ao (ev aa rfl) rfl ?_
   iterate 2 refine ao (ev aa rfl) rfl ?_
   refine ao (ev aa rfl) rfl ?_
   refine ao (ev aa rfl) rfl ?_
   refine ao (ev aa rfl) rfl ?_
   iterate 3 refine ao (ev aa rfl) rfl ?_
   refine CH.nil ?_
   refine qs ?_
   iterate 2 refine W.seq ?_
   apply aG; (case hb => rfl)
   ·
    iterate 3 refine pE rfl ?_
    apply aD; (case hj => rfl); (case hl => rfl)
    ·
     iterate 3 refine ax rfl rfl rfl rfl ?_
     iterate 2 refine pE rfl ?_
     iterate 8 refine ax rfl rfl rfl rfl ?_
     refine pE rfl (WO.nil (aB rfl rfl rfl))
    refine ak rfl rfl (pE rfl (ak rfl rfl (pE rfl (ak rfl rfl ?_))))
    iterate 3 refine pE rfl ?_
    apply aD; (case hj => rfl); (case hl => rfl)
    ·
     iterate 8 refine ax rfl rfl rfl rfl ?_
     refine pE rfl (WO.nil (aB rfl rfl rfl))
    refine ak rfl rfl (pE rfl (ak rfl rfl (pE rfl (ak rfl rfl (pu (ab rfl rfl rfl hpx rfl) rfl ?_)))))
    refine ak rfl rfl (pE rfl (ak rfl rfl (pE rfl (ak rfl rfl (pu (ab rfl rfl rfl hpy rfl) rfl ?_)))))
    refine ak rfl rfl (pu (ab rfl rfl rfl (pW (bt z o.left) (bt y o.right)) rfl) rfl ?_)
    refine ak rfl rfl ?_
    iterate 2 refine pE rfl ?_
    refine WO.nil (aB rfl rfl rfl)
   refine qs (an rfl (fun h113 => ?_) (fun h113 => ?_))
   ·
    have hbr2 : j8 o z y = false := by
     unfold j8 oh qG
     revert h113
     cases da y o.t0 o.t1 <;> cases ij (bt z o.left) (bt y o.right) <;> simp
    rw [if_neg (by simp [hbr2])] at hJ
    refine W.exit (aK (aL (qs (W.region ?_))))
    iterate 2 refine pE rfl ?_
    refine WO.nil ?_
    have hbr := hbr2
    (have _hb : j8 o z y = false := hbr; refine W.aW [0, 1, 2, 3, 4] ⟨(j + 1, out2), ?_⟩ ?_ rfl ?_ ⟨rfl, rfl, rfl, rfl, rfl, rfl, rfl, rfl, rfl, rfl, rfl, rfl, rfl, rfl, rfl, rfl, rfl, rfl, rfl, rfl, rfl, rfl, trivial⟩ ?_ trivial rfl)
    · exact ⟨hlt, (by first | exact hn2 | (rw [List.length_append]; simp; omega)), hJ⟩
    · dsimp only; omega
    · repeat' first | exact trivial | refine ⟨rfl, ?_⟩ | refine ⟨aE (by assumption) (by assumption), ?_⟩
    repeat' first | exact trivial | refine ⟨rfl, ?_⟩
   have hbr2 : j8 o z y = true := by
    unfold j8 oh qG
    revert h113
    cases da y o.t0 o.t1 <;> cases ij (bt z o.left) (bt y o.right) <;> simp
   rw [if_pos hbr2] at hJ
   refine W.skip (qs ?_)
   iterate 2 refine W.seq ?_
   refine W.region (pE rfl (pE rfl ?_))
   iterate 2 refine pE rfl ?_
   refine WO.nil (qs (an rfl (fun h117 => ?_) (fun h117 => ?_)))
   ·
    have hq : out2.length = 20000 := by simp at h117; omega
    rw [if_pos hq] at hJ
    have hg : dS a b on = (fb, 7) := by
     rw [← hJ] at hI
     rw [hgo, ← hI]
    refine W.seq (W.region (pu (build aa rfl rfl rfl rfl) rfl ?_))
    refine aM aa rfl rfl rfl rfl rfl rfl rfl rfl (pE rfl (WO.nil (qs ?_)))
    try refine cf 2 0 rfl rfl rfl ?_
    try refine cf 2 1 rfl rfl rfl ?_
    try refine cf 1 0 rfl rfl rfl ?_
    try refine cf 1 1 rfl rfl rfl ?_
    refine W.ret (ah (ar (ah (bh (ar (ar (ah (bh (ar (ah (QV.aq aa trivial rfl ?_)))))))))))
    (rw [hg]; rfl)
   have hq : ¬ out2.length = 20000 := by simp at h117; omega
   rw [if_neg hq] at hJ
   have hzp : 0 < ((z ++ bt y o.more).map aH.c).length := by rw [List.length_map, List.length_append, hxl]; have := hoo.m0; omega
   have hr0 : ((z ++ bt y o.more).map aH.c)[o.m0]? = some (br (z ++ bt y o.more) o.m0).c := by
    rw [List.getElem?_map, iJ (by rw [List.length_append, hxl]; have := hoo.m0; omega)]; rfl
   have hr1 : ((kV (z ++ bt y o.more) o.m0 (oh o z y)).map aH.c)[o.m1]? = some (br (kV (z ++ bt y o.more) o.m0 (oh o z y)) o.m1).c := by
    rw [List.getElem?_map, iJ (by rw [kj, List.length_append, hxl]; have := hoo.m1; omega)]; rfl
   have hl0 := (List.getElem?_eq_some_iff.1 hr0).1
   have hl1 : o.m1 < ((z ++ bt y o.more).map aH.c).length := by have := (List.getElem?_eq_some_iff.1 hr1).1; rw [List.length_map, kj] at this; rw [List.length_map]; exact this
   refine W.skip (qs (W.seq (W.region (pE rfl (iC [] [] rfl rfl rfl rfl rfl ((sB z (by omega))) rfl rfl (by rfl) (by rfl) rfl rfl rfl rfl ?_)))))
   iterate 2 refine pE rfl ?_
   refine pu (ab rfl rfl rfl hpz rfl) rfl ?_
   refine gQ (es2 := (bt y o.more).map aH.c) (r := (z ++ bt y o.more).map aH.c) aa rfl rfl rfl rfl rfl rfl rfl rfl rfl rfl (List.map_append).symm (by rw [← List.map_append]; exact kK _) (by show ((z.map aH.c).length + ((bt y o.more).map aH.c).length) * 32 ≤ _; rw [List.length_map, List.length_map]; omega) rfl ?_
   refine pE rfl (WO.nil (qs (W.seq (vg 26 rfl rfl rfl hzp rfl (fun cap22 k22 => ?_)))))
   apply W.gJ aa 13 12; (case hB => kernel_rfl); (case h1 => rfl); (case h2 => rfl)
   refine' ba (ev aa rfl) rfl rfl rfl rfl rfl ?h_7
   case' h_7 => skip
   refine' ba (ev aa rfl) rfl rfl rfl rfl rfl ?h_8
   case' h_8 => skip
   refine' ba (indexAddr (l := nc o.m0) aa rfl rfl rfl rfl rfl rfl (by decide) rfl rfl) rfl rfl rfl rfl rfl ?h_9
   case' h_9 => skip
   refine' ba (ev aa rfl) rfl rfl rfl rfl rfl ?h_10
   case' h_10 => skip
   refine' bG ?p1_11 (ev aa rfl) rfl rfl rfl rfl rfl ?h_11
   case' h_11 => skip
   refine' bG ?p1_12 (ev aa rfl) rfl rfl rfl rfl rfl ?h_12
   case' h_12 => skip
   refine' bG ?p1_13 (indexAddr (l := nc o.m1) aa rfl rfl rfl rfl rfl rfl (by decide) rfl rfl) rfl rfl rfl rfl rfl ?h_13
   case' h_13 => skip
   refine' ba (ev aa rfl) rfl rfl rfl rfl rfl ?h_14
   case' h_14 => skip
   refine' ba (ev aa rfl) rfl rfl rfl rfl rfl ?h_15
   case' h_15 => skip
   refine' bG ?p1_16 (ev aa rfl) rfl rfl rfl rfl rfl ?h_16
   case' h_16 => skip
   refine' bG ?p1_17 (bk aa rfl rfl rfl rfl rfl (Int.natCast_nonneg _) hl0 rfl) rfl rfl rfl rfl rfl ?h_17
   case' h_17 => skip
   refine' ba (ev aa rfl) rfl rfl rfl rfl rfl ?h_18
   case' h_18 => skip
   refine' kz (fun g => ?e_19) rfl rfl ?h_19
   case e_19 =>
    refine pU (i := o.m0) (off := 1) (sz := 3) (cs := [ci (oh o z y)]) aa rfl rfl rfl rfl rfl (kK _) hr0 (by simp) rfl (by simp) (mK (n := oh o z y)) ?_
    refine WO.nil ?_
    exact ⟨rfl, rfl⟩
   case' h_19 => skip
   case p1_11 => exact (ev aa rfl)
   case p1_12 => exact (ev aa rfl)
   case p1_13 => exact (indexAddr (l := nc o.m1) aa rfl rfl rfl rfl rfl rfl (by decide) rfl rfl)
   case p1_16 => exact (ev aa rfl)
   case p1_17 => exact (bk aa rfl rfl rfl rfl rfl (Int.natCast_nonneg _) hl0 rfl)
   refine CC.nil ?_
   refine pu (bk aa rfl rfl rfl rfl rfl (Int.natCast_nonneg _) hl1 rfl) rfl ?_
   refine pE rfl (pU (i := o.m1) (off := 1) (sz := 3) (cs := [ci (qG o z y)]) aa rfl rfl rfl rfl rfl (kK _) hr1 (by simp) rfl (by simp) (mK (n := qG o z y)) ?_)
   refine WO.nil (qs (pn (sz := 3) 26 rfl rfl rfl (by rw [List.length_map, List.length_map, kj, kj]) (kK _) rfl rfl ?_))
   refine W.region (pE rfl (pE rfl (pE rfl (pu (aC aa rfl rfl rfl rfl rfl rfl rfl rfl rfl) rfl ?_))))
   refine ca (fn := rc) (a := sH o z y) aa rfl rfl rfl rfl rfl rfl rfl rfl rfl rfl (fun _ => rfl) (by show (out2.length + 1) * 24 ≤ _; omega) ?_
   refine pE rfl (aM aa rfl rfl rfl rfl rfl rfl rfl rfl (WO.nil (aZ (qs (W.region ?_)))))
   iterate 2 refine pE rfl ?_
   refine WO.nil ?_
   have hbr := hbr2
   (have _hb : j8 o z y = true := hbr; refine W.aW [0, 1, 2, 9, 4] ⟨(j + 1, out2 ++ [sH o z y]), ?_⟩ ?_ rfl ?_ ⟨rfl, rfl, rfl, rfl, rfl, rfl, rfl, rfl, rfl, rfl, rfl, rfl, rfl, rfl, rfl, rfl, rfl, rfl, rfl, rfl, rfl, rfl, trivial⟩ ?_ trivial rfl)
   · exact ⟨hlt, (by first | exact hn2 | (rw [List.length_append]; simp; omega)), hJ⟩
   · dsimp only; omega
   · repeat' first | exact trivial | refine ⟨rfl, ?_⟩ | refine ⟨aE (by assumption) (by assumption), ?_⟩
   repeat' first | exact trivial | refine ⟨rfl, ?_⟩
  rw [hd] at hJ
  simp only [mx] at hJ
  rw [← hJ] at hI
  dsimp only at hI
  refine W.exit (aK (aP (aL (aZ (qs (W.region ?_))))))
  iterate 2 refine pE rfl ?_
  refine WO.nil ?_
  (have _hb : da z o.m0 o.m1 = true := hbr; refine W.aW [0, 1, 2, 3] ⟨(i + 1, out2), ?_⟩ ?_ rfl ?_ ⟨rfl, rfl, rfl, rfl, rfl, rfl, rfl, rfl, rfl, rfl, rfl, rfl, rfl, rfl, trivial⟩ ?_ trivial rfl)
  · exact ⟨hlt, (by first | exact hn2 | exact hn), hI⟩
  · dsimp only; omega
  · repeat' first | exact trivial | refine ⟨rfl, ?_⟩ | refine ⟨aE (by assumption) (by assumption), ?_⟩
  repeat' first | exact trivial | refine ⟨rfl, ?_⟩
 rw [hd] at hI
 simp only [jx] at hI
 have hg : dS a b on = (⟨CT0.1, out⟩, 0) := by rw [hgo, ← hI]
 refine W.exit (aK (aP (aL (qs (W.seq (W.region (pE rfl (aM aa rfl rfl rfl rfl rfl rfl rfl rfl (pE rfl (WO.nil (qs ?_)))))))))))
 try refine cf 2 0 rfl rfl rfl ?_
 try refine cf 2 1 rfl rfl rfl ?_
 try refine cf 1 0 rfl rfl rfl ?_
 try refine cf 1 1 rfl rfl rfl ?_
 refine W.ret (QV.aq aa trivial rfl ?_)
 (rw [hg]; rfl)
end Go.Proofs.Ytjenenllmjlimaa
namespace Go.Proofs.Ytjenenllmjlimaa
open Go.Ab Go.Tb
set_option maxRecDepth 10000
attribute [local irreducible] W WO Pu QS QB QL QF QV bD CH QE
theorem uw (m : Nat) : List.replicate m (([.int .i64 0, .int .i64 0, .string (B #[])] : List Value).map D.v) = (List.replicate m eV).map aH.c := by
 rw [List.map_replicate]
 rfl
theorem nJ (a b : bo) (on : List ByteArray) (hon : on.length ≤ 400) : aw Try.prog 11 [.ag a.c, .ag b.c, .d (.sl (on.map sc))]
  (.tup [.ag (cH a b on).1.c, .d (.v (.int .i64 (cH a b on).2))]) 0 := by
 have hcol := gX 8 on [a, b] (by simp) hon
 rw [mN] at hcol
 obtain ⟨CT0, hCT⟩ : ∃ c, cX 8 on a b = c := ⟨_, rfl⟩
 rw [hCT] at hcol
 refine aw.eP aa (n := 143) (rs := [.cell 6 25, .tmp 7]) Try.func11 (by kernel_rfl) rfl Try.ntmps11 Try.results11 rfl fun C hC hG => ?_
 refine W.seq (W.region (bJ rfl rfl rfl (bJ rfl rfl rfl (aX aa rfl rfl rfl (pE rfl (WO.nil (qs (W.seq (W.region (pE rfl (pE rfl (pE rfl (pu (aC aa rfl rfl rfl rfl rfl rfl rfl rfl rfl) rfl ?_)))))))))))))
 refine pu (ab rfl rfl rfl hcol rfl) rfl ?_
 iterate 5 refine pE rfl ?_
 refine WO.nil (qs ?_)
 iterate 2 refine W.seq ?_
 refine W.region ?_
 iterate 2 refine pE rfl ?_
 refine WO.nil (qs (an rfl (fun h33 => ?_) (fun h33 => ?_)))
 ·
  have he : CT0.2 ≠ 0 := by simpa using h33
  have hg : cH a b on = (fb, CT0.2) := by unfold cH; rw [hCT, if_pos he]
  refine W.seq (W.region (pu (build aa rfl rfl rfl rfl) rfl ?_))
  refine pE rfl (aM aa rfl rfl rfl rfl rfl rfl rfl rfl (pE rfl (WO.nil (qs ?_))))
  try refine cf 2 0 rfl rfl rfl ?_
  try refine cf 2 1 rfl rfl rfl ?_
  refine W.ret (ah (QV.aq aa trivial rfl ?_))
  (rw [hg]; rfl)
 have he : CT0.2 = 0 := by simpa using h33
 have hok := tH (.inr rfl) (by rw [hCT]; exact he)
 have hoo := wj hok
 have haz := c9 hok.ga
 have hbz := c9 hok.gb
 have hol := hok.len
 have hra := dU hok.ga
 have hrb := dU hok.gb
 obtain ⟨o, ho⟩ : ∃ o, py a b on = o := ⟨_, rfl⟩
 have hgo : cH a b on = (⟨CT0.1, a.rows.map (fW o b.rows)⟩, 0) := by unfold cH; rw [hCT, if_neg (by simp [he]), ho]
 have e8 : aR 8 = [aN] := rfl
 rw [e8] at hok
 have hpl : aw Try.prog 23 [.ag a.c, .d (.sl (on.map sc))] (.d (.sl (o.left.map nc))) 0 := by
  have := dv a on (by omega)
  rw [eL (fun s hs => by obtain ⟨i, j, c, d, h1, _⟩ := hok.ons s hs; exact ⟨i, h1⟩)] at this
  rw [← ho]; exact this
 have hpr : aw Try.prog 23 [.ag b.c, .d (.sl (on.map sc))] (.d (.sl (o.right.map nc))) 0 := by
  have := dv b on (by omega)
  rw [eL (fun s hs => by obtain ⟨i, j, c, d, _, h1, _⟩ := hok.ons s hs; exact ⟨j, h1⟩)] at this
  rw [← ho]; exact this
 have hcm : aw Try.prog 30 [.ag a.c, .d (.v (.string aN))] (.d (.v (.int .i64 (o.m : Int)))) 0 := by
  have h0 := nL a aN
  obtain ⟨i, c, h1, _⟩ := hok.spa aN (by simp)
  have h2 : (a.cols.findIdx? fun x => decide (x.name = aN)) = some i := h1
  rw [h2] at h0
  have h3 : o.m = i := by rw [← ho]; exact cU h1
  rw [h3]; exact h0
 have hct : aw Try.prog 30 [.ag b.c, .d (.v (.string aN))] (.d (.v (.int .i64 (o.t : Int)))) 0 := by
  have h0 := nL b aN
  obtain ⟨i, c, h1, _⟩ := hok.spb aN (by simp)
  have h2 : (b.cols.findIdx? fun x => decide (x.name = aN)) = some i := h1
  rw [h2] at h0
  have h3 : o.t = i := by rw [← ho]; exact cU h1
  rw [h3]; exact h0
 have hre : aw Try.prog 24 [.ag b.c, .d (.sl ((on ++ [aN]).map sc))] (.d (.sl (o.more.map nc))) 0 := by
  have := qL b (on ++ [aN]) (by omega)
  rw [← ho]; exact this
 rw [ho] at hoo
 have hll : o.left.length ≤ 16 := by rw [← ho]; show (on.map _).length ≤ _; rw [List.length_map]; exact hol
 have hrl : o.right.length ≤ 16 := by rw [← ho]; show (on.map _).length ≤ _; rw [List.length_map]; exact hol
 have hml : o.more.length ≤ 32 := by rw [← ho]; have := jk (on ++ [aN]) b.cols 0; show (cE _ _ _).length ≤ _; omega
 have hmm : (o.more.map nc).length = o.more.length := List.length_map _
 refine W.skip (qs (W.seq (W.bw aa (by kernel_rfl) ?_)))
 refine ao (ev aa rfl) rfl ?_
 refine ao (ev aa rfl) rfl ?_
 refine ao (ab rfl rfl rfl hpl rfl) rfl ?_
 refine ao (ev aa rfl) rfl ?_
 refine ao (ev aa rfl) rfl ?_
 refine ao (ab rfl rfl rfl hpr rfl) rfl ?_
 iterate 2 refine ao (ev aa rfl) rfl ?_
 refine CH.nil ?_
 refine qs (W.seq (W.bw aa (by kernel_rfl) ?_))
 refine ao (ev aa rfl) rfl ?_
 refine ao (ab rfl rfl rfl hcm rfl) rfl ?_
 refine ao (ev aa rfl) rfl ?_
 refine ao (ab rfl rfl rfl hct rfl) rfl ?_
 iterate 2 refine ao (ev aa rfl) rfl ?_
 refine CH.nil ?_
 refine qs (W.seq ?_)
 refine' W.eM aa [_, _] [[3], [4]] [4, 5] [2, 4] 5 (by kernel_rfl) (by kernel_rfl) rfl rfl ?hL_1
 case' hL_1 => skip
 refine' aQ (ev aa rfl) ?p_2 rfl rfl rfl (by kernel_rfl) rfl ?h_2
 case' h_2 => skip
 refine' aQ (ev aa rfl) ?p_3 rfl rfl rfl (by kernel_rfl) rfl ?h_3
 case' h_3 => skip
 refine' kC ?x_4 rfl rfl rfl (by kernel_rfl) (fun h => (ae h (by kernel_rfl)).elim) rfl ?h_4
 case x_4 =>
  intro b hb g; cases b
  · exact (ae hb (by kernel_rfl)).elim
  refine eU rfl rfl rfl (oD on (by omega)) (by rfl) rfl rfl ?_
  refine WO.nil ?_
  refine' iv rfl ?_ ?_ ?_ ?_
  all_goals try exact rfl
 case' h_4 => skip
 refine' aQ (aC aa rfl rfl rfl rfl rfl rfl rfl rfl rfl) ?p_5 rfl rfl rfl (by kernel_rfl) rfl ?h_5
 case' h_5 => skip
 refine' kC ?x_6 rfl rfl rfl (by kernel_rfl) (fun h => (ae h (by kernel_rfl)).elim) rfl ?h_6
 case x_6 =>
  intro b hb g; cases b
  · exact (ae hb (by kernel_rfl)).elim
  refine ca (fn := sc) (l := on) (a := aN) aa rfl rfl rfl rfl rfl rfl rfl rfl rfl rfl (fun _ => rfl) (by show (on.length + 1) * 16 ≤ _; omega) ?_
  refine WO.nil ?_
  refine' iv rfl ?_ ?_ ?_ ?_
  all_goals try exact rfl
 case' h_6 => skip
 case p_2 => refine ⟨fun ha => (ae ha (by kernel_rfl)).elim, ?_, fun ha => (ae ha (by kernel_rfl)).elim, ?_, fun ha => (ae ha (by kernel_rfl)).elim, ?_⟩ <;> intro ha <;> first | exact ⟨ev aa rfl, fun h => nomatch h⟩ | exact ⟨ct aa rfl rfl rfl rfl, fun h => nomatch h⟩ | exact ⟨cw aa rfl rfl rfl rfl rfl, fun h => nomatch h⟩ | exact (ae ha (by kernel_rfl)).elim
 case p_3 => refine ⟨fun ha => (ae ha (by kernel_rfl)).elim, ?_, fun ha => (ae ha (by kernel_rfl)).elim, ?_, fun ha => (ae ha (by kernel_rfl)).elim, ?_⟩ <;> intro ha <;> first | exact ⟨ev aa rfl, fun h => nomatch h⟩ | exact (ae ha (by kernel_rfl)).elim
 case p_5 => refine ⟨fun ha => (ae ha (by kernel_rfl)).elim, ?_, fun ha => (ae ha (by kernel_rfl)).elim, ?_, fun ha => (ae ha (by kernel_rfl)).elim, ?_⟩ <;> intro ha <;> first | exact ⟨aC aa rfl rfl rfl rfl rfl rfl rfl rfl rfl, fun h => nomatch h⟩ | exact (ae ha (by kernel_rfl)).elim
 refine CD.nil ?_ rfl
 refine pu (ab rfl rfl rfl hre rfl) rfl ?_
 refine pE rfl (WO.nil (qs (W.seq (W.region (pE rfl (pu (build aa rfl rfl rfl rfl) rfl ?_))))))
 refine aX aa rfl rfl rfl (aM aa rfl rfl rfl rfl rfl rfl rfl rfl (WO.nil (qs ?_)))
 iterate 2 refine W.seq ?_
 refine W.region (pE rfl (pE rfl ?_))
 iterate 2 refine pE rfl ?_
 refine WO.nil (qs (W.block (ew 5 1 rfl rfl rfl ?_)))
 refine W.len (t := 55) rfl rfl (fun hlen => ?_)
 try simp only [List.length_map, Ex.aA] at hlen
 refine W.aU (ι := {x : Nat × List (List aH) // match x with | (i, out) => i ≤ a.rows.length ∧ out = (a.rows.take i).map (fW o b.rows)})
  (fun x => match x.1 with | (i, out) => [(4, .ptr 0 0), (6, .ptr 1 0), (15, .ptr 2 0), (57, .d (.v (.int .i64 ((i : Nat) : Int))))]) [(10, _), (11, _), (12, _), (13, _), (14, _), (55, _), (56, _)]
  (fun x => match x.1 with | (i, out) => [(0, b.c.map A.d), (1, [.d (.v (.slice none 0 0)), .d (.v (.slice none 0 0))]), (2, [.d (.sl (CT0.1.map Col.c)), .own 3 (out.map rc)])]) [] [3] 4 (fun x => match x.1 with | (i, out) => a.rows.length - i)
  [1, 2, 5, 6] ⟨(0, []), ?_⟩ rfl ?_ ⟨rfl, rfl, rfl, rfl, rfl, rfl, rfl, rfl, rfl, rfl, rfl, rfl, rfl, rfl, trivial⟩ ?_ trivial rfl ?_
 · exact ⟨Nat.zero_le _, rfl⟩
 · repeat' first | exact trivial | refine ⟨rfl, ?_⟩
 · repeat' first | exact trivial | refine ⟨rfl, ?_⟩
 rintro ⟨⟨i, out⟩, hk, hI⟩
 show W _ _ _ _ _ ⟨[(4, .ptr 0 0), (6, .ptr 1 0), (15, .ptr 2 0), (57, .d (.v (.int .i64 ((i : Nat) : Int)))), (10, _), (11, _), (12, _), (13, _), (14, _), (55, _), (56, _)], [(0, b.c.map A.d), (1, [.d (.v (.slice none 0 0)), .d (.v (.slice none 0 0))]), (2, [.d (.sl (CT0.1.map Col.c)), .own 3 (out.map rc)])], [3], 4⟩
 refine W.seq (W.region (pE rfl (WO.nil (qs (W.seq (bb (l := a.rows) (k := i) rfl (by simp [Ex.aA, aI]) hk (fun z hx hd hlt => ?_) (fun he hd => ?_)))))))
 ·
  have hzx := hx
  have hzlt := hlt
  have hxm := List.mem_of_getElem? hx
  have hxl := (hra z hxm).1
  have hpx := gf z o.left (by omega) (fun q hq => by rw [hxl]; exact hoo.left q hq)
  have hoi : out.length ≤ 20000 := by rw [hI, List.length_map, List.length_take]; omega
  have hzm : (z.map aH.c)[((o.m : Nat) : Int).toNat]? = some (br z o.m).c := aF (iJ (by rw [hxl]; exact hoo.mm))
  refine W.skip (qs (W.seq (W.block (W.seq (W.region (pu (indexAddr aa rfl rfl rfl rfl rfl rfl (Int.natCast_nonneg _) (aF hx) rfl) rfl ?_))))))
  refine pE rfl (pE rfl (WO.nil (qs (W.seq (W.region (pE rfl (WO.nil (qs ?_))))))))
  iterate 2 refine W.seq ?_
  refine W.region (pE rfl (pE rfl ?_))
  iterate 2 refine pE rfl ?_
  refine WO.nil (qs (W.block (W.len (t := 62) rfl rfl (fun hlen => ?_))))
  try simp only [List.length_map, Ex.aA] at hlen
  refine W.aU (ι := {x : Nat × Option Nat // match x with | (j, best) => j ≤ b.rows.length ∧ (∀ i, best = some i → i < b.rows.length) ∧ gA o b.rows z (b.rows.drop j) j best = gA o b.rows z b.rows 0 none})
   (fun x => match x.1 with | (j, best) => [(4, .ptr 0 0), (6, .ptr 1 0), (15, .ptr 2 0), (18, .d (.v (.int .i64 (idx best)))), (64, .d (.v (.int .i64 ((j : Nat) : Int))))]) [(10, _), (11, _), (12, _), (13, _), (14, _), (17, _), (55, _), (56, _), (57, _), (62, _), (63, _)]
   (fun x => match x.1 with | (j, best) => [(0, b.c.map A.d), (1, [.d (.v (.slice none 0 0)), .d (.v (.slice none 0 0))]), (2, [.d (.sl (CT0.1.map Col.c)), .own 3 (out.map rc)])]) [] [3] 4 (fun x => match x.1 with | (j, best) => b.rows.length - j)
   [0, 1, 2, 3] ⟨(0, none), ?_⟩ rfl ?_ ⟨rfl, rfl, rfl, rfl, rfl, rfl, rfl, rfl, rfl, rfl, rfl, rfl, rfl, rfl, rfl, rfl, rfl, rfl, rfl, rfl, rfl, rfl, trivial⟩ ?_ trivial rfl ?_
  · exact ⟨Nat.zero_le _, (fun i h => by cases h), rfl⟩
  · repeat' first | exact trivial | refine ⟨rfl, ?_⟩
  · repeat' first | exact trivial | refine ⟨rfl, ?_⟩
  rintro ⟨⟨j, best⟩, hk, hbl, hJ⟩
  show W _ _ _ _ _ ⟨[(4, .ptr 0 0), (6, .ptr 1 0), (15, .ptr 2 0), (18, .d (.v (.int .i64 (idx best)))), (64, .d (.v (.int .i64 ((j : Nat) : Int)))), (10, _), (11, _), (12, _), (13, _), (14, _), (17, _), (55, _), (56, _), (57, _), (62, _), (63, _)], [(0, b.c.map A.d), (1, [.d (.v (.slice none 0 0)), .d (.v (.slice none 0 0))]), (2, [.d (.sl (CT0.1.map Col.c)), .own 3 (out.map rc)])], [3], 4⟩
  refine W.seq (W.region (pE rfl (WO.nil (qs (W.seq (bb (l := b.rows) (k := j) rfl (by simp [Ex.aA, aI]) hk (fun y hx hd hlt => ?_) (fun he hd => ?_)))))))
  ·
   rw [hd] at hJ
   simp only [gA] at hJ
   have hym := List.mem_of_getElem? hx
   have hyl := (hrb y hym).1
   have hpy := gf y o.right (by omega) (fun q hq => by rw [hyl]; exact hoo.right q hq)
   have hyt : (y.map aH.c)[((o.t : Nat) : Int).toNat]? = some (br y o.t).c := aF (iJ (by rw [hyl]; exact hoo.tt))
   have hbn : ∀ h : decide (idx best < 0) = false, 0 ≤ idx best ∧ (b.rows.map rc)[(idx best).toNat]? = some (rc (eT b.rows (idx best).toNat)) ∧ ((eT b.rows (idx best).toNat).map aH.c)[((o.t : Nat) : Int).toNat]? = some (br (eT b.rows (idx best).toNat) o.t).c := by
    intro h
    have h0 := of_decide_eq_false h
    cases best with
    | none => exact absurd (by decide) h0
    | some i =>
     have hi := hbl i rfl
     have hr := ma hi
     refine ⟨Int.natCast_nonneg _, aF hr, aF (iJ ?_)⟩
     show (o.t : Int).toNat < (eT b.rows i).length
     rw [(hrb _ (List.mem_of_getElem? hr)).1]
     exact hoo.tt
   refine W.skip (qs (W.seq (W.block (W.seq (W.region (pE rfl (pu (indexAddr aa rfl rfl rfl rfl rfl rfl (Int.natCast_nonneg _) (aF hx) rfl) rfl ?_)))))))
   refine pE rfl ?_
   iterate 2 refine pE rfl ?_
   refine WO.nil (qs (W.seq (W.jP aa 11 2 (by kernel_rfl) rfl rfl ?_)))
   refine bF rfl (ev aa rfl) rfl ?_
   refine bF rfl (ev aa rfl) rfl ?_
   refine bF rfl (indexAddr aa rfl rfl rfl rfl rfl rfl (Int.natCast_nonneg _) hzm rfl) rfl ?_
   refine bF rfl (ev aa rfl) rfl ?_
   refine bF rfl (ev aa rfl) rfl ?_
   refine bF rfl (ev aa rfl) rfl ?_
   refine bF rfl (indexAddr aa rfl rfl rfl rfl rfl rfl (Int.natCast_nonneg _) hyt rfl) rfl ?_
   refine bF rfl (ev aa rfl) rfl ?_
   refine gS 0 rfl rfl rfl rfl rfl rfl ?_
   refine gS 1 rfl rfl rfl rfl rfl rfl ?_
   refine qB 8 0 rfl rfl rfl rfl rfl rfl rfl rfl rfl rfl rfl rfl ?_
   refine CE.nil ?_
   refine aM aa rfl rfl rfl rfl rfl rfl rfl rfl (WO.nil (qs ?_))
   iterate 2 refine W.seq ?_
   apply aG; (case hb => rfl)
   ·
    refine pE rfl (pE rfl ?_)
    iterate 2 refine pE rfl ?_
    apply dL; (case hj => rfl); (case hl => rfl)
    ·
     intro g80
     iterate 3 refine ax rfl rfl rfl rfl ?_
     iterate 2 refine pE rfl ?_
     iterate 5 refine ax rfl rfl rfl rfl ?_
     iterate 2 refine pE rfl ?_
     iterate 8 refine ax rfl rfl rfl rfl ?_
     refine pE rfl (WO.nil (aB rfl rfl rfl))
    intro g80
    refine ak rfl rfl (pE rfl (ak rfl rfl (pE rfl (ak rfl rfl ?_))))
    iterate 3 refine pE rfl ?_
    apply dL; (case hj => rfl); (case hl => rfl)
    ·
     intro g85
     iterate 5 refine ax rfl rfl rfl rfl ?_
     iterate 2 refine pE rfl ?_
     iterate 8 refine ax rfl rfl rfl rfl ?_
     refine pE rfl (WO.nil (aB rfl rfl rfl))
    intro g85
    refine ak rfl rfl (pE rfl (ak rfl rfl (pE rfl (ak rfl rfl (pE rfl (ak rfl rfl (pE rfl (ak rfl rfl ?_))))))))
    iterate 3 refine pE rfl ?_
    apply dL; (case hj => rfl); (case hl => rfl)
    ·
     intro g92
     iterate 8 refine ax rfl rfl rfl rfl ?_
     refine pE rfl (WO.nil (aB rfl rfl rfl))
    intro g92
    refine ak rfl rfl (pE rfl (ak rfl rfl (pE rfl (ak rfl rfl (pu (ab rfl rfl rfl hpx rfl) rfl ?_)))))
    refine ak rfl rfl (pE rfl (ak rfl rfl (pE rfl (ak rfl rfl (pu (ab rfl rfl rfl hpy rfl) rfl ?_)))))
    refine ak rfl rfl (pu (ab rfl rfl rfl (pW (bt z o.left) (bt y o.right)) rfl) rfl ?_)
    refine ak rfl rfl ?_
    iterate 2 refine pE rfl ?_
    refine WO.nil (aB rfl rfl rfl)
   refine qs (an rfl (fun h101 => ?_) (fun h101 => ?_))
   ·
    have hsk : j0 o z y = true := by
     revert h101
     unfold j0
     cases decide ((br z o.m).kind = 0) <;> cases decide ((br y o.t).kind = 0) <;> cases decide ((br z o.m).n < (br y o.t).n) <;> cases ij (bt z o.left) (bt y o.right) <;> simp
    rw [if_pos hsk] at hJ
    have hbr : j0 o z y = true ∨ False := .inl hsk
    refine W.exit (aK (aL (qs (W.region ?_))))
    iterate 2 refine pE rfl ?_
    refine WO.nil ?_
    try have hbr := hup
    refine W.aW [0, 1, 2, 3] ⟨(j + 1, best), ?_⟩ ?_ rfl ?_ ⟨rfl, rfl, rfl, rfl, rfl, rfl, rfl, rfl, rfl, rfl, rfl, rfl, rfl, rfl, rfl, rfl, rfl, rfl, rfl, rfl, rfl, rfl, trivial⟩ ?_ trivial rfl
    · exact ⟨hlt, (by first | exact hbl | (intro i h; cases h; exact hlt)), hJ⟩
    · dsimp only; omega
    · repeat' first | exact trivial | refine ⟨rfl, ?_⟩ | refine ⟨aE (by assumption) (by assumption), ?_⟩
    repeat' first | exact trivial | refine ⟨rfl, ?_⟩
   have hsk : j0 o z y = false := by
    revert h101
    unfold j0
    cases decide ((br z o.m).kind = 0) <;> cases decide ((br y o.t).kind = 0) <;> cases decide ((br z o.m).n < (br y o.t).n) <;> cases ij (bt z o.left) (bt y o.right) <;> simp
   rw [if_neg (by simp [hsk])] at hJ
   refine W.skip (qs (W.seq ?_))
   apply ja aa; (case hb => rfl); (case hB => kernel_rfl)
   ·
    iterate 3 refine ao (ev aa rfl) rfl ?_
    apply fQ; (case hj => rfl); (case hl => rfl)
    ·
     intro g104
     iterate 12 refine dZ rfl rfl rfl rfl ?_
     refine ao (ev aa rfl) rfl ?_
     refine CH.nil ?_
     refine aB rfl rfl rfl
    intro g104
    refine aT rfl rfl (ev aa rfl) rfl ?_
    refine aT rfl rfl (ev aa rfl) rfl ?_
    refine aT rfl rfl (ev aa rfl) rfl ?_
    refine aT rfl rfl (ev aa rfl) rfl ?_
    refine aT rfl rfl (ev aa rfl) rfl ?_
    refine aT rfl rfl (indexAddr aa rfl rfl rfl rfl rfl rfl (hbn g104).1 (hbn g104).2.1 rfl) rfl ?_
    refine aT rfl rfl (ev aa rfl) rfl ?_
    refine aT rfl rfl (ev aa rfl) rfl ?_
    refine aT rfl rfl (indexAddr aa rfl rfl rfl rfl rfl rfl (Int.natCast_nonneg _) (hbn g104).2.2 rfl) rfl ?_
    refine aT rfl rfl (ev aa rfl) rfl ?_
    refine aT rfl rfl (ev aa rfl) rfl ?_
    refine aT rfl rfl (ev aa rfl) rfl ?_
    refine ao (ev aa rfl) rfl ?_
    refine CH.nil ?_
    refine aB rfl rfl rfl
   refine qs (an rfl (fun h117 => ?_) (fun h117 => ?_))
   ·
    have hup : idx best < 0 ∨ (br (eT b.rows (idx best).toNat) o.t).n ≤ (br y o.t).n := by
     revert h117
     by_cases q : idx best < 0 <;> simp [q]
    rw [if_pos hup] at hJ
    refine W.region ?_
    iterate 2 refine pE rfl ?_
    refine WO.nil (aZ (qs (W.region ?_)))
    iterate 2 refine pE rfl ?_
    refine WO.nil ?_
    try have hbr := hup
    (have _hb : idx best < 0 ∨ (br (eT b.rows (idx best).toNat) o.t).n ≤ (br y o.t).n := hbr; refine W.aW [0, 1, 2, 3] ⟨(j + 1, some j), ?_⟩ ?_ rfl ?_ ⟨rfl, rfl, rfl, rfl, rfl, rfl, rfl, rfl, rfl, rfl, rfl, rfl, rfl, rfl, rfl, rfl, rfl, rfl, rfl, rfl, rfl, rfl, trivial⟩ ?_ trivial rfl)
    · exact ⟨hlt, (by first | exact hbl | (intro i h; cases h; exact hlt)), hJ⟩
    · dsimp only; omega
    · repeat' first | exact trivial | refine ⟨rfl, ?_⟩ | refine ⟨aE (by assumption) (by assumption), ?_⟩
    repeat' first | exact trivial | refine ⟨rfl, ?_⟩
   have hup : ¬ (idx best < 0 ∨ (br (eT b.rows (idx best).toNat) o.t).n ≤ (br y o.t).n) := by
    revert h117
    by_cases q : idx best < 0 <;> simp [q]
   rw [if_neg hup] at hJ
   have hbr : j0 o z y = true ∨ False ∨ True := .inr (.inr trivial)
   refine W.skip (aZ (qs (W.region ?_)))
   iterate 2 refine pE rfl ?_
   refine WO.nil ?_
   try have hbr := hup
   refine W.aW [0, 1, 2, 3] ⟨(j + 1, best), ?_⟩ ?_ rfl ?_ ⟨rfl, rfl, rfl, rfl, rfl, rfl, rfl, rfl, rfl, rfl, rfl, rfl, rfl, rfl, rfl, rfl, rfl, rfl, rfl, rfl, rfl, rfl, trivial⟩ ?_ trivial rfl
   · exact ⟨hlt, (by first | exact hbl | (intro i h; cases h; exact hlt)), hJ⟩
   · dsimp only; omega
   · repeat' first | exact trivial | refine ⟨rfl, ?_⟩ | refine ⟨aE (by assumption) (by assumption), ?_⟩
   repeat' first | exact trivial | refine ⟨rfl, ?_⟩
  rw [hd] at hJ
  simp only [gA] at hJ
  refine W.exit (aK (aP (aL (qs (W.seq (W.region ?_))))))
  iterate 2 refine pE rfl ?_
  refine pu (vE (m := (o.more.map nc).length) aa rfl rfl rfl rfl rfl rfl (by rw [hmm]; show (32 : Int) * _ ≤ _; omega) (by rw [hmm]; simp only [maxLen]; omega)) rfl ?_
  refine pE rfl (WO.nil (qs ?_))
  iterate 2 refine W.seq ?_
  refine W.region ?_
  iterate 2 refine pE rfl ?_
  refine WO.nil (qs (an rfl (fun h124 => ?_) (fun h124 => ?_)))
  ·
   have hbb : 0 ≤ idx best := by simpa using h124
   obtain ⟨q, rfl⟩ : ∃ q, best = some q := by
    cases best with
    | none => exact absurd hbb (by decide)
    | some q => exact ⟨q, rfl⟩
   have hqr := ma (hbl q rfl)
   have hql := (hrb _ (List.mem_of_getElem? hqr)).1
   have hpz := gf (eT b.rows q) o.more (by omega) (fun r hr => by rw [hql]; exact hoo.more r hr)
   have hfd : nk o b.rows (some q) = bt (eT b.rows q) o.more := rfl
   have hfl : (bt (eT b.rows q) o.more).length = o.more.length := List.length_map _
   have hrow : fW o b.rows z = z ++ bt (eT b.rows q) o.more := by unfold fW; rw [← hJ]; rfl
   refine W.region (pE rfl (pE rfl (pE rfl (pu (indexAddr (l := rc (eT b.rows q)) aa rfl rfl rfl rfl rfl rfl (Int.natCast_nonneg _) (aF hqr) rfl) rfl ?_))))
   refine pE rfl (pE rfl (pu (ab rfl rfl rfl hpz rfl) rfl ?_))
   refine pE rfl (WO.nil (qs ?_))
   refine' W.eM aa [_, _] [[4, 3], [5, 3], [6, 5]] [5, 6, 7] [3, 5] 7 (by kernel_rfl) (by kernel_rfl) rfl rfl ?hL_7
   case' hL_7 => skip
   refine' aQ (ev aa rfl) ?p_8 rfl rfl rfl (by kernel_rfl) rfl ?h_8
   case' h_8 => skip
   refine' aQ (ev aa rfl) ?p_9 rfl rfl rfl (by kernel_rfl) rfl ?h_9
   case' h_9 => skip
   refine' aQ (ev aa rfl) ?p_10 rfl rfl rfl (by kernel_rfl) rfl ?h_10
   case' h_10 => skip
   refine' kC ?x_11 rfl rfl rfl (by kernel_rfl) (fun h => (ae h (by kernel_rfl)).elim) rfl ?h_11
   case x_11 =>
    intro b hb g; cases b
    · exact (ae hb (by kernel_rfl)).elim
    refine eU rfl rfl rfl (jo z (by omega)) (by rfl) rfl rfl ?_
    refine WO.nil ?_
    refine' iv rfl ?_ ?_ ?_ ?_
    all_goals try exact rfl
   case' h_11 => skip
   refine' aQ (ev aa rfl) ?p_12 rfl rfl rfl (by kernel_rfl) rfl ?h_12
   case' h_12 => skip
   refine' kC ?x_13 rfl rfl rfl (by kernel_rfl) (fun h => (ae h (by kernel_rfl)).elim) rfl ?h_13
   case x_13 =>
    intro b hb g; cases b
    · exact (ae hb (by kernel_rfl)).elim
    refine fa (fn := aH.c) (l := z) (l2 := bt (eT b.rows q) o.more) aa rfl rfl rfl rfl rfl rfl rfl rfl rfl rfl (fun _ => rfl) (by rw [hfl]; show _ * 32 ≤ _; omega) ?_
    refine WO.nil ?_
    refine' iv rfl ?_ ?_ ?_ ?_
    all_goals try exact rfl
   case' h_13 => skip
   case p_8 => refine ⟨fun ha => (ae ha (by kernel_rfl)).elim, ?_, fun ha => (ae ha (by kernel_rfl)).elim, ?_, fun ha => (ae ha (by kernel_rfl)).elim, ?_⟩ <;> intro ha <;> first | exact ⟨ev aa rfl, fun h => nomatch h⟩ | exact (ae ha (by kernel_rfl)).elim
   case p_9 => refine ⟨fun ha => (ae ha (by kernel_rfl)).elim, ?_, fun ha => (ae ha (by kernel_rfl)).elim, ?_, fun ha => (ae ha (by kernel_rfl)).elim, ?_⟩ <;> intro ha <;> first | exact ⟨ev aa rfl, fun h => nomatch h⟩ | exact ⟨ct aa rfl rfl rfl rfl, fun h => nomatch h⟩ | exact ⟨cw aa rfl rfl rfl rfl rfl, fun h => nomatch h⟩ | exact (ae ha (by kernel_rfl)).elim
   case p_10 => refine ⟨fun ha => (ae ha (by kernel_rfl)).elim, ?_, fun ha => (ae ha (by kernel_rfl)).elim, ?_, fun ha => (ae ha (by kernel_rfl)).elim, ?_⟩ <;> intro ha <;> first | exact ⟨ev aa rfl, fun h => nomatch h⟩ | exact (ae ha (by kernel_rfl)).elim
   case p_12 => refine ⟨fun ha => (ae ha (by kernel_rfl)).elim, ?_, fun ha => (ae ha (by kernel_rfl)).elim, ?_, fun ha => (ae ha (by kernel_rfl)).elim, ?_⟩ <;> intro ha <;> first | exact ⟨ev aa rfl, fun h => nomatch h⟩ | exact (ae ha (by kernel_rfl)).elim
   refine' aQ (aC aa rfl rfl rfl rfl rfl rfl rfl rfl rfl) ?p_14 rfl rfl rfl (by kernel_rfl) rfl ?h_14
   case' h_14 => skip
   case p_14 => refine ⟨fun ha => (ae ha (by kernel_rfl)).elim, ?_, fun ha => (ae ha (by kernel_rfl)).elim, ?_, fun ha => (ae ha (by kernel_rfl)).elim, ?_⟩ <;> intro ha <;> first | exact ⟨aC aa rfl rfl rfl rfl rfl rfl rfl rfl rfl, fun h => nomatch h⟩ | exact (ae ha (by kernel_rfl)).elim
   refine CD.nil ?_ rfl
   refine ca (fn := rc) (a := fW o b.rows z) aa rfl rfl (by rw [hrow]; rfl) rfl rfl rfl rfl rfl rfl rfl (fun _ => rfl) (by show (out.length + 1) * 24 ≤ _; omega) ?_
   refine pE rfl (aM aa rfl rfl rfl rfl rfl rfl rfl rfl (WO.nil (aZ (qs (W.region ?_)))))
   iterate 2 refine pE rfl ?_
   refine WO.nil (W.aW [0, 1, 2, 6] ⟨(i + 1, out ++ [fW o b.rows z]), ?_⟩ ?_ rfl ?_ ⟨rfl, rfl, rfl, rfl, rfl, rfl, rfl, rfl, rfl, rfl, rfl, rfl, rfl, rfl, trivial⟩ ?_ trivial rfl)
   · exact ⟨hzlt, by rw [hI, List.take_add_one, hzx]; simp⟩
   · dsimp only; omega
   · repeat' first | exact trivial | refine ⟨rfl, ?_⟩ | refine ⟨aE (by assumption) (by assumption), ?_⟩
   repeat' first | exact trivial | refine ⟨rfl, ?_⟩
  have hbb : best = none := by
   cases best with
   | none => rfl
   | some q => simp [idx] at h124
  subst hbb
  have hfl : (List.replicate o.more.length eV).length = o.more.length := List.length_replicate
  have hrow : fW o b.rows z = z ++ List.replicate o.more.length eV := by unfold fW; rw [← hJ]; rfl
  have hzz : List.replicate (o.more.map nc).length (([.int .i64 0, .int .i64 0, .string (B #[])] : List Value).map D.v) = (List.replicate o.more.length eV).map aH.c := by rw [hmm]; exact uw _
  refine W.skip (qs ?_)
  refine' W.eM aa [_, _] [[4, 3], [5, 3], [6, 5]] [5, 6, 7] [3, 5] 7 (by kernel_rfl) (by kernel_rfl) rfl rfl ?hL_15
  case' hL_15 => skip
  refine' aQ (ev aa rfl) ?p_16 rfl rfl rfl (by kernel_rfl) rfl ?h_16
  case' h_16 => skip
  refine' aQ (ev aa rfl) ?p_17 rfl rfl rfl (by kernel_rfl) rfl ?h_17
  case' h_17 => skip
  refine' aQ (ev aa rfl) ?p_18 rfl rfl rfl (by kernel_rfl) rfl ?h_18
  case' h_18 => skip
  refine' kC ?x_19 rfl rfl rfl (by kernel_rfl) (fun h => (ae h (by kernel_rfl)).elim) rfl ?h_19
  case x_19 =>
   intro b hb g; cases b
   · exact (ae hb (by kernel_rfl)).elim
   refine eU rfl rfl rfl (jo z (by omega)) (by rfl) rfl rfl ?_
   refine WO.nil ?_
   refine' iv rfl ?_ ?_ ?_ ?_
   all_goals try exact rfl
  case' h_19 => skip
  refine' aQ (ev aa rfl) ?p_20 rfl rfl rfl (by kernel_rfl) rfl ?h_20
  case' h_20 => skip
  refine' kC ?x_21 rfl rfl rfl (by kernel_rfl) (fun h => (ae h (by kernel_rfl)).elim) rfl ?h_21
  case x_21 =>
   intro b hb g; cases b
   · exact (ae hb (by kernel_rfl)).elim
   refine fa (fn := aH.c) (l := z) (l2 := List.replicate o.more.length eV) aa rfl rfl (by rw [← hzz]; rfl) rfl rfl rfl rfl rfl rfl rfl (fun _ => rfl) (by rw [hfl]; show _ * 32 ≤ _; omega) ?_
   refine WO.nil ?_
   refine' iv rfl ?_ ?_ ?_ ?_
   all_goals try exact rfl
  case' h_21 => skip
  case p_16 => refine ⟨fun ha => (ae ha (by kernel_rfl)).elim, ?_, fun ha => (ae ha (by kernel_rfl)).elim, ?_, fun ha => (ae ha (by kernel_rfl)).elim, ?_⟩ <;> intro ha <;> first | exact ⟨ev aa rfl, fun h => nomatch h⟩ | exact (ae ha (by kernel_rfl)).elim
  case p_17 => refine ⟨fun ha => (ae ha (by kernel_rfl)).elim, ?_, fun ha => (ae ha (by kernel_rfl)).elim, ?_, fun ha => (ae ha (by kernel_rfl)).elim, ?_⟩ <;> intro ha <;> first | exact ⟨ev aa rfl, fun h => nomatch h⟩ | exact ⟨ct aa rfl rfl rfl rfl, fun h => nomatch h⟩ | exact ⟨cw aa rfl rfl rfl rfl rfl, fun h => nomatch h⟩ | exact (ae ha (by kernel_rfl)).elim
  case p_18 => refine ⟨fun ha => (ae ha (by kernel_rfl)).elim, ?_, fun ha => (ae ha (by kernel_rfl)).elim, ?_, fun ha => (ae ha (by kernel_rfl)).elim, ?_⟩ <;> intro ha <;> first | exact ⟨ev aa rfl, fun h => nomatch h⟩ | exact (ae ha (by kernel_rfl)).elim
  case p_20 => refine ⟨fun ha => (ae ha (by kernel_rfl)).elim, ?_, fun ha => (ae ha (by kernel_rfl)).elim, ?_, fun ha => (ae ha (by kernel_rfl)).elim, ?_⟩ <;> intro ha <;> first | exact ⟨ev aa rfl, fun h => nomatch h⟩ | exact (ae ha (by kernel_rfl)).elim
  refine' aQ (aC aa rfl rfl rfl rfl rfl rfl rfl rfl rfl) ?p_22 rfl rfl rfl (by kernel_rfl) rfl ?h_22
  case' h_22 => skip
  case p_22 => refine ⟨fun ha => (ae ha (by kernel_rfl)).elim, ?_, fun ha => (ae ha (by kernel_rfl)).elim, ?_, fun ha => (ae ha (by kernel_rfl)).elim, ?_⟩ <;> intro ha <;> first | exact ⟨aC aa rfl rfl rfl rfl rfl rfl rfl rfl rfl, fun h => nomatch h⟩ | exact (ae ha (by kernel_rfl)).elim
  refine CD.nil ?_ rfl
  refine ca (fn := rc) (a := fW o b.rows z) aa rfl rfl (by rw [hrow]; rfl) rfl rfl rfl rfl rfl rfl rfl (fun _ => rfl) (by show (out.length + 1) * 24 ≤ _; omega) ?_
  refine pE rfl (aM aa rfl rfl rfl rfl rfl rfl rfl rfl (WO.nil (aZ (qs (W.region ?_)))))
  iterate 2 refine pE rfl ?_
  refine WO.nil (W.aW [0, 1, 2, 6] ⟨(i + 1, out ++ [fW o b.rows z]), ?_⟩ ?_ rfl ?_ ⟨rfl, rfl, rfl, rfl, rfl, rfl, rfl, rfl, rfl, rfl, rfl, rfl, rfl, rfl, trivial⟩ ?_ trivial rfl)
  · exact ⟨hzlt, by rw [hI, List.take_add_one, hzx]; simp⟩
  · dsimp only; omega
  · repeat' first | exact trivial | refine ⟨rfl, ?_⟩ | refine ⟨aE (by assumption) (by assumption), ?_⟩
  repeat' first | exact trivial | refine ⟨rfl, ?_⟩
 have hfin : out = a.rows.map (fW o b.rows) := by rw [hI, List.take_of_length_le (by have := congrArg List.length hd; simp at this; omega)]
 have hg : cH a b on = (⟨CT0.1, out⟩, 0) := by rw [hgo, hfin]
 refine W.exit (aK (aP (aL (qs (W.seq (W.region (pE rfl (aM aa rfl rfl rfl rfl rfl rfl rfl rfl (pE rfl (WO.nil (qs ?_)))))))))))
 try refine cf 2 0 rfl rfl rfl ?_
 try refine cf 2 1 rfl rfl rfl ?_
 refine W.ret (QV.aq aa trivial rfl ?_)
 (rw [hg]; rfl)
end Go.Proofs.Ytjenenllmjlimaa
namespace Go.Proofs.Ytjenenllmjlimaa
open Go.Ab Go.Tb
set_option maxRecDepth 10000
attribute [local irreducible] W WO Pu QS QB QL QF QV bD CH QE
theorem uc : aw Try.prog 64 [.d (.sl []), .d (.v (.int .i64 0)), .d (.v (.int .i64 0)), .clo 34 []] (.tup []) 0 := by
 refine aw.aY (n := 53) (ts := []) Try.func64 (by kernel_rfl) rfl Try.ntmps64 Try.results64 rfl rfl fun C hC hG => ?_
 refine W.seq (W.region ?_)
 iterate 3 refine pE rfl ?_
 refine WO.nil (qs (W.block ?_))
 refine W.aU (ι := {x : Unit // match x with | u => True})
  (fun x => match x.1 with | u => [(8, .d (.v (.int .i64 1)))]) [(0, _), (1, _), (2, _), (3, _)]
  (fun x => match x.1 with | u => []) [] [] 0 (fun x => match x.1 with | u => 0)
  [] ⟨(), ?_⟩ rfl ?_ ⟨rfl, rfl, rfl, rfl, rfl, rfl, rfl, rfl, trivial⟩ ?_ trivial rfl ?_
 · exact trivial
 · repeat' first | exact trivial | refine ⟨rfl, ?_⟩
 · repeat' exact trivial
 rintro ⟨u, hk, hI⟩
 show W _ _ _ _ _ ⟨[(8, .d (.v (.int .i64 1))), (0, _), (1, _), (2, _), (3, _)], [], [], 0⟩
 iterate 2 refine W.seq ?_
 refine W.region ?_
 iterate 3 refine pE rfl ?_
 refine WO.nil (qs (an rfl (fun h14 => ?_) (fun h14 => ?_)))
 ·
  exfalso
  simp at h14
 refine W.exit (aK (aP (aL (QF.aq trivial rfl ?_))))
 rfl
theorem rI : aw Try.prog 45 [.d (.sl []), .d (.v (.int .i64 0)), .clo 34 []] (.tup []) 0 := by
 refine aw.aY (n := 63) (ts := []) Try.func45 (by kernel_rfl) rfl Try.ntmps45 Try.results45 rfl rfl fun C hC hG => ?_
 refine W.seq (W.region (pE rfl (WO.nil (qs (W.seq (W.region ?_))))))
 iterate 3 refine pE rfl ?_
 refine WO.nil (qs (W.seq (W.block ?_)))
 refine W.aU (ι := {x : Unit // match x with | u => True})
  (fun x => match x.1 with | u => [(7, .d (.v (.int .i64 0))), (8, .d (.v (.int .i64 20)))]) [(0, _), (1, _), (2, _), (6, _)]
  (fun x => match x.1 with | u => []) [] [] 0 (fun x => match x.1 with | u => 0)
  [] ⟨(), ?_⟩ rfl ?_ ⟨rfl, rfl, rfl, rfl, rfl, rfl, rfl, rfl, trivial⟩ ?_ trivial rfl ?_
 · exact trivial
 · repeat' first | exact trivial | refine ⟨rfl, ?_⟩
 · repeat' exact trivial
 rintro ⟨u, hk, hI⟩
 show W _ _ _ _ _ ⟨[(7, .d (.v (.int .i64 0))), (8, .d (.v (.int .i64 20))), (0, _), (1, _), (2, _), (6, _)], [], [], 0⟩
 iterate 2 refine W.seq ?_
 refine W.region ?_
 iterate 3 refine pE rfl ?_
 refine WO.nil (qs (an rfl (fun h13 => ?_) (fun h13 => ?_)))
 ·
  exfalso
  simp at h13
 refine W.exit (aK (aP (aL (qs (W.seq (W.region ?_))))))
 iterate 4 refine pE rfl ?_
 refine pu (ab rfl rfl rfl uc rfl) rfl ?_
 refine WO.nil (qs (W.block ?_))
 refine W.aU (ι := {x : Unit // match x with | u => True})
  (fun x => match x.1 with | u => [(6, .d (.v (.int .i64 20)))]) [(0, _), (1, _), (2, _)]
  (fun x => match x.1 with | u => []) [] [] 0 (fun x => match x.1 with | u => 0)
  [] ⟨(), ?_⟩ rfl ?_ ⟨rfl, rfl, rfl, rfl, rfl, rfl, trivial⟩ ?_ trivial rfl ?_
 · exact trivial
 · repeat' first | exact trivial | refine ⟨rfl, ?_⟩
 · repeat' exact trivial
 rintro ⟨u, hk, hI⟩
 show W _ _ _ _ _ ⟨[(6, .d (.v (.int .i64 20))), (0, _), (1, _), (2, _)], [], [], 0⟩
 iterate 2 refine W.seq ?_
 refine W.region ?_
 iterate 3 refine pE rfl ?_
 refine WO.nil (qs (an rfl (fun h30 => ?_) (fun h30 => ?_)))
 ·
  exfalso
  simp at h30
 refine W.exit (aK (aP (aL (QF.aq trivial rfl ?_))))
 rfl
theorem nU : aw Try.prog 33 [.d (.sl []), .clo 34 []] (.tup []) 0 := by
 refine aw.aY (n := 9) (ts := []) Try.func33 (by kernel_rfl) rfl Try.ntmps33 Try.results33 rfl rfl fun C hC hG => ?_
 refine W.region ?_
 iterate 4 refine pE rfl ?_
 refine pu (ab rfl rfl rfl rI rfl) rfl ?_
 refine WO.nil (QF.aq trivial rfl ?_)
 rfl
def jO (z : List aH) (m0 m1 : Nat) : Bool := da z m0 m1 && decide (0 ≤ (br z m0).n)
def mc (left : List Nat) (m0 m1 : Nat) (z : List aH) : Pc := ⟨bt z left, (br z m0).n, (br z m1).n⟩
def pieces (left : List Nat) (m0 m1 : Nat) : List (List aH) → List Pc
 | [] => []
 | z :: r => if jO z m0 m1 = true then mc left m0 m1 z :: pieces left m0 m1 r else pieces left m0 m1 r
def cn (out : List Pc) : Pc := el out (out.length - 1)
def dk (out : List Pc) (p : Pc) : Bool := decide (0 < out.length) && (decide ((cn out).key = p.key) && decide (p.fr ≤ (cn out).to))
def js (q p : Pc) : Pc := ⟨q.key, q.fr, if q.to < p.to then p.to else q.to⟩
def eA (out : List Pc) : List Pc → List Pc
 | [] => out
 | p :: r => if dk out p = true then eA (out.set (out.length - 1) (js (cn out) p)) r else eA (out ++ [p]) r
def iW (p : Pc) : List aH := p.key ++ [⟨2, p.fr, B #[]⟩, ⟨2, p.to, B #[]⟩]
def jS (a : bo) (on : List ByteArray) : List Nat := on.map (b7 a.cols)
def pJ (a : bo) (on : List ByteArray) : List Pc := eA [] (dF be (pieces (jS a on) (b7 a.cols aN) (b7 a.cols bM) a.rows))
def bX (a : bo) (on : List ByteArray) : bo × Int :=
 if (gn 9 on a).2 ≠ 0 then (fb, (gn 9 on a).2) else (⟨(gn 9 on a).1, (pJ a on).map iW⟩, 0)
theorem iz (left : List Nat) (m0 m1 : Nat) : ∀ (l : List (List aH)), ∀ p ∈ pieces left m0 m1 l, p.key.length = left.length
 | [], p, h => by cases h
 | z :: r, p, h => by
  simp only [pieces] at h
  split at h
  ·
   rcases List.mem_cons.1 h with rfl | h
   · exact List.length_map _
   exact iz left m0 m1 r p h
  exact iz left m0 m1 r p h
theorem r9 {out : List Pc} (h : 0 < out.length) : cn out ∈ out := List.mem_of_getElem? (nA (by omega : out.length - 1 < out.length))
theorem jC {m : Nat} : ∀ (l out : List Pc), (∀ p ∈ l, p.key.length = m) → (∀ p ∈ out, p.key.length = m) → ∀ p ∈ eA out l, p.key.length = m
 | [], out, _, h, p, hp => h p hp
 | q :: r, out, hl, h, p, hp => by
  simp only [eA] at hp
  split at hp
  ·
   rename_i ht
   have h0 : 0 < out.length := by unfold dk at ht; simp at ht; exact ht.1
   refine jC r _ (fun x hx => hl x (List.mem_cons_of_mem _ hx)) (fun x hx => ?_) p hp
   rcases List.mem_or_eq_of_mem_set hx with hx | rfl
   · exact h x hx
   show (cn out).key.length = m
   exact h _ (r9 h0)
  refine jC r _ (fun x hx => hl x (List.mem_cons_of_mem _ hx)) (fun x hx => ?_) p hp
  rcases List.mem_append.1 hx with hx | hx
  · exact h x hx
  rw [List.mem_singleton.1 hx]; exact hl q List.mem_cons_self
theorem jm : ∀ (l out : List Pc), (eA out l).length ≤ out.length + l.length
 | [], out => Nat.le_refl _
 | q :: r, out => by
  simp only [eA]
  split
  · have := jm r (out.set (out.length - 1) (js (cn out) q)); rw [List.length_set] at this; simp; omega
  have := jm r (out ++ [q]); rw [List.length_append] at this; simp at this ⊢; omega
theorem gg (L : List Pc) (p : Pc) : L.map Pc.c ++ [p.c] = (L ++ [p]).map Pc.c := by simp
end Go.Proofs.Ytjenenllmjlimaa
namespace Go.Proofs.Ytjenenllmjlimaa
open Go.Ab Go.Tb
set_option maxRecDepth 10000
attribute [local irreducible] W WO Pu QS QB QL QF QV bD CH QE
theorem pD (a : bo) (on : List ByteArray) (hon : on.length ≤ 400) (hpos : 0 < (pieces (jS a on) (b7 a.cols aN) (b7 a.cols bM) a.rows).length) : aw Try.prog 12 [.ag a.c, .d (.sl (on.map sc))]
  (.tup [.ag (bX a on).1.c, .d (.v (.int .i64 (bX a on).2))]) 0 := by
 have hcol := gX 9 on [a] (by simp) hon
 rw [nf] at hcol
 obtain ⟨CT0, hCT⟩ : ∃ c, gn 9 on a = c := ⟨_, rfl⟩
 rw [hCT] at hcol
 obtain ⟨m0, hm0⟩ : ∃ i, b7 a.cols aN = i := ⟨_, rfl⟩
 obtain ⟨m1, hm1⟩ : ∃ i, b7 a.cols bM = i := ⟨_, rfl⟩
 obtain ⟨left, hleft⟩ : ∃ l, jS a on = l := ⟨_, rfl⟩
 rw [hm0, hm1, hleft] at hpos
 refine aw.eP aa (n := 150) (rs := [.cell 4 25, .tmp 5]) Try.func12 (by kernel_rfl) rfl Try.ntmps12 Try.results12 rfl fun C hC hG => ?_
 refine W.seq (W.region (bJ rfl rfl rfl (aX aa rfl rfl rfl (pE rfl (WO.nil (qs (W.seq (W.region (pE rfl (pE rfl (pu (aC aa rfl rfl rfl rfl rfl rfl rfl rfl rfl) rfl ?_)))))))))))
 refine pu (ab rfl rfl rfl hcol rfl) rfl ?_
 iterate 5 refine pE rfl ?_
 refine WO.nil (qs ?_)
 iterate 2 refine W.seq ?_
 refine W.region ?_
 iterate 2 refine pE rfl ?_
 refine WO.nil (qs (an rfl (fun h30 => ?_) (fun h30 => ?_)))
 ·
  have he : CT0.2 ≠ 0 := by simpa using h30
  have hg : bX a on = (fb, CT0.2) := by unfold bX; rw [hCT, if_pos he]
  refine W.seq (W.region (pu (build aa rfl rfl rfl rfl) rfl ?_))
  refine pE rfl (aM aa rfl rfl rfl rfl rfl rfl rfl rfl (pE rfl (WO.nil (qs ?_))))
  try refine cf 1 0 rfl rfl rfl ?_
  try refine cf 1 1 rfl rfl rfl ?_
  refine W.ret (ah (QV.aq aa trivial rfl ?_))
  (rw [hg]; rfl)
 have he : CT0.2 = 0 := by simpa using h30
 have hok := tM (by rw [hCT]; exact he)
 have hoo := uN hok
 have haz := c9 hok.ga
 have hol := hok.len
 have hra := dU hok.ga
 obtain ⟨srt, hsrt⟩ : ∃ s, dF be (pieces left m0 m1 a.rows) = s := ⟨_, rfl⟩
 obtain ⟨J, hJJ⟩ : ∃ s, eA [] srt = s := ⟨_, rfl⟩
 have hgo : bX a on = (⟨CT0.1, J.map iW⟩, 0) := by unfold bX pJ; rw [hCT, if_neg (by simp [he]), hleft, hm0, hm1, hsrt, hJJ]
 have hpl : aw Try.prog 23 [.ag a.c, .d (.sl (on.map sc))] (.d (.sl (left.map nc))) 0 := by
  have := dv a on (by omega)
  rw [eL (fun s hs => by obtain ⟨i, c, h1, _⟩ := hok.ons s hs; exact ⟨i, h1⟩)] at this
  rw [← hleft]; exact this
 have hpm : aw Try.prog 23 [.ag a.c, .d (.sl ([aN, bM].map sc))] (.d (.sl ([m0, m1].map nc))) 0 := by
  have := dv a [aN, bM] (by simp)
  rw [eL (fun s hs => by
   rcases List.mem_cons.1 hs with rfl | hs
   · obtain ⟨i, c, h1, _⟩ := hok.fr; exact ⟨i, h1⟩
   rcases List.mem_cons.1 hs with rfl | hs
   · obtain ⟨i, c, h1, _⟩ := hok.to; exact ⟨i, h1⟩
   cases hs)] at this
  rw [← hm0, ← hm1]; exact this
 have hll : left.length ≤ 16 := by rw [← hleft]; show (on.map _).length ≤ _; rw [List.length_map]; exact hol
 rw [show on.map (b7 a.cols) = left from hleft, hm0, hm1] at hoo
 refine W.skip (qs (W.seq (W.bw aa (by kernel_rfl) ?_)))
 refine ao (ev aa rfl) rfl ?_
 refine ao (ev aa rfl) rfl ?_
 refine ao (ab rfl rfl rfl hpl rfl) rfl ?_
 refine ao (ev aa rfl) rfl ?_
 refine ao (aC aa rfl rfl rfl rfl rfl rfl rfl rfl rfl) rfl ?_
 refine ao (ab rfl rfl rfl hpm rfl) rfl ?_
 iterate 2 refine ao (ev aa rfl) rfl ?_
 refine CH.nil ?_
 refine qs (W.seq (W.region ?_))
 iterate 2 refine pE rfl ?_
 refine WO.nil (qs ?_)
 iterate 2 refine W.seq ?_
 refine W.region (pE rfl (pE rfl ?_))
 iterate 2 refine pE rfl ?_
 refine WO.nil (qs (W.block (W.lG (d := 10) rfl rfl ?_)))
 refine W.len (t := 40) rfl rfl (fun hlen => ?_)
 try simp only [List.length_map, Ex.aA] at hlen
 refine W.aU (ι := {x : Nat × List Pc // match x with | (i, L) => i ≤ a.rows.length ∧ L.length ≤ i ∧ L ++ pieces left m0 m1 (a.rows.drop i) = pieces left m0 m1 a.rows})
  (fun x => match x.1 with | (i, L) => [(4, .ptr 0 0), (10, .xs 1 (L.map Pc.c)), (42, .d (.v (.int .i64 ((i : Nat) : Int))))]) [(6, _), (8, _), (9, _), (11, _), (40, _), (41, _)]
  (fun x => match x.1 with | (i, L) => [(0, [.d (.v (.slice none 0 0)), .d (.v (.slice none 0 0))])]) [] [1] 2 (fun x => match x.1 with | (i, L) => a.rows.length - i)
  [1, 2] ⟨(0, []), ?_⟩ rfl ?_ ⟨rfl, rfl, rfl, rfl, rfl, rfl, rfl, rfl, rfl, rfl, rfl, rfl, trivial⟩ ?_ trivial rfl ?_
 · exact ⟨Nat.zero_le _, Nat.zero_le _, rfl⟩
 · repeat' first | exact trivial | refine ⟨rfl, ?_⟩
 · repeat' first | exact trivial | refine ⟨rfl, ?_⟩
 rintro ⟨⟨i, L⟩, hk, hn, hI⟩
 show W _ _ _ _ _ ⟨[(4, .ptr 0 0), (10, .xs 1 (L.map Pc.c)), (42, .d (.v (.int .i64 ((i : Nat) : Int)))), (6, _), (8, _), (9, _), (11, _), (40, _), (41, _)], [(0, [.d (.v (.slice none 0 0)), .d (.v (.slice none 0 0))])], [1], 2⟩
 refine W.seq (W.region (pE rfl (WO.nil (qs (W.seq (bb (l := a.rows) (k := i) rfl (by simp [Ex.aA, aI]) hk (fun z hx hd hlt => ?_) (fun he hd => ?_)))))))
 ·
  rw [hd] at hI
  simp only [pieces] at hI
  have hxm := List.mem_of_getElem? hx
  have hxl := (hra z hxm).1
  have hsx := lM z m0 m1 (by rw [hxl]; exact hoo.m0) (by rw [hxl]; exact hoo.m1)
  have hpx := gf z left (by omega) (fun q hq => by rw [hxl]; exact hoo.left q hq)
  refine W.skip (qs (W.seq (W.block (W.seq (W.region (pu (indexAddr aa rfl rfl rfl rfl rfl rfl (Int.natCast_nonneg _) (aF hx) rfl) rfl ?_))))))
  refine pE rfl (pE rfl (WO.nil (qs (W.seq (W.region ?_)))))
  iterate 2 refine pE rfl ?_
  refine pu (ab rfl rfl rfl hsx rfl) rfl ?_
  iterate 3 refine pE rfl ?_
  refine aX aa rfl rfl rfl (aM aa rfl rfl rfl rfl rfl rfl rfl rfl (pE rfl (WO.nil (qs (W.seq ?_)))))
  apply aG; (case hb => rfl)
  ·
   iterate 2 refine pE rfl ?_
   apply dL; (case hj => rfl); (case hl => rfl)
   ·
    intro g53
    refine ak rfl rfl (pE rfl (ak rfl rfl (pE rfl (ak rfl rfl ?_))))
    iterate 2 refine pE rfl ?_
    refine WO.nil (aB rfl rfl rfl)
   intro g53
   iterate 3 refine ax rfl rfl rfl rfl ?_
   refine pE rfl (WO.nil (aB rfl rfl rfl))
  refine qs (an rfl (fun h57 => ?_) (fun h57 => ?_))
  ·
   have hin : jO z m0 m1 = true := by
    revert h57
    unfold jO
    cases da z m0 m1 <;> simp
   rw [if_pos hin] at hI
   refine W.eM aa [] [] [] [] 7 (by kernel_rfl) (by kernel_rfl) rfl rfl ?_
   refine' aQ (ev aa rfl) ?p_1 rfl rfl rfl (by kernel_rfl) rfl ?h_1
   case' h_1 => skip
   case p_1 => refine ⟨fun ha => (ae ha (by kernel_rfl)).elim, ?_⟩ <;> intro ha <;> first | exact ⟨ev aa rfl, fun h => nomatch h⟩ | exact (ae ha (by kernel_rfl)).elim
   refine' aQ (ev aa rfl) ?p_2 rfl rfl rfl (by kernel_rfl) rfl ?h_2
   case' h_2 => skip
   case p_2 => refine ⟨fun ha => (ae ha (by kernel_rfl)).elim, ?_⟩ <;> intro ha <;> first | exact ⟨ev aa rfl, fun h => nomatch h⟩ | exact (ae ha (by kernel_rfl)).elim
   refine' aQ (ev aa rfl) ?p_3 rfl rfl rfl (by kernel_rfl) rfl ?h_3
   case' h_3 => skip
   case p_3 => refine ⟨fun ha => (ae ha (by kernel_rfl)).elim, ?_⟩ <;> intro ha <;> first | exact ⟨ev aa rfl, fun h => nomatch h⟩ | exact (ae ha (by kernel_rfl)).elim
   refine' aQ (ab rfl rfl rfl hpx rfl) ?p_4 rfl rfl rfl (by kernel_rfl) rfl ?h_4
   case' h_4 => skip
   case p_4 => refine ⟨fun ha => (ae ha (by kernel_rfl)).elim, ?_⟩ <;> intro ha <;> first | exact ⟨ab rfl rfl rfl hpx rfl, fun h => nomatch h⟩ | exact (ae ha (by kernel_rfl)).elim
   refine' aQ (ev aa rfl) ?p_5 rfl rfl rfl (by kernel_rfl) rfl ?h_5
   case' h_5 => skip
   case p_5 => refine ⟨fun ha => (ae ha (by kernel_rfl)).elim, ?_⟩ <;> intro ha <;> first | exact ⟨ev aa rfl, fun h => nomatch h⟩ | exact ⟨ct aa rfl rfl rfl rfl, fun h => nomatch h⟩ | exact ⟨cw aa rfl rfl rfl rfl rfl, fun h => nomatch h⟩ | exact (ae ha (by kernel_rfl)).elim
   refine' aQ (build aa rfl rfl rfl rfl) ?p_6 rfl rfl rfl (by kernel_rfl) rfl ?h_6
   case' h_6 => skip
   case p_6 => refine ⟨fun ha => (ae ha (by kernel_rfl)).elim, ?_⟩ <;> intro ha <;> first | exact ⟨build aa rfl rfl rfl rfl, fun h => nomatch h⟩ | exact (ae ha (by kernel_rfl)).elim
   refine' aQ (aC aa rfl rfl rfl rfl rfl rfl rfl rfl rfl) ?p_7 rfl rfl rfl (by kernel_rfl) rfl ?h_7
   case' h_7 => skip
   case p_7 => refine ⟨fun ha => (ae ha (by kernel_rfl)).elim, ?_⟩ <;> intro ha <;> first | exact ⟨aC aa rfl rfl rfl rfl rfl rfl rfl rfl rfl, fun h => nomatch h⟩ | exact (ae ha (by kernel_rfl)).elim
   refine CD.nil ?_ rfl
   refine gQ (es2 := [(mc left m0 m1 z).c]) (r := (L ++ [mc left m0 m1 z]).map Pc.c) aa rfl rfl rfl rfl rfl rfl rfl rfl rfl rfl (gg _ _) (by rw [gg]; exact bK _) (by show ((L.map Pc.c).length + 1) * 40 ≤ _; rw [List.length_map]; omega) rfl ?_
   refine pE rfl (WO.nil (aZ (qs (W.region ?_))))
   iterate 2 refine pE rfl ?_
   refine WO.nil ?_
   have hbr := hin
   (have _hb : jO z m0 m1 = true := hbr; refine W.aW [0, 3] ⟨(i + 1, L ++ [mc left m0 m1 z]), ?_⟩ ?_ rfl ?_ ⟨rfl, rfl, rfl, rfl, rfl, rfl, rfl, rfl, rfl, rfl, rfl, rfl, trivial⟩ ?_ trivial rfl)
   · exact ⟨hlt, (by first | (rw [List.length_append]; simp; omega) | omega), (by first | exact hI | (rw [List.append_assoc]; exact hI))⟩
   · dsimp only; omega
   · repeat' first | exact trivial | refine ⟨rfl, ?_⟩ | refine ⟨aE (by assumption) (by assumption), ?_⟩
   repeat' first | exact trivial | refine ⟨rfl, ?_⟩
  have hin : jO z m0 m1 = false := by
   revert h57
   unfold jO
   cases da z m0 m1 <;> simp
  rw [if_neg (by simp [hin])] at hI
  refine W.skip (aZ (qs (W.region ?_)))
  iterate 2 refine pE rfl ?_
  refine WO.nil ?_
  have hbr := hin
  (have _hb : jO z m0 m1 = false := hbr; refine W.aW [0, 1] ⟨(i + 1, L), ?_⟩ ?_ rfl ?_ ⟨rfl, rfl, rfl, rfl, rfl, rfl, rfl, rfl, rfl, rfl, rfl, rfl, trivial⟩ ?_ trivial rfl)
  · exact ⟨hlt, (by first | (rw [List.length_append]; simp; omega) | omega), (by first | exact hI | (rw [List.append_assoc]; exact hI))⟩
  · dsimp only; omega
  · repeat' first | exact trivial | refine ⟨rfl, ?_⟩ | refine ⟨aE (by assumption) (by assumption), ?_⟩
  repeat' first | exact trivial | refine ⟨rfl, ?_⟩
 rw [hd] at hI
 simp only [pieces, List.append_nil] at hI
 rw [← hI] at hpos hsrt
 have hL2 : L.length ≤ 20000 := by omega
 have hst : dF be L = srt := hsrt
 have hsl0 : srt.length = L.length := by rw [← hst]; exact (fL be L).len
 have hkey : ∀ p ∈ J, p.key.length ≤ 16 := by
  have h1 : ∀ p ∈ srt, p.key.length = left.length := fun p hp => by
   have h2 : p ∈ L := by rw [← hst] at hp; exact (fL be L).perm.mem_iff.1 hp
   rw [hI] at h2
   exact iz left m0 m1 a.rows p h2
  intro p hp
  rw [← hJJ] at hp
  have := jC srt [] h1 (fun p hp => nomatch hp) p hp
  omega
 have hJn : J.length ≤ 20000 := by rw [← hJJ]; have := jm srt []; simp at this; omega
 refine W.exit (aK (aP (aL (qs (W.seq ?_)))))
 have hlp : 0 < (L.map Pc.c).length := by rw [List.length_map]; exact hpos
 refine vg 10 rfl rfl rfl hlp rfl (fun cap13 k13 => ?_)
 have hsl := oS L k13 cap13 (by omega)
 have hll2 : (L.map Pc.c).length = L.length := List.length_map _
 rw [← hll2, hst] at hsl
 refine W.region (pE rfl (fJ 2 rfl rfl rfl rfl hsl rfl ?_))
 refine WO.nil (qs ?_)
 iterate 2 refine W.seq ?_
 refine pn (sz := 3) 10 rfl rfl rfl (by rw [List.length_map, List.length_map, hsl0]) (bK _) rfl rfl ?_
 refine W.region ?_
 iterate 3 refine pE rfl ?_
 refine WO.nil (qs (W.block (W.lG (d := 11) rfl rfl ?_)))
 have hsm : srt.length ≤ maxLen := by simp only [maxLen]; omega
 refine W.aU (ι := {x : Nat × List Pc // match x with | (j, out) => j ≤ srt.length ∧ out.length ≤ j ∧ eA out (srt.drop j) = J})
  (fun x => match x.1 with | (j, out) => [(4, .ptr 0 0), (11, .xs 1 (out.map Pc.c)), (71, .d (.v (.int .i64 ((j : Nat) : Int))))]) [(6, _), (69, _), (70, _)]
  (fun x => match x.1 with | (j, out) => [(0, [.d (.v (.slice none 0 0)), .d (.v (.slice none 0 0))])]) [] [1] 2 (fun x => match x.1 with | (j, out) => srt.length - j)
  [0, 4] ⟨(0, []), ?_⟩ rfl ?_ ⟨rfl, rfl, rfl, rfl, rfl, rfl, trivial⟩ ?_ trivial rfl ?_
 · exact ⟨Nat.zero_le _, Nat.zero_le _, hJJ⟩
 · repeat' first | exact trivial | refine ⟨rfl, ?_⟩
 · repeat' first | exact trivial | refine ⟨rfl, ?_⟩
 rintro ⟨⟨j, out⟩, hk, hn2, hR⟩
 show W _ _ _ _ _ ⟨[(4, .ptr 0 0), (11, .xs 1 (out.map Pc.c)), (71, .d (.v (.int .i64 ((j : Nat) : Int)))), (6, _), (69, _), (70, _)], [(0, [.d (.v (.slice none 0 0)), .d (.v (.slice none 0 0))])], [1], 2⟩
 refine W.seq (W.region (pE rfl (WO.nil (qs (W.seq (bb (l := srt) (k := j) rfl (by simp [Ex.aA, aI]) hk (fun p hx hd hlt => ?_) (fun he hd => ?_)))))))
 ·
  rw [hd] at hR
  simp only [eA] at hR
  have hsub : IntKind.i64.wrap (((out.map Pc.c).length : Int) - 1) = ((out.length : Int) - 1) := by rw [List.length_map, wrap64 (by omega)]
  have hla : ∀ h : decide (0 ≤ (out.length : Int) - 1) = true, 0 < out.length ∧ 0 ≤ (out.length : Int) - 1 ∧ (out.map Pc.c)[((out.length : Int) - 1).toNat]? = some (cn out).c := by
   intro h
   have h0 : 0 < out.length := by simp at h; omega
   refine ⟨h0, by omega, ?_⟩
   rw [show ((out.length : Int) - 1).toNat = out.length - 1 by omega]
   exact cL (by omega)
  refine W.skip (qs (W.seq (W.block (W.seq (W.region (pu (indexAddr aa rfl rfl rfl rfl rfl rfl (Int.natCast_nonneg _) (aF hx) rfl) rfl ?_))))))
  refine pE rfl (aX aa rfl rfl rfl (aM aa rfl rfl rfl rfl rfl rfl rfl rfl (WO.nil (qs (W.seq (W.region (pE rfl (pu (rH aa rfl rfl rfl rfl) rfl ?_))))))))
  refine pu (bz (ev aa rfl) hsub) rfl ?_
  refine pE rfl (WO.nil (qs (W.seq ?_)))
  apply ja aa; (case hb => rfl); (case hB => kernel_rfl)
  ·
   iterate 3 refine ao (ev aa rfl) rfl ?_
   apply fQ; (case hj => rfl); (case hl => rfl)
   ·
    intro g80
    refine aT rfl rfl (ev aa rfl) rfl ?_
    refine aT rfl rfl (ev aa rfl) rfl ?_
    refine aT rfl rfl (eF (l := (cn out).c) aa rfl rfl rfl rfl rfl rfl (hla g80).2.1 (hla g80).2.2 rfl) rfl ?_
    refine aT rfl rfl (cK aa rfl rfl rfl rfl rfl rfl) rfl ?_
    refine aT rfl rfl (gT aa rfl rfl rfl) rfl ?_
    refine aT rfl rfl (ev aa rfl) rfl ?_
    refine aT rfl rfl (ev aa rfl) rfl ?_
    refine aT rfl rfl (ab rfl rfl rfl (kY (cn out).key p.key) rfl) rfl ?_
    iterate 2 refine ao (ev aa rfl) rfl ?_
    apply fQ; (case hj => rfl); (case hl => rfl)
    ·
     intro g90
     refine aT rfl rfl (ev aa rfl) rfl ?_
     refine aT rfl rfl (ev aa rfl) rfl ?_
     refine aT rfl rfl (ev aa rfl) rfl ?_
     refine aT rfl rfl (ev aa rfl) rfl ?_
     refine aT rfl rfl (ev aa rfl) rfl ?_
     refine aT rfl rfl (eF (l := (cn out).c) aa rfl rfl rfl rfl rfl rfl (hla g80).2.1 (hla g80).2.2 rfl) rfl ?_
     refine aT rfl rfl (cK aa rfl rfl rfl rfl rfl rfl) rfl ?_
     refine aT rfl rfl (cK aa rfl rfl rfl rfl rfl rfl) rfl ?_
     refine aT rfl rfl (gT aa rfl rfl rfl) rfl ?_
     refine aT rfl rfl (ev aa rfl) rfl ?_
     refine ao (ev aa rfl) rfl ?_
     refine CH.nil ?_
     refine aB rfl rfl rfl
    intro g90
    iterate 10 refine dZ rfl rfl rfl rfl ?_
    refine ao (ev aa rfl) rfl ?_
    refine CH.nil ?_
    refine aB rfl rfl rfl
   intro g80
   iterate 8 refine dZ rfl rfl rfl rfl ?_
   iterate 2 refine ao (ev aa rfl) rfl ?_
   iterate 10 refine dZ rfl rfl rfl rfl ?_
   refine ao (ev aa rfl) rfl ?_
   refine CH.nil ?_
   refine aB rfl rfl rfl
  refine qs (an rfl (fun h101 => ?_) (fun h101 => ?_))
  ·
   have htp : dk out p = true := by
    revert h101
    unfold dk
    by_cases q : 0 < out.length
    ·
     have q1 : 0 ≤ (out.length : Int) - 1 := by omega
     have q2 : 1 ≤ (out.length : Int) := by omega
     simp [q, q1, q2]
    have q1 : ¬ (0 ≤ (out.length : Int) - 1) := by omega
    have q2 : ¬ (1 ≤ (out.length : Int)) := by omega
    simp [q, q1, q2]
   rw [if_pos htp] at hR
   have h0 : 0 < out.length := by unfold dk at htp; simp at htp; exact htp.1
   have hk0 : 0 ≤ (out.length : Int) - 1 := by omega
   have hat : (out.map Pc.c)[((out.length : Int) - 1).toNat]? = some (cn out).c := by
    rw [show ((out.length : Int) - 1).toNat = out.length - 1 by omega]
    exact cL (by omega)
   have hset : (out.map Pc.c).set ((out.length : Int) - 1).toNat (js (cn out) p).c = (out.set (out.length - 1) (js (cn out) p)).map Pc.c := by
    rw [show ((out.length : Int) - 1).toNat = out.length - 1 by omega]
    exact fE
   refine W.eM aa [] [] [] [] 12 (by kernel_rfl) (by kernel_rfl) rfl rfl ?_
   refine' aQ (ev aa rfl) ?p_8 rfl rfl rfl (by kernel_rfl) rfl ?h_8
   case' h_8 => skip
   case p_8 => refine ⟨fun ha => (ae ha (by kernel_rfl)).elim, ?_⟩ <;> intro ha <;> first | exact ⟨ev aa rfl, fun h => nomatch h⟩ | exact (ae ha (by kernel_rfl)).elim
   refine' aQ (ev aa rfl) ?p_9 rfl rfl rfl (by kernel_rfl) rfl ?h_9
   case' h_9 => skip
   case p_9 => refine ⟨fun ha => (ae ha (by kernel_rfl)).elim, ?_⟩ <;> intro ha <;> first | exact ⟨ev aa rfl, fun h => nomatch h⟩ | exact (ae ha (by kernel_rfl)).elim
   refine' aQ (ev aa rfl) ?p_10 rfl rfl rfl (by kernel_rfl) rfl ?h_10
   case' h_10 => skip
   case p_10 => refine ⟨fun ha => (ae ha (by kernel_rfl)).elim, ?_⟩ <;> intro ha <;> first | exact ⟨ev aa rfl, fun h => nomatch h⟩ | exact (ae ha (by kernel_rfl)).elim
   refine' aQ (ev aa rfl) ?p_11 rfl rfl rfl (by kernel_rfl) rfl ?h_11
   case' h_11 => skip
   case p_11 => refine ⟨fun ha => (ae ha (by kernel_rfl)).elim, ?_⟩ <;> intro ha <;> first | exact ⟨ev aa rfl, fun h => nomatch h⟩ | exact (ae ha (by kernel_rfl)).elim
   refine' aQ (eF (l := (cn out).c) aa rfl rfl rfl rfl rfl rfl hk0 hat rfl) ?p_12 rfl rfl rfl (by kernel_rfl) rfl ?h_12
   case' h_12 => skip
   case p_12 => refine ⟨fun ha => (ae ha (by kernel_rfl)).elim, ?_⟩ <;> intro ha <;> first | exact ⟨eF (l := (cn out).c) aa rfl rfl rfl rfl rfl rfl hk0 hat rfl, fun h => nomatch h⟩ | exact (ae ha (by kernel_rfl)).elim
   refine' aQ (cK aa rfl rfl rfl rfl rfl rfl) ?p_13 rfl rfl rfl (by kernel_rfl) rfl ?h_13
   case' h_13 => skip
   case p_13 => refine ⟨fun ha => (ae ha (by kernel_rfl)).elim, ?_⟩ <;> intro ha <;> first | exact ⟨cK aa rfl rfl rfl rfl rfl rfl, fun h => nomatch h⟩ | exact (ae ha (by kernel_rfl)).elim
   refine' aQ (cK aa rfl rfl rfl rfl rfl rfl) ?p_14 rfl rfl rfl (by kernel_rfl) rfl ?h_14
   case' h_14 => skip
   case p_14 => refine ⟨fun ha => (ae ha (by kernel_rfl)).elim, ?_⟩ <;> intro ha <;> first | exact ⟨cK aa rfl rfl rfl rfl rfl rfl, fun h => nomatch h⟩ | exact (ae ha (by kernel_rfl)).elim
   refine' aQ (gT aa rfl rfl rfl) ?p_15 rfl rfl rfl (by kernel_rfl) rfl ?h_15
   case' h_15 => skip
   case p_15 => refine ⟨fun ha => (ae ha (by kernel_rfl)).elim, ?_⟩ <;> intro ha <;> first | exact ⟨gT aa rfl rfl rfl, fun h => nomatch h⟩ | exact (ae ha (by kernel_rfl)).elim
   refine' aQ (ev aa rfl) ?p_16 rfl rfl rfl (by kernel_rfl) rfl ?h_16
   case' h_16 => skip
   case p_16 => refine ⟨fun ha => (ae ha (by kernel_rfl)).elim, ?_⟩ <;> intro ha <;> first | exact ⟨ev aa rfl, fun h => nomatch h⟩ | exact (ae ha (by kernel_rfl)).elim
   refine' aQ (ev aa rfl) ?p_17 rfl rfl rfl (by kernel_rfl) rfl ?h_17
   case' h_17 => skip
   case p_17 => refine ⟨fun ha => (ae ha (by kernel_rfl)).elim, ?_⟩ <;> intro ha <;> first | exact ⟨ev aa rfl, fun h => nomatch h⟩ | exact (ae ha (by kernel_rfl)).elim
   refine' aQ (ev aa rfl) ?p_18 rfl rfl rfl (by kernel_rfl) rfl ?h_18
   case' h_18 => skip
   case p_18 => refine ⟨fun ha => (ae ha (by kernel_rfl)).elim, ?_⟩ <;> intro ha <;> first | exact ⟨ev aa rfl, fun h => nomatch h⟩ | exact ⟨ct aa rfl rfl rfl rfl, fun h => nomatch h⟩ | exact ⟨cw aa rfl rfl rfl rfl rfl, fun h => nomatch h⟩ | exact (ae ha (by kernel_rfl)).elim
   refine' aQ (ev aa rfl) ?p_19 rfl rfl rfl (by kernel_rfl) rfl ?h_19
   case' h_19 => skip
   case p_19 => refine ⟨fun ha => (ae ha (by kernel_rfl)).elim, ?_⟩ <;> intro ha <;> first | exact ⟨ev aa rfl, fun h => nomatch h⟩ | exact (ae ha (by kernel_rfl)).elim
   refine CD.nil ?_ rfl
   refine pu (eF (l := (cn out).c) aa rfl rfl rfl rfl rfl rfl hk0 hat rfl) rfl ?_
   refine pu (cK aa rfl rfl rfl rfl rfl rfl) rfl ?_
   refine pu (cK aa rfl rfl rfl rfl rfl rfl) rfl ?_
   refine mX aa 11 rfl rfl rfl rfl hat rfl rfl rfl rfl rfl rfl hset rfl ?_
   refine WO.nil (aZ (qs (W.region ?_)))
   iterate 2 refine pE rfl ?_
   refine WO.nil ?_
   have hbr := htp
   (have _hb : dk out p = true := hbr; refine W.aW [0, 3] ⟨(j + 1, out.set (out.length - 1) (js (cn out) p)), ?_⟩ ?_ rfl ?_ ⟨rfl, rfl, rfl, rfl, rfl, rfl, trivial⟩ ?_ trivial rfl)
   · exact ⟨hlt, (by first | (rw [List.length_append]; simp; omega) | (rw [List.length_set]; omega)), hR⟩
   · dsimp only; omega
   · repeat' first | exact trivial | refine ⟨rfl, ?_⟩ | refine ⟨aE (by assumption) (by assumption), ?_⟩
   repeat' first | exact trivial | refine ⟨rfl, ?_⟩
  have htp : dk out p = false := by
   revert h101
   unfold dk
   by_cases q : 0 < out.length
   ·
    have q1 : 0 ≤ (out.length : Int) - 1 := by omega
    have q2 : 1 ≤ (out.length : Int) := by omega
    simp [q, q1, q2]
   have q1 : ¬ (0 ≤ (out.length : Int) - 1) := by omega
   have q2 : ¬ (1 ≤ (out.length : Int)) := by omega
   simp [q, q1, q2]
  rw [if_neg (by simp [htp])] at hR
  refine W.region (pE rfl (pE rfl (pu (aC aa rfl rfl rfl rfl rfl rfl rfl rfl rfl) rfl ?_)))
  refine gQ (es2 := [p.c]) (r := (out ++ [p]).map Pc.c) aa rfl rfl rfl rfl rfl rfl rfl rfl rfl rfl (gg _ _) (by rw [gg]; exact bK _) (by show ((out.map Pc.c).length + 1) * 40 ≤ _; rw [List.length_map]; omega) rfl ?_
  refine pE rfl (WO.nil (aZ (qs (W.region ?_))))
  iterate 2 refine pE rfl ?_
  refine WO.nil ?_
  have hbr := htp
  (have _hb : dk out p = false := hbr; refine W.aW [0, 3] ⟨(j + 1, out ++ [p]), ?_⟩ ?_ rfl ?_ ⟨rfl, rfl, rfl, rfl, rfl, rfl, trivial⟩ ?_ trivial rfl)
  · exact ⟨hlt, (by first | (rw [List.length_append]; simp; omega) | (rw [List.length_set]; omega)), hR⟩
  · dsimp only; omega
  · repeat' first | exact trivial | refine ⟨rfl, ?_⟩ | refine ⟨aE (by assumption) (by assumption), ?_⟩
  repeat' first | exact trivial | refine ⟨rfl, ?_⟩
 rw [hd] at hR
 simp only [eA] at hR
 refine W.exit (aK (aP (aL (qs (W.seq (nT 11 rfl rfl rfl rfl ?_))))))
 refine rh 11 rfl rfl ?_
 refine W.region (pE rfl (pu (build aa rfl rfl rfl rfl) rfl ?_))
 refine aX aa rfl rfl rfl (aM aa rfl rfl rfl rfl rfl rfl rfl rfl (WO.nil (qs ?_)))
 iterate 2 refine W.seq ?_
 refine W.region ?_
 iterate 3 refine pE rfl ?_
 refine WO.nil (qs (W.block (ew 3 1 rfl rfl rfl ?_)))
 refine W.len (t := 124) rfl rfl (fun hlen => ?_)
 try simp only [List.length_map, Ex.aA] at hlen
 refine W.aU (ι := {x : Nat × List (List aH) // match x with | (k, rows) => k ≤ out.length ∧ rows = (out.take k).map iW})
  (fun x => match x.1 with | (k, rows) => [(4, .ptr 0 0), (19, .ptr 1 0), (126, .d (.v (.int .i64 ((k : Nat) : Int))))]) [(124, _), (125, _)]
  (fun x => match x.1 with | (k, rows) => [(0, [.d (.v (.slice none 0 0)), .d (.v (.slice none 0 0))]), (1, [.d (.sl (CT0.1.map Col.c)), .own 2 (rows.map rc)])]) [] [2] 3 (fun x => match x.1 with | (k, rows) => out.length - k)
  [0, 3, 4] ⟨(0, []), ?_⟩ rfl ?_ ⟨rfl, rfl, rfl, rfl, trivial⟩ ?_ trivial rfl ?_
 · exact ⟨Nat.zero_le _, rfl⟩
 · repeat' first | exact trivial | refine ⟨rfl, ?_⟩
 · repeat' first | exact trivial | refine ⟨rfl, ?_⟩
 rintro ⟨⟨k, rows⟩, hk, hW⟩
 show W _ _ _ _ _ ⟨[(4, .ptr 0 0), (19, .ptr 1 0), (126, .d (.v (.int .i64 ((k : Nat) : Int)))), (124, _), (125, _)], [(0, [.d (.v (.slice none 0 0)), .d (.v (.slice none 0 0))]), (1, [.d (.sl (CT0.1.map Col.c)), .own 2 (rows.map rc)])], [2], 3⟩
 refine W.seq (W.region (pE rfl (WO.nil (qs (W.seq (bb (l := out) (k := k) rfl (by simp [Ex.aA, aI]) hk (fun q hx hd hlt => ?_) (fun he hd => ?_)))))))
 ·
  have hq16 : q.key.length ≤ 16 := hkey q (by rw [← hR]; exact List.mem_of_getElem? hx)
  have hrl : rows.length ≤ 20000 := by rw [hW, List.length_map, List.length_take]; rw [← hR] at hJn; omega
  have hrow : q.key ++ [⟨2, q.fr, B #[]⟩, ⟨2, q.to, B #[]⟩] = iW q := rfl
  refine W.skip (qs (W.seq (W.block (W.seq (W.region (pu (indexAddr aa rfl rfl rfl rfl rfl rfl (Int.natCast_nonneg _) (aF hx) rfl) rfl ?_))))))
  refine pE rfl (aX aa rfl rfl rfl (aM aa rfl rfl rfl rfl rfl rfl rfl rfl (WO.nil (qs ?_))))
  refine' W.eM aa [_, _] [[4, 2], [5, 2], [6, 5]] [5, 6, 7] [4, 14] 16 (by kernel_rfl) (by kernel_rfl) rfl rfl ?hL_20
  case' hL_20 => skip
  refine' aQ (ev aa rfl) ?p_21 rfl rfl rfl (by kernel_rfl) rfl ?h_21
  case' h_21 => skip
  refine' aQ (ev aa rfl) ?p_22 rfl rfl rfl (by kernel_rfl) rfl ?h_22
  case' h_22 => skip
  refine' aQ (ev aa rfl) ?p_23 rfl rfl rfl (by kernel_rfl) rfl ?h_23
  case' h_23 => skip
  refine' aQ (ev aa rfl) ?p_24 rfl rfl rfl (by kernel_rfl) rfl ?h_24
  case' h_24 => skip
  refine' kC ?x_25 rfl rfl rfl (by kernel_rfl) (fun h => (ae h (by kernel_rfl)).elim) rfl ?h_25
  case x_25 =>
   intro b hb g; cases b
   · exact (ae hb (by kernel_rfl)).elim
   refine eU rfl rfl rfl (jo q.key (by omega)) (by rfl) rfl rfl ?_
   refine WO.nil ?_
   refine' iv rfl ?_ ?_ ?_ ?_
   all_goals try exact rfl
  case' h_25 => skip
  refine' aQ (ev aa rfl) ?p_26 rfl rfl rfl (by kernel_rfl) rfl ?h_26
  case' h_26 => skip
  refine' aQ (ev aa rfl) ?p_27 rfl rfl rfl (by kernel_rfl) rfl ?h_27
  case' h_27 => skip
  refine' aQ (ev aa rfl) ?p_28 rfl rfl rfl (by kernel_rfl) rfl ?h_28
  case' h_28 => skip
  refine' aQ (build aa rfl rfl rfl rfl) ?p_29 rfl rfl rfl (by kernel_rfl) rfl ?h_29
  case' h_29 => skip
  refine' aQ (ev aa rfl) ?p_30 rfl rfl rfl (by kernel_rfl) rfl ?h_30
  case' h_30 => skip
  refine' aQ (ev aa rfl) ?p_31 rfl rfl rfl (by kernel_rfl) rfl ?h_31
  case' h_31 => skip
  refine' aQ (ev aa rfl) ?p_32 rfl rfl rfl (by kernel_rfl) rfl ?h_32
  case' h_32 => skip
  refine' aQ (build aa rfl rfl rfl rfl) ?p_33 rfl rfl rfl (by kernel_rfl) rfl ?h_33
  case' h_33 => skip
  refine' aQ (aC aa rfl rfl rfl rfl rfl rfl rfl rfl rfl) ?p_34 rfl rfl rfl (by kernel_rfl) rfl ?h_34
  case' h_34 => skip
  refine' kC ?x_35 rfl rfl rfl (by kernel_rfl) (fun h => (ae h (by kernel_rfl)).elim) rfl ?h_35
  case x_35 =>
   intro b hb g; cases b
   · exact (ae hb (by kernel_rfl)).elim
   refine fa (fn := aH.c) (l := q.key) (l2 := [⟨2, q.fr, B #[]⟩, ⟨2, q.to, B #[]⟩]) aa rfl rfl rfl rfl rfl rfl rfl rfl rfl rfl (fun _ => rfl) (by show (q.key.length + 2) * 32 ≤ _; omega) ?_
   refine WO.nil ?_
   refine' iv rfl ?_ ?_ ?_ ?_
   all_goals try exact rfl
  case' h_35 => skip
  case p_21 => refine ⟨fun ha => (ae ha (by kernel_rfl)).elim, ?_, fun ha => (ae ha (by kernel_rfl)).elim, ?_, fun ha => (ae ha (by kernel_rfl)).elim, ?_⟩ <;> intro ha <;> first | exact ⟨ev aa rfl, fun h => nomatch h⟩ | exact (ae ha (by kernel_rfl)).elim
  case p_22 => refine ⟨fun ha => (ae ha (by kernel_rfl)).elim, ?_, fun ha => (ae ha (by kernel_rfl)).elim, ?_, fun ha => (ae ha (by kernel_rfl)).elim, ?_⟩ <;> intro ha <;> first | exact ⟨ev aa rfl, fun h => nomatch h⟩ | exact ⟨ct aa rfl rfl rfl rfl, fun h => nomatch h⟩ | exact ⟨cw aa rfl rfl rfl rfl rfl, fun h => nomatch h⟩ | exact (ae ha (by kernel_rfl)).elim
  case p_23 => refine ⟨fun ha => (ae ha (by kernel_rfl)).elim, ?_, fun ha => (ae ha (by kernel_rfl)).elim, ?_, fun ha => (ae ha (by kernel_rfl)).elim, ?_⟩ <;> intro ha <;> first | exact ⟨ev aa rfl, fun h => nomatch h⟩ | exact (ae ha (by kernel_rfl)).elim
  case p_24 => refine ⟨fun ha => (ae ha (by kernel_rfl)).elim, ?_, fun ha => (ae ha (by kernel_rfl)).elim, ?_, fun ha => (ae ha (by kernel_rfl)).elim, ?_⟩ <;> intro ha <;> first | exact ⟨ev aa rfl, fun h => nomatch h⟩ | exact ⟨ct aa rfl rfl rfl rfl, fun h => nomatch h⟩ | exact ⟨cw aa rfl rfl rfl rfl rfl, fun h => nomatch h⟩ | exact (ae ha (by kernel_rfl)).elim
  case p_26 => refine ⟨fun ha => (ae ha (by kernel_rfl)).elim, ?_, fun ha => (ae ha (by kernel_rfl)).elim, ?_, fun ha => (ae ha (by kernel_rfl)).elim, ?_⟩ <;> intro ha <;> first | exact ⟨ev aa rfl, fun h => nomatch h⟩ | exact (ae ha (by kernel_rfl)).elim
  case p_27 => refine ⟨fun ha => (ae ha (by kernel_rfl)).elim, ?_, fun ha => (ae ha (by kernel_rfl)).elim, ?_, fun ha => (ae ha (by kernel_rfl)).elim, ?_⟩ <;> intro ha <;> first | exact ⟨ev aa rfl, fun h => nomatch h⟩ | exact (ae ha (by kernel_rfl)).elim
  case p_28 => refine ⟨fun ha => (ae ha (by kernel_rfl)).elim, ?_, fun ha => (ae ha (by kernel_rfl)).elim, ?_, fun ha => (ae ha (by kernel_rfl)).elim, ?_⟩ <;> intro ha <;> first | exact ⟨ev aa rfl, fun h => nomatch h⟩ | exact ⟨ct aa rfl rfl rfl rfl, fun h => nomatch h⟩ | exact ⟨cw aa rfl rfl rfl rfl rfl, fun h => nomatch h⟩ | exact (ae ha (by kernel_rfl)).elim
  case p_29 => refine ⟨fun ha => (ae ha (by kernel_rfl)).elim, ?_, fun ha => (ae ha (by kernel_rfl)).elim, ?_, fun ha => (ae ha (by kernel_rfl)).elim, ?_⟩ <;> intro ha <;> first | exact ⟨build aa rfl rfl rfl rfl, fun h => nomatch h⟩ | exact (ae ha (by kernel_rfl)).elim
  case p_30 => refine ⟨fun ha => (ae ha (by kernel_rfl)).elim, ?_, fun ha => (ae ha (by kernel_rfl)).elim, ?_, fun ha => (ae ha (by kernel_rfl)).elim, ?_⟩ <;> intro ha <;> first | exact ⟨ev aa rfl, fun h => nomatch h⟩ | exact (ae ha (by kernel_rfl)).elim
  case p_31 => refine ⟨fun ha => (ae ha (by kernel_rfl)).elim, ?_, fun ha => (ae ha (by kernel_rfl)).elim, ?_, fun ha => (ae ha (by kernel_rfl)).elim, ?_⟩ <;> intro ha <;> first | exact ⟨ev aa rfl, fun h => nomatch h⟩ | exact (ae ha (by kernel_rfl)).elim
  case p_32 => refine ⟨fun ha => (ae ha (by kernel_rfl)).elim, ?_, fun ha => (ae ha (by kernel_rfl)).elim, ?_, fun ha => (ae ha (by kernel_rfl)).elim, ?_⟩ <;> intro ha <;> first | exact ⟨ev aa rfl, fun h => nomatch h⟩ | exact ⟨ct aa rfl rfl rfl rfl, fun h => nomatch h⟩ | exact ⟨cw aa rfl rfl rfl rfl rfl, fun h => nomatch h⟩ | exact (ae ha (by kernel_rfl)).elim
  case p_33 => refine ⟨fun ha => (ae ha (by kernel_rfl)).elim, ?_, fun ha => (ae ha (by kernel_rfl)).elim, ?_, fun ha => (ae ha (by kernel_rfl)).elim, ?_⟩ <;> intro ha <;> first | exact ⟨build aa rfl rfl rfl rfl, fun h => nomatch h⟩ | exact (ae ha (by kernel_rfl)).elim
  case p_34 => refine ⟨fun ha => (ae ha (by kernel_rfl)).elim, ?_, fun ha => (ae ha (by kernel_rfl)).elim, ?_, fun ha => (ae ha (by kernel_rfl)).elim, ?_⟩ <;> intro ha <;> first | exact ⟨aC aa rfl rfl rfl rfl rfl rfl rfl rfl rfl, fun h => nomatch h⟩ | exact (ae ha (by kernel_rfl)).elim
  refine' aQ (aC aa rfl rfl rfl rfl rfl rfl rfl rfl rfl) ?p_36 rfl rfl rfl (by kernel_rfl) rfl ?h_36
  case' h_36 => skip
  case p_36 => refine ⟨fun ha => (ae ha (by kernel_rfl)).elim, ?_, fun ha => (ae ha (by kernel_rfl)).elim, ?_, fun ha => (ae ha (by kernel_rfl)).elim, ?_⟩ <;> intro ha <;> first | exact ⟨aC aa rfl rfl rfl rfl rfl rfl rfl rfl rfl, fun h => nomatch h⟩ | exact (ae ha (by kernel_rfl)).elim
  refine CD.nil ?_ rfl
  refine ca (fn := rc) (a := iW q) aa rfl rfl rfl rfl rfl rfl rfl rfl rfl rfl (fun _ => rfl) (by show (rows.length + 1) * 24 ≤ _; omega) ?_
  refine pE rfl (aM aa rfl rfl rfl rfl rfl rfl rfl rfl (WO.nil (aZ (qs (W.region ?_)))))
  iterate 2 refine pE rfl ?_
  refine WO.nil (W.aW [0, 1, 6] ⟨(k + 1, rows ++ [iW q]), ?_⟩ ?_ rfl ?_ ⟨rfl, rfl, rfl, rfl, trivial⟩ ?_ trivial rfl)
  · exact ⟨hlt, by rw [hW, List.take_add_one, hx]; simp⟩
  · dsimp only; omega
  · repeat' first | exact trivial | refine ⟨rfl, ?_⟩ | refine ⟨aE (by assumption) (by assumption), ?_⟩
  repeat' first | exact trivial | refine ⟨rfl, ?_⟩
 have hg : bX a on = (⟨CT0.1, rows⟩, 0) := by
  rw [hgo, hW, ← hR, List.take_of_length_le (by have := congrArg List.length hd; simp at this; omega)]
 refine W.exit (aK (aP (aL (qs (W.seq (W.region (pE rfl (aM aa rfl rfl rfl rfl rfl rfl rfl rfl (pE rfl (WO.nil (qs ?_)))))))))))
 try refine cf 1 0 rfl rfl rfl ?_
 try refine cf 1 1 rfl rfl rfl ?_
 refine W.ret (QV.aq aa trivial rfl ?_)
 (rw [hg]; rfl)
end Go.Proofs.Ytjenenllmjlimaa
namespace Go.Proofs.Ytjenenllmjlimaa
open Go.Ab Go.Tb
set_option maxRecDepth 10000
attribute [local irreducible] W WO Pu QS QB QL QF QV bD CH QE
theorem qb (a : bo) (on : List ByteArray) (hon : on.length ≤ 400) (hpos : pieces (jS a on) (b7 a.cols aN) (b7 a.cols bM) a.rows = []) : aw Try.prog 12 [.ag a.c, .d (.sl (on.map sc))]
  (.tup [.ag (bX a on).1.c, .d (.v (.int .i64 (bX a on).2))]) 0 := by
 have hcol := gX 9 on [a] (by simp) hon
 rw [nf] at hcol
 obtain ⟨CT0, hCT⟩ : ∃ c, gn 9 on a = c := ⟨_, rfl⟩
 rw [hCT] at hcol
 obtain ⟨m0, hm0⟩ : ∃ i, b7 a.cols aN = i := ⟨_, rfl⟩
 obtain ⟨m1, hm1⟩ : ∃ i, b7 a.cols bM = i := ⟨_, rfl⟩
 obtain ⟨left, hleft⟩ : ∃ l, jS a on = l := ⟨_, rfl⟩
 rw [hm0, hm1, hleft] at hpos
 refine aw.eP aa (n := 150) (rs := [.cell 4 25, .tmp 5]) Try.func12 (by kernel_rfl) rfl Try.ntmps12 Try.results12 rfl fun C hC hG => ?_
 refine W.seq (W.region (bJ rfl rfl rfl (aX aa rfl rfl rfl (pE rfl (WO.nil (qs (W.seq (W.region (pE rfl (pE rfl (pu (aC aa rfl rfl rfl rfl rfl rfl rfl rfl rfl) rfl ?_)))))))))))
 refine pu (ab rfl rfl rfl hcol rfl) rfl ?_
 iterate 5 refine pE rfl ?_
 refine WO.nil (qs ?_)
 iterate 2 refine W.seq ?_
 refine W.region ?_
 iterate 2 refine pE rfl ?_
 refine WO.nil (qs (an rfl (fun h30 => ?_) (fun h30 => ?_)))
 ·
  have he : CT0.2 ≠ 0 := by simpa using h30
  have hg : bX a on = (fb, CT0.2) := by unfold bX; rw [hCT, if_pos he]
  refine W.seq (W.region (pu (build aa rfl rfl rfl rfl) rfl ?_))
  refine pE rfl (aM aa rfl rfl rfl rfl rfl rfl rfl rfl (pE rfl (WO.nil (qs ?_))))
  try refine cf 1 0 rfl rfl rfl ?_
  try refine cf 1 1 rfl rfl rfl ?_
  refine W.ret (ah (QV.aq aa trivial rfl ?_))
  (rw [hg]; rfl)
 have he : CT0.2 = 0 := by simpa using h30
 have hok := tM (by rw [hCT]; exact he)
 have hoo := uN hok
 have haz := c9 hok.ga
 have hol := hok.len
 have hra := dU hok.ga
 obtain ⟨srt, hsrt⟩ : ∃ s, dF be (pieces left m0 m1 a.rows) = s := ⟨_, rfl⟩
 obtain ⟨J, hJJ⟩ : ∃ s, eA [] srt = s := ⟨_, rfl⟩
 have hgo : bX a on = (⟨CT0.1, J.map iW⟩, 0) := by unfold bX pJ; rw [hCT, if_neg (by simp [he]), hleft, hm0, hm1, hsrt, hJJ]
 have hpl : aw Try.prog 23 [.ag a.c, .d (.sl (on.map sc))] (.d (.sl (left.map nc))) 0 := by
  have := dv a on (by omega)
  rw [eL (fun s hs => by obtain ⟨i, c, h1, _⟩ := hok.ons s hs; exact ⟨i, h1⟩)] at this
  rw [← hleft]; exact this
 have hpm : aw Try.prog 23 [.ag a.c, .d (.sl ([aN, bM].map sc))] (.d (.sl ([m0, m1].map nc))) 0 := by
  have := dv a [aN, bM] (by simp)
  rw [eL (fun s hs => by
   rcases List.mem_cons.1 hs with rfl | hs
   · obtain ⟨i, c, h1, _⟩ := hok.fr; exact ⟨i, h1⟩
   rcases List.mem_cons.1 hs with rfl | hs
   · obtain ⟨i, c, h1, _⟩ := hok.to; exact ⟨i, h1⟩
   cases hs)] at this
  rw [← hm0, ← hm1]; exact this
 have hll : left.length ≤ 16 := by rw [← hleft]; show (on.map _).length ≤ _; rw [List.length_map]; exact hol
 rw [show on.map (b7 a.cols) = left from hleft, hm0, hm1] at hoo
 refine W.skip (qs (W.seq (W.bw aa (by kernel_rfl) ?_)))
 refine ao (ev aa rfl) rfl ?_
 refine ao (ev aa rfl) rfl ?_
 refine ao (ab rfl rfl rfl hpl rfl) rfl ?_
 refine ao (ev aa rfl) rfl ?_
 refine ao (aC aa rfl rfl rfl rfl rfl rfl rfl rfl rfl) rfl ?_
 refine ao (ab rfl rfl rfl hpm rfl) rfl ?_
 iterate 2 refine ao (ev aa rfl) rfl ?_
 refine CH.nil ?_
 refine qs (W.seq (W.region ?_))
 iterate 2 refine pE rfl ?_
 refine WO.nil (qs ?_)
 iterate 2 refine W.seq ?_
 refine W.region (pE rfl (pE rfl ?_))
 iterate 2 refine pE rfl ?_
 refine WO.nil (qs (W.block (W.lG (d := 10) rfl rfl ?_)))
 refine W.len (t := 40) rfl rfl (fun hlen => ?_)
 try simp only [List.length_map, Ex.aA] at hlen
 refine W.aU (ι := {x : Nat × List Pc // match x with | (i, L) => i ≤ a.rows.length ∧ L.length ≤ i ∧ L ++ pieces left m0 m1 (a.rows.drop i) = pieces left m0 m1 a.rows})
  (fun x => match x.1 with | (i, L) => [(4, .ptr 0 0), (10, .xs 1 (L.map Pc.c)), (42, .d (.v (.int .i64 ((i : Nat) : Int))))]) [(6, _), (8, _), (9, _), (11, _), (40, _), (41, _)]
  (fun x => match x.1 with | (i, L) => [(0, [.d (.v (.slice none 0 0)), .d (.v (.slice none 0 0))])]) [] [1] 2 (fun x => match x.1 with | (i, L) => a.rows.length - i)
  [1, 2] ⟨(0, []), ?_⟩ rfl ?_ ⟨rfl, rfl, rfl, rfl, rfl, rfl, rfl, rfl, rfl, rfl, rfl, rfl, trivial⟩ ?_ trivial rfl ?_
 · exact ⟨Nat.zero_le _, Nat.zero_le _, rfl⟩
 · repeat' first | exact trivial | refine ⟨rfl, ?_⟩
 · repeat' first | exact trivial | refine ⟨rfl, ?_⟩
 rintro ⟨⟨i, L⟩, hk, hn, hI⟩
 show W _ _ _ _ _ ⟨[(4, .ptr 0 0), (10, .xs 1 (L.map Pc.c)), (42, .d (.v (.int .i64 ((i : Nat) : Int)))), (6, _), (8, _), (9, _), (11, _), (40, _), (41, _)], [(0, [.d (.v (.slice none 0 0)), .d (.v (.slice none 0 0))])], [1], 2⟩
 refine W.seq (W.region (pE rfl (WO.nil (qs (W.seq (bb (l := a.rows) (k := i) rfl (by simp [Ex.aA, aI]) hk (fun z hx hd hlt => ?_) (fun he hd => ?_)))))))
 ·
  rw [hd] at hI
  simp only [pieces] at hI
  have hxm := List.mem_of_getElem? hx
  have hxl := (hra z hxm).1
  have hsx := lM z m0 m1 (by rw [hxl]; exact hoo.m0) (by rw [hxl]; exact hoo.m1)
  have hpx := gf z left (by omega) (fun q hq => by rw [hxl]; exact hoo.left q hq)
  refine W.skip (qs (W.seq (W.block (W.seq (W.region (pu (indexAddr aa rfl rfl rfl rfl rfl rfl (Int.natCast_nonneg _) (aF hx) rfl) rfl ?_))))))
  refine pE rfl (pE rfl (WO.nil (qs (W.seq (W.region ?_)))))
  iterate 2 refine pE rfl ?_
  refine pu (ab rfl rfl rfl hsx rfl) rfl ?_
  iterate 3 refine pE rfl ?_
  refine aX aa rfl rfl rfl (aM aa rfl rfl rfl rfl rfl rfl rfl rfl (pE rfl (WO.nil (qs (W.seq ?_)))))
  apply aG; (case hb => rfl)
  ·
   iterate 2 refine pE rfl ?_
   apply dL; (case hj => rfl); (case hl => rfl)
   ·
    intro g53
    refine ak rfl rfl (pE rfl (ak rfl rfl (pE rfl (ak rfl rfl ?_))))
    iterate 2 refine pE rfl ?_
    refine WO.nil (aB rfl rfl rfl)
   intro g53
   iterate 3 refine ax rfl rfl rfl rfl ?_
   refine pE rfl (WO.nil (aB rfl rfl rfl))
  refine qs (an rfl (fun h57 => ?_) (fun h57 => ?_))
  ·
   have hin : jO z m0 m1 = true := by
    revert h57
    unfold jO
    cases da z m0 m1 <;> simp
   rw [if_pos hin] at hI
   refine W.eM aa [] [] [] [] 7 (by kernel_rfl) (by kernel_rfl) rfl rfl ?_
   refine' aQ (ev aa rfl) ?p_1 rfl rfl rfl (by kernel_rfl) rfl ?h_1
   case' h_1 => skip
   case p_1 => refine ⟨fun ha => (ae ha (by kernel_rfl)).elim, ?_⟩ <;> intro ha <;> first | exact ⟨ev aa rfl, fun h => nomatch h⟩ | exact (ae ha (by kernel_rfl)).elim
   refine' aQ (ev aa rfl) ?p_2 rfl rfl rfl (by kernel_rfl) rfl ?h_2
   case' h_2 => skip
   case p_2 => refine ⟨fun ha => (ae ha (by kernel_rfl)).elim, ?_⟩ <;> intro ha <;> first | exact ⟨ev aa rfl, fun h => nomatch h⟩ | exact (ae ha (by kernel_rfl)).elim
   refine' aQ (ev aa rfl) ?p_3 rfl rfl rfl (by kernel_rfl) rfl ?h_3
   case' h_3 => skip
   case p_3 => refine ⟨fun ha => (ae ha (by kernel_rfl)).elim, ?_⟩ <;> intro ha <;> first | exact ⟨ev aa rfl, fun h => nomatch h⟩ | exact (ae ha (by kernel_rfl)).elim
   refine' aQ (ab rfl rfl rfl hpx rfl) ?p_4 rfl rfl rfl (by kernel_rfl) rfl ?h_4
   case' h_4 => skip
   case p_4 => refine ⟨fun ha => (ae ha (by kernel_rfl)).elim, ?_⟩ <;> intro ha <;> first | exact ⟨ab rfl rfl rfl hpx rfl, fun h => nomatch h⟩ | exact (ae ha (by kernel_rfl)).elim
   refine' aQ (ev aa rfl) ?p_5 rfl rfl rfl (by kernel_rfl) rfl ?h_5
   case' h_5 => skip
   case p_5 => refine ⟨fun ha => (ae ha (by kernel_rfl)).elim, ?_⟩ <;> intro ha <;> first | exact ⟨ev aa rfl, fun h => nomatch h⟩ | exact ⟨ct aa rfl rfl rfl rfl, fun h => nomatch h⟩ | exact ⟨cw aa rfl rfl rfl rfl rfl, fun h => nomatch h⟩ | exact (ae ha (by kernel_rfl)).elim
   refine' aQ (build aa rfl rfl rfl rfl) ?p_6 rfl rfl rfl (by kernel_rfl) rfl ?h_6
   case' h_6 => skip
   case p_6 => refine ⟨fun ha => (ae ha (by kernel_rfl)).elim, ?_⟩ <;> intro ha <;> first | exact ⟨build aa rfl rfl rfl rfl, fun h => nomatch h⟩ | exact (ae ha (by kernel_rfl)).elim
   refine' aQ (aC aa rfl rfl rfl rfl rfl rfl rfl rfl rfl) ?p_7 rfl rfl rfl (by kernel_rfl) rfl ?h_7
   case' h_7 => skip
   case p_7 => refine ⟨fun ha => (ae ha (by kernel_rfl)).elim, ?_⟩ <;> intro ha <;> first | exact ⟨aC aa rfl rfl rfl rfl rfl rfl rfl rfl rfl, fun h => nomatch h⟩ | exact (ae ha (by kernel_rfl)).elim
   refine CD.nil ?_ rfl
   refine gQ (es2 := [(mc left m0 m1 z).c]) (r := (L ++ [mc left m0 m1 z]).map Pc.c) aa rfl rfl rfl rfl rfl rfl rfl rfl rfl rfl (gg _ _) (by rw [gg]; exact bK _) (by show ((L.map Pc.c).length + 1) * 40 ≤ _; rw [List.length_map]; omega) rfl ?_
   refine pE rfl (WO.nil (aZ (qs (W.region ?_))))
   iterate 2 refine pE rfl ?_
   refine WO.nil ?_
   have hbr := hin
   (have _hb : jO z m0 m1 = true := hbr; refine W.aW [0, 3] ⟨(i + 1, L ++ [mc left m0 m1 z]), ?_⟩ ?_ rfl ?_ ⟨rfl, rfl, rfl, rfl, rfl, rfl, rfl, rfl, rfl, rfl, rfl, rfl, trivial⟩ ?_ trivial rfl)
   · exact ⟨hlt, (by first | (rw [List.length_append]; simp; omega) | omega), (by first | exact hI | (rw [List.append_assoc]; exact hI))⟩
   · dsimp only; omega
   · repeat' first | exact trivial | refine ⟨rfl, ?_⟩ | refine ⟨aE (by assumption) (by assumption), ?_⟩
   repeat' first | exact trivial | refine ⟨rfl, ?_⟩
  have hin : jO z m0 m1 = false := by
   revert h57
   unfold jO
   cases da z m0 m1 <;> simp
  rw [if_neg (by simp [hin])] at hI
  refine W.skip (aZ (qs (W.region ?_)))
  iterate 2 refine pE rfl ?_
  refine WO.nil ?_
  have hbr := hin
  (have _hb : jO z m0 m1 = false := hbr; refine W.aW [0, 1] ⟨(i + 1, L), ?_⟩ ?_ rfl ?_ ⟨rfl, rfl, rfl, rfl, rfl, rfl, rfl, rfl, rfl, rfl, rfl, rfl, trivial⟩ ?_ trivial rfl)
  · exact ⟨hlt, (by first | (rw [List.length_append]; simp; omega) | omega), (by first | exact hI | (rw [List.append_assoc]; exact hI))⟩
  · dsimp only; omega
  · repeat' first | exact trivial | refine ⟨rfl, ?_⟩ | refine ⟨aE (by assumption) (by assumption), ?_⟩
  repeat' first | exact trivial | refine ⟨rfl, ?_⟩
 rw [hd] at hI
 simp only [pieces, List.append_nil] at hI
 rw [← hI] at hpos hsrt
 have hL2 : L.length ≤ 20000 := by omega
 have hst : dF be L = srt := hsrt
 have hsl0 : srt.length = L.length := by rw [← hst]; exact (fL be L).len
 have hkey : ∀ p ∈ J, p.key.length ≤ 16 := by
  have h1 : ∀ p ∈ srt, p.key.length = left.length := fun p hp => by
   have h2 : p ∈ L := by rw [← hst] at hp; exact (fL be L).perm.mem_iff.1 hp
   rw [hI] at h2
   exact iz left m0 m1 a.rows p h2
  intro p hp
  rw [← hJJ] at hp
  have := jC srt [] h1 (fun p hp => nomatch hp) p hp
  omega
 have hJn : J.length ≤ 20000 := by rw [← hJJ]; have := jm srt []; simp at this; omega
 refine W.exit (aK (aP (aL (qs (W.seq ?_)))))
 have hL0 : L = [] := hpos
 subst hL0
 have hs0 : srt = [] := List.length_eq_zero_iff.1 hsl0
 subst hs0
 refine nT 10 rfl rfl rfl rfl ?_
 refine rh 10 rfl rfl ?_
 refine W.region (pE rfl (pu (ab rfl rfl rfl nU rfl) rfl ?_))
 refine WO.nil (qs ?_)
 iterate 2 refine W.seq ?_
 refine W.region ?_
 iterate 3 refine pE rfl ?_
 refine WO.nil (qs (W.block (W.lG (d := 11) rfl rfl ?_)))
 have hsm : ([] : List Pc).length ≤ maxLen := by simp only [maxLen]; omega
 refine W.aU (ι := {x : Nat × List Pc // match x with | (j, out) => j ≤ ([] : List Pc).length ∧ out.length ≤ j ∧ eA out (([] : List Pc).drop j) = J})
  (fun x => match x.1 with | (j, out) => [(4, .ptr 0 0), (11, .xs 1 (out.map Pc.c)), (71, .d (.v (.int .i64 ((j : Nat) : Int))))]) [(6, _), (69, _), (70, _)]
  (fun x => match x.1 with | (j, out) => [(0, [.d (.v (.slice none 0 0)), .d (.v (.slice none 0 0))])]) [] [1] 2 (fun x => match x.1 with | (j, out) => ([] : List Pc).length - j)
  [0, 3] ⟨(0, []), ?_⟩ rfl ?_ ⟨rfl, rfl, rfl, rfl, rfl, rfl, trivial⟩ ?_ trivial rfl ?_
 · exact ⟨Nat.zero_le _, Nat.zero_le _, hJJ⟩
 · repeat' first | exact trivial | refine ⟨rfl, ?_⟩
 · repeat' first | exact trivial | refine ⟨rfl, ?_⟩
 rintro ⟨⟨j, out⟩, hk, hn2, hR⟩
 show W _ _ _ _ _ ⟨[(4, .ptr 0 0), (11, .xs 1 (out.map Pc.c)), (71, .d (.v (.int .i64 ((j : Nat) : Int)))), (6, _), (69, _), (70, _)], [(0, [.d (.v (.slice none 0 0)), .d (.v (.slice none 0 0))])], [1], 2⟩
 refine W.seq (W.region (pE rfl (WO.nil (qs (W.seq (bb (l := ([] : List Pc)) (k := j) rfl (by simp [Ex.aA, aI]) hk (fun p hx hd hlt => ?_) (fun he hd => ?_)))))))
 ·
  rw [hd] at hR
  simp only [eA] at hR
  have hsub : IntKind.i64.wrap (((out.map Pc.c).length : Int) - 1) = ((out.length : Int) - 1) := by rw [List.length_map, wrap64 (by omega)]
  have hla : ∀ h : decide (0 ≤ (out.length : Int) - 1) = true, 0 < out.length ∧ 0 ≤ (out.length : Int) - 1 ∧ (out.map Pc.c)[((out.length : Int) - 1).toNat]? = some (cn out).c := by
   intro h
   have h0 : 0 < out.length := by simp at h; omega
   refine ⟨h0, by omega, ?_⟩
   rw [show ((out.length : Int) - 1).toNat = out.length - 1 by omega]
   exact cL (by omega)
  refine W.skip (qs (W.seq (W.block (W.seq (W.region (pu (indexAddr aa rfl rfl rfl rfl rfl rfl (Int.natCast_nonneg _) (aF hx) rfl) rfl ?_))))))
  refine pE rfl (aX aa rfl rfl rfl (aM aa rfl rfl rfl rfl rfl rfl rfl rfl (WO.nil (qs (W.seq (W.region (pE rfl (pu (rH aa rfl rfl rfl rfl) rfl ?_))))))))
  refine pu (bz (ev aa rfl) hsub) rfl ?_
  refine pE rfl (WO.nil (qs (W.seq ?_)))
  apply ja aa; (case hb => rfl); (case hB => kernel_rfl)
  ·
   iterate 3 refine ao (ev aa rfl) rfl ?_
   apply fQ; (case hj => rfl); (case hl => rfl)
   ·
    intro g80
    refine aT rfl rfl (ev aa rfl) rfl ?_
    refine aT rfl rfl (ev aa rfl) rfl ?_
    refine aT rfl rfl (eF (l := (cn out).c) aa rfl rfl rfl rfl rfl rfl (hla g80).2.1 (hla g80).2.2 rfl) rfl ?_
    refine aT rfl rfl (cK aa rfl rfl rfl rfl rfl rfl) rfl ?_
    refine aT rfl rfl (gT aa rfl rfl rfl) rfl ?_
    refine aT rfl rfl (ev aa rfl) rfl ?_
    refine aT rfl rfl (ev aa rfl) rfl ?_
    refine aT rfl rfl (ab rfl rfl rfl (kY (cn out).key p.key) rfl) rfl ?_
    iterate 2 refine ao (ev aa rfl) rfl ?_
    apply fQ; (case hj => rfl); (case hl => rfl)
    ·
     intro g90
     refine aT rfl rfl (ev aa rfl) rfl ?_
     refine aT rfl rfl (ev aa rfl) rfl ?_
     refine aT rfl rfl (ev aa rfl) rfl ?_
     refine aT rfl rfl (ev aa rfl) rfl ?_
     refine aT rfl rfl (ev aa rfl) rfl ?_
     refine aT rfl rfl (eF (l := (cn out).c) aa rfl rfl rfl rfl rfl rfl (hla g80).2.1 (hla g80).2.2 rfl) rfl ?_
     refine aT rfl rfl (cK aa rfl rfl rfl rfl rfl rfl) rfl ?_
     refine aT rfl rfl (cK aa rfl rfl rfl rfl rfl rfl) rfl ?_
     refine aT rfl rfl (gT aa rfl rfl rfl) rfl ?_
     refine aT rfl rfl (ev aa rfl) rfl ?_
     refine ao (ev aa rfl) rfl ?_
     refine CH.nil ?_
     refine aB rfl rfl rfl
    intro g90
    iterate 10 refine dZ rfl rfl rfl rfl ?_
    refine ao (ev aa rfl) rfl ?_
    refine CH.nil ?_
    refine aB rfl rfl rfl
   intro g80
   iterate 8 refine dZ rfl rfl rfl rfl ?_
   iterate 2 refine ao (ev aa rfl) rfl ?_
   iterate 10 refine dZ rfl rfl rfl rfl ?_
   refine ao (ev aa rfl) rfl ?_
   refine CH.nil ?_
   refine aB rfl rfl rfl
  refine qs (an rfl (fun h101 => ?_) (fun h101 => ?_))
  ·
   have htp : dk out p = true := by
    revert h101
    unfold dk
    by_cases q : 0 < out.length
    ·
     have q1 : 0 ≤ (out.length : Int) - 1 := by omega
     have q2 : 1 ≤ (out.length : Int) := by omega
     simp [q, q1, q2]
    have q1 : ¬ (0 ≤ (out.length : Int) - 1) := by omega
    have q2 : ¬ (1 ≤ (out.length : Int)) := by omega
    simp [q, q1, q2]
   rw [if_pos htp] at hR
   have h0 : 0 < out.length := by unfold dk at htp; simp at htp; exact htp.1
   have hk0 : 0 ≤ (out.length : Int) - 1 := by omega
   have hat : (out.map Pc.c)[((out.length : Int) - 1).toNat]? = some (cn out).c := by
    rw [show ((out.length : Int) - 1).toNat = out.length - 1 by omega]
    exact cL (by omega)
   have hset : (out.map Pc.c).set ((out.length : Int) - 1).toNat (js (cn out) p).c = (out.set (out.length - 1) (js (cn out) p)).map Pc.c := by
    rw [show ((out.length : Int) - 1).toNat = out.length - 1 by omega]
    exact fE
   refine W.eM aa [] [] [] [] 12 (by kernel_rfl) (by kernel_rfl) rfl rfl ?_
   refine' aQ (ev aa rfl) ?p_8 rfl rfl rfl (by kernel_rfl) rfl ?h_8
   case' h_8 => skip
   case p_8 => refine ⟨fun ha => (ae ha (by kernel_rfl)).elim, ?_⟩ <;> intro ha <;> first | exact ⟨ev aa rfl, fun h => nomatch h⟩ | exact (ae ha (by kernel_rfl)).elim
   refine' aQ (ev aa rfl) ?p_9 rfl rfl rfl (by kernel_rfl) rfl ?h_9
   case' h_9 => skip
   case p_9 => refine ⟨fun ha => (ae ha (by kernel_rfl)).elim, ?_⟩ <;> intro ha <;> first | exact ⟨ev aa rfl, fun h => nomatch h⟩ | exact (ae ha (by kernel_rfl)).elim
   refine' aQ (ev aa rfl) ?p_10 rfl rfl rfl (by kernel_rfl) rfl ?h_10
   case' h_10 => skip
   case p_10 => refine ⟨fun ha => (ae ha (by kernel_rfl)).elim, ?_⟩ <;> intro ha <;> first | exact ⟨ev aa rfl, fun h => nomatch h⟩ | exact (ae ha (by kernel_rfl)).elim
   refine' aQ (ev aa rfl) ?p_11 rfl rfl rfl (by kernel_rfl) rfl ?h_11
   case' h_11 => skip
   case p_11 => refine ⟨fun ha => (ae ha (by kernel_rfl)).elim, ?_⟩ <;> intro ha <;> first | exact ⟨ev aa rfl, fun h => nomatch h⟩ | exact (ae ha (by kernel_rfl)).elim
   refine' aQ (eF (l := (cn out).c) aa rfl rfl rfl rfl rfl rfl hk0 hat rfl) ?p_12 rfl rfl rfl (by kernel_rfl) rfl ?h_12
   case' h_12 => skip
   case p_12 => refine ⟨fun ha => (ae ha (by kernel_rfl)).elim, ?_⟩ <;> intro ha <;> first | exact ⟨eF (l := (cn out).c) aa rfl rfl rfl rfl rfl rfl hk0 hat rfl, fun h => nomatch h⟩ | exact (ae ha (by kernel_rfl)).elim
   refine' aQ (cK aa rfl rfl rfl rfl rfl rfl) ?p_13 rfl rfl rfl (by kernel_rfl) rfl ?h_13
   case' h_13 => skip
   case p_13 => refine ⟨fun ha => (ae ha (by kernel_rfl)).elim, ?_⟩ <;> intro ha <;> first | exact ⟨cK aa rfl rfl rfl rfl rfl rfl, fun h => nomatch h⟩ | exact (ae ha (by kernel_rfl)).elim
   refine' aQ (cK aa rfl rfl rfl rfl rfl rfl) ?p_14 rfl rfl rfl (by kernel_rfl) rfl ?h_14
   case' h_14 => skip
   case p_14 => refine ⟨fun ha => (ae ha (by kernel_rfl)).elim, ?_⟩ <;> intro ha <;> first | exact ⟨cK aa rfl rfl rfl rfl rfl rfl, fun h => nomatch h⟩ | exact (ae ha (by kernel_rfl)).elim
   refine' aQ (gT aa rfl rfl rfl) ?p_15 rfl rfl rfl (by kernel_rfl) rfl ?h_15
   case' h_15 => skip
   case p_15 => refine ⟨fun ha => (ae ha (by kernel_rfl)).elim, ?_⟩ <;> intro ha <;> first | exact ⟨gT aa rfl rfl rfl, fun h => nomatch h⟩ | exact (ae ha (by kernel_rfl)).elim
   refine' aQ (ev aa rfl) ?p_16 rfl rfl rfl (by kernel_rfl) rfl ?h_16
   case' h_16 => skip
   case p_16 => refine ⟨fun ha => (ae ha (by kernel_rfl)).elim, ?_⟩ <;> intro ha <;> first | exact ⟨ev aa rfl, fun h => nomatch h⟩ | exact (ae ha (by kernel_rfl)).elim
   refine' aQ (ev aa rfl) ?p_17 rfl rfl rfl (by kernel_rfl) rfl ?h_17
   case' h_17 => skip
   case p_17 => refine ⟨fun ha => (ae ha (by kernel_rfl)).elim, ?_⟩ <;> intro ha <;> first | exact ⟨ev aa rfl, fun h => nomatch h⟩ | exact (ae ha (by kernel_rfl)).elim
   refine' aQ (ev aa rfl) ?p_18 rfl rfl rfl (by kernel_rfl) rfl ?h_18
   case' h_18 => skip
   case p_18 => refine ⟨fun ha => (ae ha (by kernel_rfl)).elim, ?_⟩ <;> intro ha <;> first | exact ⟨ev aa rfl, fun h => nomatch h⟩ | exact ⟨ct aa rfl rfl rfl rfl, fun h => nomatch h⟩ | exact ⟨cw aa rfl rfl rfl rfl rfl, fun h => nomatch h⟩ | exact (ae ha (by kernel_rfl)).elim
   refine' aQ (ev aa rfl) ?p_19 rfl rfl rfl (by kernel_rfl) rfl ?h_19
   case' h_19 => skip
   case p_19 => refine ⟨fun ha => (ae ha (by kernel_rfl)).elim, ?_⟩ <;> intro ha <;> first | exact ⟨ev aa rfl, fun h => nomatch h⟩ | exact (ae ha (by kernel_rfl)).elim
   refine CD.nil ?_ rfl
   refine pu (eF (l := (cn out).c) aa rfl rfl rfl rfl rfl rfl hk0 hat rfl) rfl ?_
   refine pu (cK aa rfl rfl rfl rfl rfl rfl) rfl ?_
   refine pu (cK aa rfl rfl rfl rfl rfl rfl) rfl ?_
   refine mX aa 11 rfl rfl rfl rfl hat rfl rfl rfl rfl rfl rfl hset rfl ?_
   refine WO.nil (aZ (qs (W.region ?_)))
   iterate 2 refine pE rfl ?_
   refine WO.nil ?_
   have hbr := htp
   (have _hb : dk out p = true := hbr; refine W.aW [0, 3] ⟨(j + 1, out.set (out.length - 1) (js (cn out) p)), ?_⟩ ?_ rfl ?_ ⟨rfl, rfl, rfl, rfl, rfl, rfl, trivial⟩ ?_ trivial rfl)
   · exact ⟨hlt, (by first | (rw [List.length_append]; simp; omega) | (rw [List.length_set]; omega)), hR⟩
   · dsimp only; omega
   · repeat' first | exact trivial | refine ⟨rfl, ?_⟩ | refine ⟨aE (by assumption) (by assumption), ?_⟩
   repeat' first | exact trivial | refine ⟨rfl, ?_⟩
  have htp : dk out p = false := by
   revert h101
   unfold dk
   by_cases q : 0 < out.length
   ·
    have q1 : 0 ≤ (out.length : Int) - 1 := by omega
    have q2 : 1 ≤ (out.length : Int) := by omega
    simp [q, q1, q2]
   have q1 : ¬ (0 ≤ (out.length : Int) - 1) := by omega
   have q2 : ¬ (1 ≤ (out.length : Int)) := by omega
   simp [q, q1, q2]
  rw [if_neg (by simp [htp])] at hR
  refine W.region (pE rfl (pE rfl (pu (aC aa rfl rfl rfl rfl rfl rfl rfl rfl rfl) rfl ?_)))
  refine gQ (es2 := [p.c]) (r := (out ++ [p]).map Pc.c) aa rfl rfl rfl rfl rfl rfl rfl rfl rfl rfl (gg _ _) (by rw [gg]; exact bK _) (by show ((out.map Pc.c).length + 1) * 40 ≤ _; rw [List.length_map]; omega) rfl ?_
  refine pE rfl (WO.nil (aZ (qs (W.region ?_))))
  iterate 2 refine pE rfl ?_
  refine WO.nil ?_
  have hbr := htp
  (have _hb : dk out p = false := hbr; refine W.aW [0, 3] ⟨(j + 1, out ++ [p]), ?_⟩ ?_ rfl ?_ ⟨rfl, rfl, rfl, rfl, rfl, rfl, trivial⟩ ?_ trivial rfl)
  · exact ⟨hlt, (by first | (rw [List.length_append]; simp; omega) | (rw [List.length_set]; omega)), hR⟩
  · dsimp only; omega
  · repeat' first | exact trivial | refine ⟨rfl, ?_⟩ | refine ⟨aE (by assumption) (by assumption), ?_⟩
  repeat' first | exact trivial | refine ⟨rfl, ?_⟩
 rw [hd] at hR
 simp only [eA] at hR
 refine W.exit (aK (aP (aL (qs (W.seq (nT 11 rfl rfl rfl rfl ?_))))))
 refine rh 11 rfl rfl ?_
 refine W.region (pE rfl (pu (build aa rfl rfl rfl rfl) rfl ?_))
 refine aX aa rfl rfl rfl (aM aa rfl rfl rfl rfl rfl rfl rfl rfl (WO.nil (qs ?_)))
 iterate 2 refine W.seq ?_
 refine W.region ?_
 iterate 3 refine pE rfl ?_
 refine WO.nil (qs (W.block (ew 3 1 rfl rfl rfl ?_)))
 refine W.len (t := 124) rfl rfl (fun hlen => ?_)
 try simp only [List.length_map, Ex.aA] at hlen
 refine W.aU (ι := {x : Nat × List (List aH) // match x with | (k, rows) => k ≤ out.length ∧ rows = (out.take k).map iW})
  (fun x => match x.1 with | (k, rows) => [(4, .ptr 0 0), (19, .ptr 1 0), (126, .d (.v (.int .i64 ((k : Nat) : Int))))]) [(124, _), (125, _)]
  (fun x => match x.1 with | (k, rows) => [(0, [.d (.v (.slice none 0 0)), .d (.v (.slice none 0 0))]), (1, [.d (.sl (CT0.1.map Col.c)), .own 2 (rows.map rc)])]) [] [2] 3 (fun x => match x.1 with | (k, rows) => out.length - k)
  [0, 3, 4] ⟨(0, []), ?_⟩ rfl ?_ ⟨rfl, rfl, rfl, rfl, trivial⟩ ?_ trivial rfl ?_
 · exact ⟨Nat.zero_le _, rfl⟩
 · repeat' first | exact trivial | refine ⟨rfl, ?_⟩
 · repeat' first | exact trivial | refine ⟨rfl, ?_⟩
 rintro ⟨⟨k, rows⟩, hk, hW⟩
 show W _ _ _ _ _ ⟨[(4, .ptr 0 0), (19, .ptr 1 0), (126, .d (.v (.int .i64 ((k : Nat) : Int)))), (124, _), (125, _)], [(0, [.d (.v (.slice none 0 0)), .d (.v (.slice none 0 0))]), (1, [.d (.sl (CT0.1.map Col.c)), .own 2 (rows.map rc)])], [2], 3⟩
 refine W.seq (W.region (pE rfl (WO.nil (qs (W.seq (bb (l := out) (k := k) rfl (by simp [Ex.aA, aI]) hk (fun q hx hd hlt => ?_) (fun he hd => ?_)))))))
 ·
  have hq16 : q.key.length ≤ 16 := hkey q (by rw [← hR]; exact List.mem_of_getElem? hx)
  have hrl : rows.length ≤ 20000 := by rw [hW, List.length_map, List.length_take]; rw [← hR] at hJn; omega
  have hrow : q.key ++ [⟨2, q.fr, B #[]⟩, ⟨2, q.to, B #[]⟩] = iW q := rfl
  refine W.skip (qs (W.seq (W.block (W.seq (W.region (pu (indexAddr aa rfl rfl rfl rfl rfl rfl (Int.natCast_nonneg _) (aF hx) rfl) rfl ?_))))))
  refine pE rfl (aX aa rfl rfl rfl (aM aa rfl rfl rfl rfl rfl rfl rfl rfl (WO.nil (qs ?_))))
  refine' W.eM aa [_, _] [[4, 2], [5, 2], [6, 5]] [5, 6, 7] [4, 14] 16 (by kernel_rfl) (by kernel_rfl) rfl rfl ?hL_20
  case' hL_20 => skip
  refine' aQ (ev aa rfl) ?p_21 rfl rfl rfl (by kernel_rfl) rfl ?h_21
  case' h_21 => skip
  refine' aQ (ev aa rfl) ?p_22 rfl rfl rfl (by kernel_rfl) rfl ?h_22
  case' h_22 => skip
  refine' aQ (ev aa rfl) ?p_23 rfl rfl rfl (by kernel_rfl) rfl ?h_23
  case' h_23 => skip
  refine' aQ (ev aa rfl) ?p_24 rfl rfl rfl (by kernel_rfl) rfl ?h_24
  case' h_24 => skip
  refine' kC ?x_25 rfl rfl rfl (by kernel_rfl) (fun h => (ae h (by kernel_rfl)).elim) rfl ?h_25
  case x_25 =>
   intro b hb g; cases b
   · exact (ae hb (by kernel_rfl)).elim
   refine eU rfl rfl rfl (jo q.key (by omega)) (by rfl) rfl rfl ?_
   refine WO.nil ?_
   refine' iv rfl ?_ ?_ ?_ ?_
   all_goals try exact rfl
  case' h_25 => skip
  refine' aQ (ev aa rfl) ?p_26 rfl rfl rfl (by kernel_rfl) rfl ?h_26
  case' h_26 => skip
  refine' aQ (ev aa rfl) ?p_27 rfl rfl rfl (by kernel_rfl) rfl ?h_27
  case' h_27 => skip
  refine' aQ (ev aa rfl) ?p_28 rfl rfl rfl (by kernel_rfl) rfl ?h_28
  case' h_28 => skip
  refine' aQ (build aa rfl rfl rfl rfl) ?p_29 rfl rfl rfl (by kernel_rfl) rfl ?h_29
  case' h_29 => skip
  refine' aQ (ev aa rfl) ?p_30 rfl rfl rfl (by kernel_rfl) rfl ?h_30
  case' h_30 => skip
  refine' aQ (ev aa rfl) ?p_31 rfl rfl rfl (by kernel_rfl) rfl ?h_31
  case' h_31 => skip
  refine' aQ (ev aa rfl) ?p_32 rfl rfl rfl (by kernel_rfl) rfl ?h_32
  case' h_32 => skip
  refine' aQ (build aa rfl rfl rfl rfl) ?p_33 rfl rfl rfl (by kernel_rfl) rfl ?h_33
  case' h_33 => skip
  refine' aQ (aC aa rfl rfl rfl rfl rfl rfl rfl rfl rfl) ?p_34 rfl rfl rfl (by kernel_rfl) rfl ?h_34
  case' h_34 => skip
  refine' kC ?x_35 rfl rfl rfl (by kernel_rfl) (fun h => (ae h (by kernel_rfl)).elim) rfl ?h_35
  case x_35 =>
   intro b hb g; cases b
   · exact (ae hb (by kernel_rfl)).elim
   refine fa (fn := aH.c) (l := q.key) (l2 := [⟨2, q.fr, B #[]⟩, ⟨2, q.to, B #[]⟩]) aa rfl rfl rfl rfl rfl rfl rfl rfl rfl rfl (fun _ => rfl) (by show (q.key.length + 2) * 32 ≤ _; omega) ?_
   refine WO.nil ?_
   refine' iv rfl ?_ ?_ ?_ ?_
   all_goals try exact rfl
  case' h_35 => skip
  case p_21 => refine ⟨fun ha => (ae ha (by kernel_rfl)).elim, ?_, fun ha => (ae ha (by kernel_rfl)).elim, ?_, fun ha => (ae ha (by kernel_rfl)).elim, ?_⟩ <;> intro ha <;> first | exact ⟨ev aa rfl, fun h => nomatch h⟩ | exact (ae ha (by kernel_rfl)).elim
  case p_22 => refine ⟨fun ha => (ae ha (by kernel_rfl)).elim, ?_, fun ha => (ae ha (by kernel_rfl)).elim, ?_, fun ha => (ae ha (by kernel_rfl)).elim, ?_⟩ <;> intro ha <;> first | exact ⟨ev aa rfl, fun h => nomatch h⟩ | exact ⟨ct aa rfl rfl rfl rfl, fun h => nomatch h⟩ | exact ⟨cw aa rfl rfl rfl rfl rfl, fun h => nomatch h⟩ | exact (ae ha (by kernel_rfl)).elim
  case p_23 => refine ⟨fun ha => (ae ha (by kernel_rfl)).elim, ?_, fun ha => (ae ha (by kernel_rfl)).elim, ?_, fun ha => (ae ha (by kernel_rfl)).elim, ?_⟩ <;> intro ha <;> first | exact ⟨ev aa rfl, fun h => nomatch h⟩ | exact (ae ha (by kernel_rfl)).elim
  case p_24 => refine ⟨fun ha => (ae ha (by kernel_rfl)).elim, ?_, fun ha => (ae ha (by kernel_rfl)).elim, ?_, fun ha => (ae ha (by kernel_rfl)).elim, ?_⟩ <;> intro ha <;> first | exact ⟨ev aa rfl, fun h => nomatch h⟩ | exact ⟨ct aa rfl rfl rfl rfl, fun h => nomatch h⟩ | exact ⟨cw aa rfl rfl rfl rfl rfl, fun h => nomatch h⟩ | exact (ae ha (by kernel_rfl)).elim
  case p_26 => refine ⟨fun ha => (ae ha (by kernel_rfl)).elim, ?_, fun ha => (ae ha (by kernel_rfl)).elim, ?_, fun ha => (ae ha (by kernel_rfl)).elim, ?_⟩ <;> intro ha <;> first | exact ⟨ev aa rfl, fun h => nomatch h⟩ | exact (ae ha (by kernel_rfl)).elim
  case p_27 => refine ⟨fun ha => (ae ha (by kernel_rfl)).elim, ?_, fun ha => (ae ha (by kernel_rfl)).elim, ?_, fun ha => (ae ha (by kernel_rfl)).elim, ?_⟩ <;> intro ha <;> first | exact ⟨ev aa rfl, fun h => nomatch h⟩ | exact (ae ha (by kernel_rfl)).elim
  case p_28 => refine ⟨fun ha => (ae ha (by kernel_rfl)).elim, ?_, fun ha => (ae ha (by kernel_rfl)).elim, ?_, fun ha => (ae ha (by kernel_rfl)).elim, ?_⟩ <;> intro ha <;> first | exact ⟨ev aa rfl, fun h => nomatch h⟩ | exact ⟨ct aa rfl rfl rfl rfl, fun h => nomatch h⟩ | exact ⟨cw aa rfl rfl rfl rfl rfl, fun h => nomatch h⟩ | exact (ae ha (by kernel_rfl)).elim
  case p_29 => refine ⟨fun ha => (ae ha (by kernel_rfl)).elim, ?_, fun ha => (ae ha (by kernel_rfl)).elim, ?_, fun ha => (ae ha (by kernel_rfl)).elim, ?_⟩ <;> intro ha <;> first | exact ⟨build aa rfl rfl rfl rfl, fun h => nomatch h⟩ | exact (ae ha (by kernel_rfl)).elim
  case p_30 => refine ⟨fun ha => (ae ha (by kernel_rfl)).elim, ?_, fun ha => (ae ha (by kernel_rfl)).elim, ?_, fun ha => (ae ha (by kernel_rfl)).elim, ?_⟩ <;> intro ha <;> first | exact ⟨ev aa rfl, fun h => nomatch h⟩ | exact (ae ha (by kernel_rfl)).elim
  case p_31 => refine ⟨fun ha => (ae ha (by kernel_rfl)).elim, ?_, fun ha => (ae ha (by kernel_rfl)).elim, ?_, fun ha => (ae ha (by kernel_rfl)).elim, ?_⟩ <;> intro ha <;> first | exact ⟨ev aa rfl, fun h => nomatch h⟩ | exact (ae ha (by kernel_rfl)).elim
  case p_32 => refine ⟨fun ha => (ae ha (by kernel_rfl)).elim, ?_, fun ha => (ae ha (by kernel_rfl)).elim, ?_, fun ha => (ae ha (by kernel_rfl)).elim, ?_⟩ <;> intro ha <;> first | exact ⟨ev aa rfl, fun h => nomatch h⟩ | exact ⟨ct aa rfl rfl rfl rfl, fun h => nomatch h⟩ | exact ⟨cw aa rfl rfl rfl rfl rfl, fun h => nomatch h⟩ | exact (ae ha (by kernel_rfl)).elim
  case p_33 => refine ⟨fun ha => (ae ha (by kernel_rfl)).elim, ?_, fun ha => (ae ha (by kernel_rfl)).elim, ?_, fun ha => (ae ha (by kernel_rfl)).elim, ?_⟩ <;> intro ha <;> first | exact ⟨build aa rfl rfl rfl rfl, fun h => nomatch h⟩ | exact (ae ha (by kernel_rfl)).elim
  case p_34 => refine ⟨fun ha => (ae ha (by kernel_rfl)).elim, ?_, fun ha => (ae ha (by kernel_rfl)).elim, ?_, fun ha => (ae ha (by kernel_rfl)).elim, ?_⟩ <;> intro ha <;> first | exact ⟨aC aa rfl rfl rfl rfl rfl rfl rfl rfl rfl, fun h => nomatch h⟩ | exact (ae ha (by kernel_rfl)).elim
  refine' aQ (aC aa rfl rfl rfl rfl rfl rfl rfl rfl rfl) ?p_36 rfl rfl rfl (by kernel_rfl) rfl ?h_36
  case' h_36 => skip
  case p_36 => refine ⟨fun ha => (ae ha (by kernel_rfl)).elim, ?_, fun ha => (ae ha (by kernel_rfl)).elim, ?_, fun ha => (ae ha (by kernel_rfl)).elim, ?_⟩ <;> intro ha <;> first | exact ⟨aC aa rfl rfl rfl rfl rfl rfl rfl rfl rfl, fun h => nomatch h⟩ | exact (ae ha (by kernel_rfl)).elim
  refine CD.nil ?_ rfl
  refine ca (fn := rc) (a := iW q) aa rfl rfl rfl rfl rfl rfl rfl rfl rfl rfl (fun _ => rfl) (by show (rows.length + 1) * 24 ≤ _; omega) ?_
  refine pE rfl (aM aa rfl rfl rfl rfl rfl rfl rfl rfl (WO.nil (aZ (qs (W.region ?_)))))
  iterate 2 refine pE rfl ?_
  refine WO.nil (W.aW [0, 1, 6] ⟨(k + 1, rows ++ [iW q]), ?_⟩ ?_ rfl ?_ ⟨rfl, rfl, rfl, rfl, trivial⟩ ?_ trivial rfl)
  · exact ⟨hlt, by rw [hW, List.take_add_one, hx]; simp⟩
  · dsimp only; omega
  · repeat' first | exact trivial | refine ⟨rfl, ?_⟩ | refine ⟨aE (by assumption) (by assumption), ?_⟩
  repeat' first | exact trivial | refine ⟨rfl, ?_⟩
 have hg : bX a on = (⟨CT0.1, rows⟩, 0) := by
  rw [hgo, hW, ← hR, List.take_of_length_le (by have := congrArg List.length hd; simp at this; omega)]
 refine W.exit (aK (aP (aL (qs (W.seq (W.region (pE rfl (aM aa rfl rfl rfl rfl rfl rfl rfl rfl (pE rfl (WO.nil (qs ?_)))))))))))
 try refine cf 1 0 rfl rfl rfl ?_
 try refine cf 1 1 rfl rfl rfl ?_
 refine W.ret (QV.aq aa trivial rfl ?_)
 (rw [hg]; rfl)
theorem qg (a : bo) (on : List ByteArray) (hon : on.length ≤ 400) : aw Try.prog 12 [.ag a.c, .d (.sl (on.map sc))]
  (.tup [.ag (bX a on).1.c, .d (.v (.int .i64 (bX a on).2))]) 0 := by
 rcases Nat.eq_zero_or_pos (pieces (jS a on) (b7 a.cols aN) (b7 a.cols bM) a.rows).length with h | h
 · exact qb a on hon (List.length_eq_zero_iff.1 h)
 exact pD a on hon h
end Go.Proofs.Ytjenenllmjlimaa
namespace Go.Proofs.Ytjenenllmjlimaa
open Go.Ab Go.Tb
set_option maxRecDepth 10000
attribute [local irreducible] W WO Pu QS QB QL QF QV bD CH QE
theorem bY (n : Int) : aw Try.prog 20 [.d (.v (.int .i64 n))] (.ag (cB n).c) 0 := by
 refine aw.eP aa (n := 5) (rs := [.cell 2 38]) Try.func20 (by kernel_rfl) rfl Try.ntmps20 Try.results20 rfl fun C hC hG => ?_
 refine W.seq (W.region (aX aa rfl rfl rfl (WO.nil (qs (W.seq (W.region (pE rfl (pu (build aa rfl rfl rfl rfl) rfl ?_))))))))
 refine aM aa rfl rfl rfl rfl rfl rfl rfl rfl (WO.nil (qs (W.ret (QV.aq aa trivial rfl ?_))))
 rfl
theorem iN (s : ByteArray) : aw Try.prog 19 [.d (.v (.string s))] (.ag (lN s).c) 0 := by
 refine aw.eP aa (n := 5) (rs := [.cell 2 38]) Try.func19 (by kernel_rfl) rfl Try.ntmps19 Try.results19 rfl fun C hC hG => ?_
 refine W.seq (W.region (aX aa rfl rfl rfl (WO.nil (qs (W.seq (W.region (pE rfl (pu (build aa rfl rfl rfl rfl) rfl ?_))))))))
 refine aM aa rfl rfl rfl rfl rfl rfl rfl rfl (WO.nil (qs (W.ret (QV.aq aa trivial rfl ?_))))
 rfl
theorem dy (l : List Int) (h : l.length ≤ 100000) : aw Try.prog 21 [.d (.sl (l.map ic))] (.d (.sl ((l.map cB).map aH.c))) 0 := by
 have hlm : l.length ≤ maxLen := by simp only [maxLen]; omega
 refine aw.aY (n := 20) (ts := [2]) Try.func21 (by kernel_rfl) rfl Try.ntmps21 Try.results21 rfl rfl fun C hC hG => ?_
 refine W.seq (W.region (pE rfl (WO.nil (qs (W.seq (W.region (pE rfl (WO.nil (qs ?_)))))))))
 iterate 2 refine W.seq ?_
 refine W.region (pE rfl (WO.nil (qs (W.block (aS (d := 3) rfl rfl ?_)))))
 refine W.aU (ι := {x : Nat × List aH // match x with | (k, out) => k ≤ l.length ∧ out = (l.take k).map cB})
  (fun x => match x.1 with | (k, out) => [(3, .own 0 (out.map aH.c)), (4, .d (.v (.int .i64 ((k : Nat) : Int))))]) [(0, _)]
  (fun x => match x.1 with | (k, out) => []) [] [0] 1 (fun x => match x.1 with | (k, out) => l.length - k)
  [0] ⟨(0, []), ?_⟩ rfl ?_ ⟨rfl, rfl, trivial⟩ ?_ trivial rfl ?_
 · exact ⟨Nat.zero_le _, rfl⟩
 · repeat' first | exact trivial | refine ⟨rfl, ?_⟩
 · repeat' exact trivial
 rintro ⟨⟨k, out⟩, hk, hI⟩
 show W _ _ _ _ _ ⟨[(3, .own 0 (out.map aH.c)), (4, .d (.v (.int .i64 ((k : Nat) : Int)))), (0, _)], [], [0], 1⟩
 iterate 2 refine W.seq ?_
 refine W.region ?_
 iterate 4 refine pE rfl ?_
 refine WO.nil (qs (bb (l := l) (k := k) rfl (by simp [Ex.aA, aI]) hk (fun s hx hd hlt => ?_) (fun he hd => ?_)))
 ·
  have hol : out.length ≤ k := by rw [hI]; simp; omega
  refine W.skip (qs (W.seq (W.block (W.region ?_))))
  iterate 3 refine pE rfl ?_
  refine pu (indexAddr aa rfl rfl rfl rfl rfl rfl (Int.natCast_nonneg _) (aF (by assumption)) rfl) rfl ?_
  refine pE rfl (pu (ab rfl rfl rfl ((bY _)) rfl) rfl ?_)
  refine pu (aC aa rfl rfl rfl rfl rfl rfl rfl rfl rfl) rfl ?_
  refine ca (fn := aH.c) (a := cB s) aa rfl rfl rfl rfl rfl rfl rfl rfl rfl rfl (fun _ => rfl) (by show (out.length + 1) * 32 ≤ _; omega) ?_
  refine pE rfl (WO.nil (aZ (qs (W.region ?_))))
  iterate 3 refine pE rfl ?_
  refine WO.nil (W.aW [1] ⟨(k + 1, out ++ [cB s]), ?_⟩ ?_ rfl ?_ ⟨rfl, rfl, trivial⟩ ?_ trivial rfl)
  · exact ⟨hlt, by rw [hI, List.take_add_one, hx]; simp⟩
  · dsimp only; omega
  · repeat' first | exact trivial | refine ⟨rfl, ?_⟩ | refine ⟨aE (by assumption) (by assumption), ?_⟩
  repeat' exact trivial
 have hfin : out = l.map cB := by rw [hI, List.take_of_length_le (by have := congrArg List.length hd; simp at this; omega)]
 refine W.exit (aK (aP (aL (qs (W.seq (W.region ?_))))))
 iterate 2 refine pE rfl ?_
 refine WO.nil (qs (W.ret (QF.aq trivial rfl ?_)))
 simp only [norm, ay]; rw [hfin]; rfl
theorem iS (l : List ByteArray) (h : l.length ≤ 100000) : aw Try.prog 18 [.d (.sl (l.map sc))] (.d (.sl ((l.map eD).map Col.c))) 0 := by
 have hlm : l.length ≤ maxLen := by simp only [maxLen]; omega
 refine aw.aY (n := 28) (ts := [2]) Try.func18 (by kernel_rfl) rfl Try.ntmps18 Try.results18 rfl rfl fun C hC hG => ?_
 refine W.seq (W.region (pE rfl (WO.nil (qs (W.seq (W.region (pE rfl (WO.nil (qs ?_)))))))))
 iterate 2 refine W.seq ?_
 refine W.region (pE rfl (WO.nil (qs (W.block (aS (d := 3) rfl rfl ?_)))))
 refine W.aU (ι := {x : Nat × List Col // match x with | (k, out) => k ≤ l.length ∧ out = (l.take k).map eD})
  (fun x => match x.1 with | (k, out) => [(3, .own 0 (out.map Col.c)), (4, .d (.v (.int .i64 ((k : Nat) : Int))))]) [(0, _)]
  (fun x => match x.1 with | (k, out) => []) [] [0] 1 (fun x => match x.1 with | (k, out) => l.length - k)
  [0] ⟨(0, []), ?_⟩ rfl ?_ ⟨rfl, rfl, trivial⟩ ?_ trivial rfl ?_
 · exact ⟨Nat.zero_le _, rfl⟩
 · repeat' first | exact trivial | refine ⟨rfl, ?_⟩
 · repeat' exact trivial
 rintro ⟨⟨k, out⟩, hk, hI⟩
 show W _ _ _ _ _ ⟨[(3, .own 0 (out.map Col.c)), (4, .d (.v (.int .i64 ((k : Nat) : Int)))), (0, _)], [], [0], 1⟩
 iterate 2 refine W.seq ?_
 refine W.region ?_
 iterate 4 refine pE rfl ?_
 refine WO.nil (qs (bb (l := l) (k := k) rfl (by simp [Ex.aA, aI]) hk (fun s hx hd hlt => ?_) (fun he hd => ?_)))
 ·
  have hol : out.length ≤ k := by rw [hI]; simp; omega
  refine W.skip (qs (W.seq (W.block (W.seq (W.region ?_)))))
  iterate 2 refine pE rfl ?_
  refine pu (indexAddr aa rfl rfl rfl rfl rfl rfl (Int.natCast_nonneg _) (aF (by assumption)) rfl) rfl ?_
  refine pE rfl (pu (build aa rfl rfl rfl rfl) rfl ?_)
  refine aX aa rfl rfl rfl (aM aa rfl rfl rfl rfl rfl rfl rfl rfl (WO.nil (qs ?_)))
  iterate 2 refine W.seq ?_
  refine W.region ?_
  iterate 2 refine pE rfl ?_
  refine pu (indexAddr aa rfl rfl rfl rfl rfl rfl (Int.natCast_nonneg _) (aF (by assumption)) rfl) rfl ?_
  refine pE rfl (pE rfl (WO.nil (qs (an rfl (fun h21 => ?_) (fun h21 => ?_)))))
  ·
   have hs : s = B #[107] := by simpa using h21
   have hlc : eD s = ⟨s, 3⟩ := by unfold eD; rw [if_pos hs]
   refine W.region (pE rfl (aM aa rfl rfl rfl rfl rfl rfl rfl rfl (WO.nil (qs (W.region (pE rfl (pE rfl (pu (aC aa rfl rfl rfl rfl rfl rfl rfl rfl rfl) rfl ?_))))))))
   refine ca (fn := Col.c) (a := eD s) aa rfl rfl (by rw [hlc]; rfl) rfl rfl rfl rfl rfl rfl rfl (fun _ => rfl) (by show (out.length + 1) * 24 ≤ _; omega) ?_
   refine pE rfl (WO.nil (aZ (qs (W.region ?_))))
   iterate 3 refine pE rfl ?_
   refine WO.nil (W.aW [2] ⟨(k + 1, out ++ [eD s]), ?_⟩ ?_ rfl ?_ ⟨rfl, rfl, trivial⟩ ?_ trivial rfl)
   · exact ⟨hlt, by rw [hI, List.take_add_one, hx]; simp⟩
   · dsimp only; omega
   · repeat' first | exact trivial | refine ⟨rfl, ?_⟩ | refine ⟨aE (by assumption) (by assumption), ?_⟩
   repeat' exact trivial
  have hs : ¬ s = B #[107] := by simpa using h21
  have hlc : eD s = ⟨s, 2⟩ := by unfold eD; rw [if_neg hs]
  refine W.skip (qs (W.region (pE rfl (pE rfl (pu (aC aa rfl rfl rfl rfl rfl rfl rfl rfl rfl) rfl ?_)))))
  refine ca (fn := Col.c) (a := eD s) aa rfl rfl (by rw [hlc]; rfl) rfl rfl rfl rfl rfl rfl rfl (fun _ => rfl) (by show (out.length + 1) * 24 ≤ _; omega) ?_
  refine pE rfl (WO.nil (aZ (qs (W.region ?_))))
  iterate 3 refine pE rfl ?_
  refine WO.nil (W.aW [2] ⟨(k + 1, out ++ [eD s]), ?_⟩ ?_ rfl ?_ ⟨rfl, rfl, trivial⟩ ?_ trivial rfl)
  · exact ⟨hlt, by rw [hI, List.take_add_one, hx]; simp⟩
  · dsimp only; omega
  · repeat' first | exact trivial | refine ⟨rfl, ?_⟩ | refine ⟨aE (by assumption) (by assumption), ?_⟩
  repeat' exact trivial
 have hfin : out = l.map eD := by rw [hI, List.take_of_length_le (by have := congrArg List.length hd; simp at this; omega)]
 refine W.exit (aK (aP (aL (qs (W.seq (W.region ?_))))))
 iterate 2 refine pE rfl ?_
 refine WO.nil (qs (W.ret (QF.aq trivial rfl ?_)))
 simp only [norm, ay]; rw [hfin]; rfl
theorem rY (a b : List aH) : aw Try.prog 50 [.d (.sl (a.map aH.c)), .d (.sl (b.map aH.c))] (.d (.v (.bool (decide (a = b))))) 0 := by
 refine aw.aY (n := 26) (ts := [4]) Try.func50 (by kernel_rfl) rfl Try.ntmps50 Try.results50 rfl rfl fun C hC hG => ?_
 refine W.seq (W.region (pE rfl (WO.nil (qs ?_))))
 iterate 2 refine W.seq ?_
 refine W.region ?_
 iterate 5 refine pE rfl ?_
 refine WO.nil (qs (an rfl (fun h10 => ?_) (fun h10 => ?_)))
 ·
  have hg : decide (a = b) = false := decide_eq_false (by rintro rfl; simp at h10)
  refine W.seq (W.region (pE rfl (WO.nil (qs (W.ret (ah (QF.aq trivial rfl ?_)))))))
  rw [hg]; rfl
 have hl2 : a.length = b.length := by simp at h10; omega
 refine W.skip (qs ?_)
 iterate 2 refine W.seq ?_
 refine W.region (pE rfl (WO.nil (qs (W.block (W.len (t := 0) rfl rfl (fun hlen => ?_))))))
 try simp only [List.length_map, Ex.aA] at hlen
 refine W.aU (ι := {x : Nat // match x with | k => k ≤ a.length ∧ (a.drop k = b.drop k ↔ a = b)})
  (fun x => match x.1 with | k => [(5, .d (.v (.int .i64 ((k : Nat) : Int))))]) [(0, _), (1, _)]
  (fun x => match x.1 with | k => []) [] [] 0 (fun x => match x.1 with | k => a.length - k)
  [] ⟨0, ?_⟩ rfl ?_ ⟨rfl, rfl, rfl, rfl, trivial⟩ ?_ trivial rfl ?_
 · exact ⟨Nat.zero_le _, by simp⟩
 · repeat' first | exact trivial | refine ⟨rfl, ?_⟩
 · repeat' exact trivial
 rintro ⟨k, hk, hI⟩
 show W _ _ _ _ _ ⟨[(5, .d (.v (.int .i64 ((k : Nat) : Int)))), (0, _), (1, _)], [], [], 0⟩
 iterate 2 refine W.seq ?_
 refine W.region ?_
 iterate 4 refine pE rfl ?_
 refine WO.nil (qs (bb (l := a) (k := k) rfl (by simp [Ex.aA, aI]) hk (fun x hx hd hlt => ?_) (fun he hd => ?_)))
 ·
  obtain ⟨y, hy⟩ : ∃ y, b[k]? = some y := ⟨b[k]'(by omega), by simp⟩
  have hd2 : b.drop k = y :: b.drop (k + 1) := by
   have hlt2 : k < b.length := by omega
   have := List.drop_eq_getElem_cons hlt2
   rw [this, (List.getElem?_eq_some_iff.1 hy).2]
  rw [hd, hd2] at hI
  refine W.skip (qs (W.seq (W.block (W.seq (W.bw aa (by kernel_rfl) ?_)))))
  iterate 2 refine ao (ev aa rfl) rfl ?_
  refine ao (indexAddr aa rfl rfl rfl rfl rfl rfl (Int.natCast_nonneg _) (aF hx) rfl) rfl ?_
  refine ao (ev aa rfl) rfl ?_
  iterate 2 refine ao (ev aa rfl) rfl ?_
  refine ao (indexAddr (l := y.c) aa rfl rfl rfl rfl rfl rfl (Int.natCast_nonneg _) (aF hy) rfl) rfl ?_
  refine ao (ev aa rfl) rfl ?_
  refine ao (ev aa rfl) rfl ?_
  refine CH.nil ?_
  refine qs (an rfl (fun h25 => ?_) (fun h25 => ?_))
  ·
   have hxy : x ≠ y := by rintro rfl; simp at h25
   have hg : decide (a = b) = false := decide_eq_false (fun q => by have := hI.2 q; simp at this; exact hxy this.1)
   refine W.seq (W.region (pE rfl (WO.nil (qs (W.ret (ar (ah (bh (ar (ah (QF.aq trivial rfl ?_)))))))))))
   rw [hg]; rfl
  have hxy : x = y := by
   have := jv (a := x) (b := y)
   exact of_decide_eq_true (by rw [← this]; simpa using h25)
  have hn : a.drop (k + 1) = b.drop (k + 1) ↔ a = b := by rw [← hI, hxy]; simp
  refine W.skip (aZ (qs (W.region ?_)))
  iterate 3 refine pE rfl ?_
  refine WO.nil (W.aW [] ⟨k + 1, ?_⟩ ?_ rfl ?_ ⟨rfl, rfl, rfl, rfl, trivial⟩ ?_ trivial rfl)
  · exact ⟨hlt, hn⟩
  · dsimp only; omega
  · repeat' first | exact trivial | refine ⟨aE (by assumption) (by assumption), ?_⟩
  repeat' exact trivial
 have hd2 : b.drop k = [] := List.drop_eq_nil_of_le (by have := congrArg List.length hd; simp at this; omega)
 rw [hd, hd2] at hI
 have hg : decide (a = b) = true := decide_eq_true (hI.1 rfl)
 refine W.exit (aK (aP (aL (qs (W.seq (W.region (pE rfl (WO.nil (qs (W.ret (QF.aq trivial rfl ?_)))))))))))
 rw [hg]; rfl
theorem ru (a b : List aH) : aw Try.prog 36 [.d (.sl (a.map aH.c)), .d (.sl (b.map aH.c))] (.d (.v (.bool (decide (a = b))))) 0 := by
 refine aw.aY (n := 8) (ts := [4]) Try.func36 (by kernel_rfl) rfl Try.ntmps36 Try.results36 rfl rfl fun C hC hG => ?_
 refine W.seq (W.region (pE rfl (WO.nil (qs (W.seq (W.region ?_))))))
 iterate 2 refine pE rfl ?_
 refine pu (ab rfl rfl rfl (rY a b) rfl) rfl ?_
 refine pE rfl (WO.nil (qs (W.ret (QF.aq trivial rfl ?_))))
 rfl
theorem oH (t : bo) : aw Try.prog 17 [.ag t.c] (.d (.v (.bool (iT t)))) 0 := by
 refine aw.aY (n := 36) (ts := [2]) Try.func17 (by kernel_rfl) rfl Try.ntmps17 Try.results17 rfl rfl fun C hC hG => ?_
 refine W.seq (W.region (bJ rfl rfl rfl (pE rfl (WO.nil (qs (W.seq (W.region (pE rfl (pE rfl ?_)))))))))
 iterate 2 refine pE rfl ?_
 refine WO.nil (qs ?_)
 iterate 2 refine W.seq ?_
 refine W.region (pE rfl (WO.nil (qs (W.block (kN (g := 0) (j := 1) rfl rfl (fun hlen => ?_))))))
 rw [List.length_map] at hlen
 refine W.aU (ι := {x : Nat × Int // match x with | (k, n) => k ≤ t.rows.length ∧ jb (t.rows.drop k) n = jb t.rows (t.cols.length : Int)})
  (fun x => match x.1 with | (k, n) => [(1, .ptr 0 0), (3, .d (.v (.int .i64 (n)))), (4, .d (.v (.int .i64 ((k : Nat) : Int))))]) []
  (fun x => match x.1 with | (k, n) => [(0, t.c.map A.d)]) [] [] 1 (fun x => match x.1 with | (k, n) => t.rows.length - k)
  [0] ⟨(0, ((t.cols.map Col.c).length : Int)), ?_⟩ rfl ?_ trivial ?_ trivial rfl ?_
 · exact ⟨Nat.zero_le _, by rw [List.length_map]; rfl⟩
 · repeat' first | exact trivial | refine ⟨rfl, ?_⟩
 · repeat' first | exact trivial | refine ⟨rfl, ?_⟩
 rintro ⟨⟨k, n⟩, hk, hI⟩
 show W _ _ _ _ _ ⟨[(1, .ptr 0 0), (3, .d (.v (.int .i64 (n)))), (4, .d (.v (.int .i64 ((k : Nat) : Int))))], [(0, t.c.map A.d)], [], 1⟩
 iterate 2 refine W.seq ?_
 apply aG; (case hb => rfl)
 ·
  iterate 2 refine pE rfl ?_
  refine pE rfl ?_
  iterate 3 refine pE rfl ?_
  apply aD; (case hj => rfl); (case hl => rfl)
  ·
   refine ak rfl rfl (pE rfl (ak rfl rfl ?_))
   iterate 2 refine pE rfl ?_
   refine WO.nil (aB rfl rfl rfl)
  iterate 2 refine ax rfl rfl rfl rfl ?_
  refine pE rfl (WO.nil (aB rfl rfl rfl))
 refine qs (an rfl (fun h16 => ?_) (fun h16 => ?_))
 ·
  have hlt : k < t.rows.length := by
   revert h16
   by_cases q : (k : Int) < (t.rows.length : Int)
   · intro _; omega
   simp [q]
  have hn6 : n ≤ 600 := by
   revert h16
   by_cases q : n ≤ 600
   · intro _; exact q
   simp [q]
  obtain ⟨x, hx⟩ : ∃ x, t.rows[k]? = some x := ⟨t.rows[k], by simp [hlt]⟩
  have hd : t.rows.drop k = x :: t.rows.drop (k + 1) := by
   have := List.drop_eq_getElem_cons hlt
   rw [this, (List.getElem?_eq_some_iff.1 hx).2]
  rw [hd] at hI
  simp only [jb] at hI
  rw [if_pos hn6] at hI
  refine W.skip (qs (W.seq (W.block (W.region ?_))))
  iterate 3 refine pE rfl ?_
  refine pE rfl (pE rfl (pu (indexAddr aa rfl rfl rfl rfl rfl rfl (Int.natCast_nonneg _) (aF hx) rfl) rfl ?_))
  refine pE rfl ?_
  iterate 3 refine pE rfl ?_
  refine WO.nil (aZ (qs (W.region ?_)))
  iterate 3 refine pE rfl ?_
  refine WO.nil (W.aW [0] ⟨(k + 1, IntKind.i64.wrap (IntKind.i64.wrap (n + 1) + ((x.map aH.c).length : Int))), ?_⟩ ?_ rfl ?_ trivial ?_ trivial rfl)
  · exact ⟨hlt, by rw [List.length_map]; exact hI⟩
  · dsimp only; omega
  · repeat' first | exact trivial | refine ⟨rfl, ?_⟩ | refine ⟨aE (by assumption) (by assumption), ?_⟩
  repeat' first | exact trivial | refine ⟨rfl, ?_⟩
 have hfin : jb t.rows (t.cols.length : Int) = n := by
  rw [← hI]
  cases hdd : t.rows.drop k with
  | nil => rfl
  | cons x r =>
   have hlt : k < t.rows.length := by have := congrArg List.length hdd; simp at this; omega
   have q : (k : Int) < (t.rows.length : Int) := by omega
   have q2 : ¬ n ≤ 600 := by
    intro q2
    revert h16
    simp [q, q2]
   simp only [jb]
   rw [if_neg q2]
 refine W.exit (aK (aP (aL (qs (W.seq ?_)))))
 apply aG; (case hb => rfl)
 ·
  iterate 3 refine pE rfl ?_
  apply aD; (case hj => rfl); (case hl => rfl)
  ·
   refine ak rfl rfl (pE rfl (ak rfl rfl (pE rfl (ak rfl rfl (pE rfl (ak rfl rfl ?_))))))
   iterate 3 refine pE rfl ?_
   refine WO.nil (aB rfl rfl rfl)
  iterate 4 refine ax rfl rfl rfl rfl ?_
  iterate 2 refine pE rfl ?_
  refine WO.nil (aB rfl rfl rfl)
 refine qs (W.ret (QF.aq trivial rfl ?_))
 simp only [norm, ay]; unfold iT; rw [hfin]; first | rfl | (simp; done) | skip
end Go.Proofs.Ytjenenllmjlimaa
namespace Go.Proofs.Ytjenenllmjlimaa
open Go.Ab Go.Tb
set_option maxRecDepth 10000
attribute [local irreducible] W WO Pu QS QB QL QF QV bD CH QE
theorem ub (a b : bo) (on : List ByteArray) : aw Try.prog 6 [.ag a.c, .ag b.c, .d (.sl (on.map sc))] (.d (.v (.bool (ng a b on)))) 0 := by
 refine aw.aY (n := 18) (ts := [6]) Try.func6 (by kernel_rfl) rfl Try.ntmps6 Try.results6 rfl rfl fun C hC hG => ?_
 refine W.seq (W.region (bJ rfl rfl rfl (bJ rfl rfl rfl (pE rfl (WO.nil (qs (W.seq ?_)))))))
 apply aG; (case hb => rfl)
 ·
  refine pE rfl (pu (ab rfl rfl rfl (oH a) rfl) rfl ?_)
  refine pE rfl ?_
  apply aD; (case hj => rfl); (case hl => rfl)
  ·
   refine ak rfl rfl (pE rfl (ak rfl rfl (pu (ab rfl rfl rfl (oH b) rfl) rfl ?_)))
   iterate 2 refine pE rfl ?_
   apply aD; (case hj => rfl); (case hl => rfl)
   ·
    refine ak rfl rfl (pE rfl (ak rfl rfl (pE rfl (ak rfl rfl ?_))))
    iterate 3 refine pE rfl ?_
    refine WO.nil (aB rfl rfl rfl)
   iterate 3 refine ax rfl rfl rfl rfl ?_
   iterate 2 refine pE rfl ?_
   refine WO.nil (aB rfl rfl rfl)
  iterate 2 refine ax rfl rfl rfl rfl ?_
  iterate 2 refine pE rfl ?_
  iterate 3 refine ax rfl rfl rfl rfl ?_
  iterate 2 refine pE rfl ?_
  refine WO.nil (aB rfl rfl rfl)
 refine qs (W.ret (QF.aq trivial rfl ?_))
 simp only [norm, ay]; unfold ng; rw [List.length_map]; cases iT a <;> cases iT b <;> rfl
theorem sD {a b : Col} : (decide (a.name = b.name) && decide (a.type = b.type)) = decide (a = b) := by
 obtain ⟨x, y⟩ := a
 obtain ⟨x', y'⟩ := b
 simp only [Col.mk.injEq]
 by_cases h1 : x = x' <;> by_cases h2 : y = y' <;> simp [h1, h2]
theorem tf (a b : bo) : aw Try.prog 13 [.ag a.c, .ag b.c] (.d (.v (.bool (decide (a = b))))) 0 := by
 refine aw.aY (n := 60) (ts := [4]) Try.func13 (by kernel_rfl) rfl Try.ntmps13 Try.results13 rfl rfl fun C hC hG => ?_
 refine W.seq (W.region (bJ rfl rfl rfl (bJ rfl rfl rfl (pE rfl (WO.nil (qs ?_))))))
 iterate 2 refine W.seq ?_
 apply aG; (case hb => rfl)
 ·
  refine pE rfl (pE rfl ?_)
  iterate 2 refine pE rfl ?_
  refine pE rfl ?_
  iterate 3 refine pE rfl ?_
  apply aD; (case hj => rfl); (case hl => rfl)
  ·
   iterate 7 refine ax rfl rfl rfl rfl ?_
   refine pE rfl (WO.nil (aB rfl rfl rfl))
  refine ak rfl rfl (pE rfl (ak rfl rfl (pE rfl (ak rfl rfl (pE rfl (ak rfl rfl (pE rfl (ak rfl rfl (pE rfl (ak rfl rfl (pE rfl (ak rfl rfl ?_))))))))))))
  iterate 2 refine pE rfl ?_
  refine WO.nil (aB rfl rfl rfl)
 refine qs (an rfl (fun h22 => ?_) (fun h22 => ?_))
 ·
  have hg : decide (a = b) = false := decide_eq_false (by rintro rfl; simp at h22)
  refine W.seq (W.region (pE rfl (WO.nil (qs (W.ret (ah (QF.aq trivial rfl ?_)))))))
  rw [hg]; rfl
 have hl2 : a.cols.length = b.cols.length ∧ a.rows.length = b.rows.length := by
  revert h22
  by_cases q : (a.cols.length : Int) = (b.cols.length : Int)
  ·
   simp only [List.length_map, q, decide_true, Bool.not_true, cond_false]
   intro h
   simp at h
   omega
  simp [q]
 refine W.skip (qs ?_)
 iterate 2 refine W.seq ?_
 refine W.region (pE rfl (WO.nil (qs (W.block (kN (g := 0) (j := 0) rfl rfl (fun hlen0 => ?_))))))
 rw [List.length_map] at hlen0
 refine kN (g := 0) (j := 1) rfl rfl (fun hlen1 => ?_)
 rw [List.length_map] at hlen1
 refine W.aU (ι := {x : Nat // match x with | k => k ≤ a.cols.length ∧ (a.cols.drop k = b.cols.drop k ↔ a.cols = b.cols)})
  (fun x => match x.1 with | k => [(2, .ptr 0 0), (3, .ptr 1 0), (5, .d (.v (.int .i64 ((k : Nat) : Int))))]) []
  (fun x => match x.1 with | k => [(0, a.c.map A.d), (1, b.c.map A.d)]) [] [] 2 (fun x => match x.1 with | k => a.cols.length - k)
  [0, 1] ⟨0, ?_⟩ rfl ?_ trivial ?_ trivial rfl ?_
 · exact ⟨Nat.zero_le _, by simp⟩
 · repeat' first | exact trivial | refine ⟨rfl, ?_⟩
 · repeat' first | exact trivial | refine ⟨rfl, ?_⟩
 rintro ⟨k, hk, hI⟩
 show W _ _ _ _ _ ⟨[(2, .ptr 0 0), (3, .ptr 1 0), (5, .d (.v (.int .i64 ((k : Nat) : Int))))], [(0, a.c.map A.d), (1, b.c.map A.d)], [], 2⟩
 iterate 2 refine W.seq ?_
 refine W.region ?_
 iterate 2 refine pE rfl ?_
 refine pE rfl ?_
 iterate 2 refine pE rfl ?_
 refine WO.nil (qs (bb (l := a.cols) (k := k) rfl (by simp [Ex.aA, aI]) hk (fun x hx hd hlt => ?_) (fun he hd => ?_)))
 ·
  obtain ⟨y, hy⟩ : ∃ y, b.cols[k]? = some y := ⟨b.cols[k]'(by omega), by simp⟩
  have hd2 : b.cols.drop k = y :: b.cols.drop (k + 1) := by
   have hlt2 : k < b.cols.length := by omega
   have := List.drop_eq_getElem_cons hlt2
   rw [this, (List.getElem?_eq_some_iff.1 hy).2]
  rw [hd, hd2] at hI
  refine W.skip (qs (W.seq (W.block (W.seq (W.bw aa (by kernel_rfl) ?_)))))
  refine ao (ev aa rfl) rfl ?_
  refine ao (ev aa rfl) rfl ?_
  refine ao (ev aa rfl) rfl ?_
  refine ao (indexAddr aa rfl rfl rfl rfl rfl rfl (Int.natCast_nonneg _) (aF hx) rfl) rfl ?_
  refine ao (ev aa rfl) rfl ?_
  refine ao (ev aa rfl) rfl ?_
  refine ao (ev aa rfl) rfl ?_
  refine ao (ev aa rfl) rfl ?_
  refine ao (indexAddr (l := y.c) aa rfl rfl rfl rfl rfl rfl (Int.natCast_nonneg _) (aF hy) rfl) rfl ?_
  refine ao (ev aa rfl) rfl ?_
  refine ao (ev aa rfl) rfl ?_
  refine CH.nil ?_
  refine qs (an rfl (fun h40 => ?_) (fun h40 => ?_))
  ·
   have hxy : x ≠ y := by rintro rfl; simp at h40
   have hg : decide (a = b) = false := decide_eq_false (fun q => by have := hI.2 (by rw [q]); simp at this; exact hxy this.1)
   refine W.seq (W.region (pE rfl (WO.nil (qs (W.ret (ar (ah (bh (ar (ah (QF.aq trivial rfl ?_)))))))))))
   rw [hg]; rfl
  have hxy : x = y := by
   have := sD (a := x) (b := y)
   exact of_decide_eq_true (by rw [← this]; simpa using h40)
  have hn : a.cols.drop (k + 1) = b.cols.drop (k + 1) ↔ a.cols = b.cols := by rw [← hI, hxy]; simp
  refine W.skip (aZ (qs (W.region ?_)))
  iterate 3 refine pE rfl ?_
  refine WO.nil (W.aW [0, 1] ⟨k + 1, ?_⟩ ?_ rfl ?_ trivial ?_ trivial rfl)
  · exact ⟨hlt, hn⟩
  · dsimp only; omega
  · repeat' first | exact trivial | refine ⟨rfl, ?_⟩ | refine ⟨aE (by assumption) (by assumption), ?_⟩
  repeat' first | exact trivial | refine ⟨rfl, ?_⟩
 have hd2 : b.cols.drop k = [] := List.drop_eq_nil_of_le (by have := congrArg List.length hd; simp at this; omega)
 rw [hd, hd2] at hI
 have hce : a.cols = b.cols := hI.1 rfl
 refine W.exit (aK (aP (aL (qs ?_))))
 iterate 2 refine W.seq ?_
 refine W.region (pE rfl (WO.nil (qs (W.block ?_))))
 refine W.aU (ι := {x : Nat // match x with | k => k ≤ a.rows.length ∧ (a.rows.drop k = b.rows.drop k ↔ a.rows = b.rows)})
  (fun x => match x.1 with | k => [(2, .ptr 0 0), (3, .ptr 1 0), (6, .d (.v (.int .i64 ((k : Nat) : Int))))]) []
  (fun x => match x.1 with | k => [(0, a.c.map A.d), (1, b.c.map A.d)]) [] [] 2 (fun x => match x.1 with | k => a.rows.length - k)
  [0, 1] ⟨0, ?_⟩ rfl ?_ trivial ?_ trivial rfl ?_
 · exact ⟨Nat.zero_le _, by simp⟩
 · repeat' first | exact trivial | refine ⟨rfl, ?_⟩
 · repeat' first | exact trivial | refine ⟨rfl, ?_⟩
 rintro ⟨k, hk, hR⟩
 show W _ _ _ _ _ ⟨[(2, .ptr 0 0), (3, .ptr 1 0), (6, .d (.v (.int .i64 ((k : Nat) : Int))))], [(0, a.c.map A.d), (1, b.c.map A.d)], [], 2⟩
 iterate 2 refine W.seq ?_
 refine W.region ?_
 iterate 2 refine pE rfl ?_
 refine pE rfl ?_
 iterate 2 refine pE rfl ?_
 refine WO.nil (qs (bb (l := a.rows) (k := k) rfl (by simp [Ex.aA, aI]) hk (fun x hx hd hlt => ?_) (fun he hd => ?_)))
 ·
  obtain ⟨y, hy⟩ : ∃ y, b.rows[k]? = some y := ⟨b.rows[k]'(by omega), by simp⟩
  have hd2 : b.rows.drop k = y :: b.rows.drop (k + 1) := by
   have hlt2 : k < b.rows.length := by omega
   have := List.drop_eq_getElem_cons hlt2
   rw [this, (List.getElem?_eq_some_iff.1 hy).2]
  rw [hd, hd2] at hR
  refine W.skip (qs (W.seq (W.block (W.seq (W.bw aa (by kernel_rfl) ?_)))))
  refine ao (ev aa rfl) rfl ?_
  refine ao (ev aa rfl) rfl ?_
  refine ao (ev aa rfl) rfl ?_
  refine ao (indexAddr aa rfl rfl rfl rfl rfl rfl (Int.natCast_nonneg _) (aF hx) rfl) rfl ?_
  refine ao (ev aa rfl) rfl ?_
  refine ao (ev aa rfl) rfl ?_
  refine ao (ev aa rfl) rfl ?_
  refine ao (ev aa rfl) rfl ?_
  refine ao (indexAddr (l := rc y) aa rfl rfl rfl rfl rfl rfl (Int.natCast_nonneg _) (aF hy) rfl) rfl ?_
  refine ao (ev aa rfl) rfl ?_
  refine ao (ab rfl rfl rfl (ru x y) rfl) rfl ?_
  refine ao (ev aa rfl) rfl ?_
  refine CH.nil ?_
  refine qs (an rfl (fun h59 => ?_) (fun h59 => ?_))
  ·
   have hxy : x ≠ y := by simpa using h59
   have hg : decide (a = b) = false := decide_eq_false (fun q => by have := hR.2 (by rw [q]); simp at this; exact hxy this.1)
   refine W.seq (W.region (pE rfl (WO.nil (qs (W.ret (ar (ah (bh (ar (ah (QF.aq trivial rfl ?_)))))))))))
   rw [hg]; rfl
  have hxy : x = y := by simpa using h59
  have hn : a.rows.drop (k + 1) = b.rows.drop (k + 1) ↔ a.rows = b.rows := by rw [← hR, hxy]; simp
  refine W.skip (aZ (qs (W.region ?_)))
  iterate 3 refine pE rfl ?_
  refine WO.nil (W.aW [0, 1] ⟨k + 1, ?_⟩ ?_ rfl ?_ trivial ?_ trivial rfl)
  · exact ⟨hlt, hn⟩
  · dsimp only; omega
  · repeat' first | exact trivial | refine ⟨rfl, ?_⟩ | refine ⟨aE (by assumption) (by assumption), ?_⟩
  repeat' first | exact trivial | refine ⟨rfl, ?_⟩
 have hd2 : b.rows.drop k = [] := List.drop_eq_nil_of_le (by have := congrArg List.length hd; simp at this; omega)
 rw [hd, hd2] at hR
 have hg : decide (a = b) = true := decide_eq_true (by cases a; cases b; simp only [bo.mk.injEq]; exact ⟨hce, hR.1 rfl⟩)
 refine W.exit (aK (aP (aL (qs (W.seq (W.region (pE rfl (WO.nil (qs (W.ret (QF.aq trivial rfl ?_)))))))))))
 rw [hg]; rfl
def wK : ByteArray := B #[107]
def wV : ByteArray := B #[118]
def tA : bo := ⟨[wK, aN, bM].map eD, [[lN (B #[120]), cB 0, cB 10], [lN (B #[121]), cB 0, cB 10]]⟩
def tB : bo := ⟨[wK, aN, bM, wV].map eD, [[lN (B #[120]), cB 5, cB 20, cB 1], [lN (B #[120]), cB 10, cB 12, cB 2]]⟩
def tW : bo := ⟨[wK, aN, bM, wV].map eD, [[lN (B #[120]), cB 5, cB 10, cB 1]]⟩
def tC : bo := ⟨[aN].map eD, [[7].map cB, [2].map cB]⟩
def tD : bo := ⟨[aN, wV].map eD, [[3, 1].map cB, [5, 2].map cB, [5, 3].map cB, [9, 4].map cB]⟩
def tN : bo := ⟨[aN, wV].map eD, [[7, 3].map cB, [cB 2, eV]]⟩
def tS : bo := ⟨[aN, bM].map eD, [[0, 3].map cB, [7, 9].map cB, [8, 8].map cB, [3, 5].map cB]⟩
def tU : bo := ⟨[aN, bM].map eD, [[0, 5].map cB, [7, 9].map cB]⟩
set_option maxRecDepth 100000 in
theorem wc : dS tA tB [wK] = (tW, 0) := by decide +kernel
set_option maxRecDepth 100000 in
theorem we : dS tA tB [] = (fb, 4) := by decide +kernel
set_option maxRecDepth 100000 in
theorem vW : cH tC tD [] = (tN, 0) := by decide +kernel
set_option maxRecDepth 100000 in
theorem vV : bX tS [] = (tU, 0) := by decide +kernel
end Go.Proofs.Ytjenenllmjlimaa
namespace Go.Proofs.Ytjenenllmjlimaa
open Go.Ab Go.Tb
set_option maxRecDepth 10000
attribute [local irreducible] W WO Pu QS QB QL QF QV bD CH QE
theorem lh : aw Try.prog 7 [] (.d (.v (.bool true))) 0 := by
 have hov1 : aw Try.prog 8 [.ag tA.c, .ag tB.c, .d (.sl ([wK].map sc))] (.tup [.ag tW.c, .d (.v (.int .i64 0))]) 0 := by have := nj tA tB [wK] (by decide); rw [wc] at this; exact this
 have hov2 : aw Try.prog 8 [.ag tA.c, .ag tB.c, .d (.sl (([] : List ByteArray).map sc))] (.tup [.ag fb.c, .d (.v (.int .i64 4))]) 0 := by have := nj tA tB [] (by decide); rw [we] at this; exact this
 have hne : aw Try.prog 11 [.ag tC.c, .ag tD.c, .d (.sl (([] : List ByteArray).map sc))] (.tup [.ag tN.c, .d (.v (.int .i64 0))]) 0 := by have := nJ tC tD [] (by decide); rw [vW] at this; exact this
 have hco : aw Try.prog 12 [.ag tS.c, .d (.sl (([] : List ByteArray).map sc))] (.tup [.ag tU.c, .d (.v (.int .i64 0))]) 0 := by have := qg tS [] (by decide); rw [vV] at this; exact this
 have hs : ∀ t : bo, aw Try.prog 13 [.ag t.c, .ag t.c] (.d (.v (.bool true))) 0 := fun t => by have := tf t t; rw [decide_eq_true (rfl : t = t)] at this; exact this
 refine aw.aY (n := 154) (ts := [0]) Try.func7 (by kernel_rfl) rfl Try.ntmps7 Try.results7 rfl rfl fun C hC hG => ?_
 refine W.seq (W.region (pE rfl (WO.nil (qs (W.seq (W.region (pu (aC aa rfl rfl rfl rfl rfl rfl rfl rfl rfl) rfl ?_)))))))
 refine pu (ab rfl rfl rfl (iS [wK, aN, bM] (by decide)) rfl) rfl ?_
 refine pu (ab rfl rfl rfl ((iN _)) rfl) rfl ?_
 refine pu (ab rfl rfl rfl ((bY _)) rfl) rfl ?_
 refine pu (ab rfl rfl rfl ((bY _)) rfl) rfl ?_
 refine pu (aC aa rfl rfl rfl rfl rfl rfl rfl rfl rfl) rfl ?_
 refine pu (ab rfl rfl rfl ((iN _)) rfl) rfl ?_
 refine pu (ab rfl rfl rfl ((bY _)) rfl) rfl ?_
 refine pu (ab rfl rfl rfl ((bY _)) rfl) rfl ?_
 refine pu (aC aa rfl rfl rfl rfl rfl rfl rfl rfl rfl) rfl ?_
 refine pu (aC aa rfl rfl rfl rfl rfl rfl rfl rfl rfl) rfl ?_
 refine pu (build aa rfl rfl rfl rfl) rfl ?_
 refine aX aa rfl rfl rfl (aM aa rfl rfl rfl rfl rfl rfl rfl rfl (WO.nil (qs (W.seq (W.region (pu (aC aa rfl rfl rfl rfl rfl rfl rfl rfl rfl) rfl ?_))))))
 refine pu (ab rfl rfl rfl (iS [wK, aN, bM, wV] (by decide)) rfl) rfl ?_
 refine pu (ab rfl rfl rfl ((iN _)) rfl) rfl ?_
 refine pu (ab rfl rfl rfl ((bY _)) rfl) rfl ?_
 refine pu (ab rfl rfl rfl ((bY _)) rfl) rfl ?_
 refine pu (ab rfl rfl rfl ((bY _)) rfl) rfl ?_
 refine pu (aC aa rfl rfl rfl rfl rfl rfl rfl rfl rfl) rfl ?_
 refine pu (ab rfl rfl rfl ((iN _)) rfl) rfl ?_
 refine pu (ab rfl rfl rfl ((bY _)) rfl) rfl ?_
 refine pu (ab rfl rfl rfl ((bY _)) rfl) rfl ?_
 refine pu (ab rfl rfl rfl ((bY _)) rfl) rfl ?_
 refine pu (aC aa rfl rfl rfl rfl rfl rfl rfl rfl rfl) rfl ?_
 refine pu (aC aa rfl rfl rfl rfl rfl rfl rfl rfl rfl) rfl ?_
 refine pu (build aa rfl rfl rfl rfl) rfl ?_
 refine aX aa rfl rfl rfl (aM aa rfl rfl rfl rfl rfl rfl rfl rfl (WO.nil (qs (W.seq (W.region (pE rfl (pE rfl (pu (aC aa rfl rfl rfl rfl rfl rfl rfl rfl rfl) rfl ?_))))))))
 refine pu (ab rfl rfl rfl hov1 rfl) rfl ?_
 iterate 3 refine pE rfl ?_
 refine aX aa rfl rfl rfl (aM aa rfl rfl rfl rfl rfl rfl rfl rfl (pE rfl (WO.nil (qs (W.seq (W.region (pE rfl (pE rfl (pu (nQ rfl rfl rfl hov2 rfl) rfl ?_)))))))))
 iterate 3 refine pE rfl ?_
 refine aX aa rfl rfl rfl (aM aa rfl rfl rfl rfl rfl rfl rfl rfl (pE rfl (WO.nil (qs (W.seq (W.jP aa 10 1 (by kernel_rfl) rfl rfl ?_))))))
 refine bF rfl (ev aa rfl) rfl ?_
 refine bF rfl (ev aa rfl) rfl ?_
 refine bF rfl (ab rfl rfl rfl ((iN _)) rfl) rfl ?_
 refine bF rfl (ab rfl rfl rfl ((bY _)) rfl) rfl ?_
 refine bF rfl (ab rfl rfl rfl ((bY _)) rfl) rfl ?_
 refine bF rfl (ab rfl rfl rfl ((bY _)) rfl) rfl ?_
 refine bF rfl (aC aa rfl rfl rfl rfl rfl rfl rfl rfl rfl) rfl ?_
 refine bF rfl (aC aa rfl rfl rfl rfl rfl rfl rfl rfl rfl) rfl ?_
 refine bF rfl (build aa rfl rfl rfl rfl) rfl ?_
 refine gS 0 rfl rfl rfl rfl rfl rfl ?_
 refine CE.nil ?_
 refine aM aa rfl rfl rfl rfl rfl rfl rfl rfl (WO.nil (qs (W.seq (W.region (pu (aC aa rfl rfl rfl rfl rfl rfl rfl rfl rfl) rfl ?_)))))
 refine pu (ab rfl rfl rfl (iS [aN] (by decide)) rfl) rfl ?_
 refine pu (aC aa rfl rfl rfl rfl rfl rfl rfl rfl rfl) rfl ?_
 refine pu (ab rfl rfl rfl (dy [7] (by decide)) rfl) rfl ?_
 refine pu (aC aa rfl rfl rfl rfl rfl rfl rfl rfl rfl) rfl ?_
 refine pu (ab rfl rfl rfl (dy [2] (by decide)) rfl) rfl ?_
 refine pu (aC aa rfl rfl rfl rfl rfl rfl rfl rfl rfl) rfl ?_
 refine pu (build aa rfl rfl rfl rfl) rfl ?_
 refine aX aa rfl rfl rfl (aM aa rfl rfl rfl rfl rfl rfl rfl rfl (WO.nil (qs (W.seq (W.region (pu (aC aa rfl rfl rfl rfl rfl rfl rfl rfl rfl) rfl ?_))))))
 refine pu (ab rfl rfl rfl (iS [aN, wV] (by decide)) rfl) rfl ?_
 refine pu (aC aa rfl rfl rfl rfl rfl rfl rfl rfl rfl) rfl ?_
 refine pu (ab rfl rfl rfl (dy [3, 1] (by decide)) rfl) rfl ?_
 refine pu (aC aa rfl rfl rfl rfl rfl rfl rfl rfl rfl) rfl ?_
 refine pu (ab rfl rfl rfl (dy [5, 2] (by decide)) rfl) rfl ?_
 refine pu (aC aa rfl rfl rfl rfl rfl rfl rfl rfl rfl) rfl ?_
 refine pu (ab rfl rfl rfl (dy [5, 3] (by decide)) rfl) rfl ?_
 refine pu (aC aa rfl rfl rfl rfl rfl rfl rfl rfl rfl) rfl ?_
 refine pu (ab rfl rfl rfl (dy [9, 4] (by decide)) rfl) rfl ?_
 refine pu (aC aa rfl rfl rfl rfl rfl rfl rfl rfl rfl) rfl ?_
 refine pu (build aa rfl rfl rfl rfl) rfl ?_
 refine aX aa rfl rfl rfl (aM aa rfl rfl rfl rfl rfl rfl rfl rfl (WO.nil (qs (W.seq (W.region (pE rfl (pE rfl (pu (nQ rfl rfl rfl hne rfl) rfl ?_))))))))
 iterate 3 refine pE rfl ?_
 refine aX aa rfl rfl rfl (aM aa rfl rfl rfl rfl rfl rfl rfl rfl (pE rfl (WO.nil (qs (W.seq (W.jP aa 10 1 (by kernel_rfl) rfl rfl ?_))))))
 refine bF rfl (ev aa rfl) rfl ?_
 refine bF rfl (ev aa rfl) rfl ?_
 refine bF rfl (aC aa rfl rfl rfl rfl rfl rfl rfl rfl rfl) rfl ?_
 refine bF rfl (ab rfl rfl rfl (dy [7, 3] (by decide)) rfl) rfl ?_
 refine bF rfl (ab rfl rfl rfl ((bY _)) rfl) rfl ?_
 refine bF rfl (build aa rfl rfl rfl rfl) rfl ?_
 refine bF rfl (aC aa rfl rfl rfl rfl rfl rfl rfl rfl rfl) rfl ?_
 refine bF rfl (aC aa rfl rfl rfl rfl rfl rfl rfl rfl rfl) rfl ?_
 refine bF rfl (build aa rfl rfl rfl rfl) rfl ?_
 refine gS 0 rfl rfl rfl rfl rfl rfl ?_
 refine CE.nil ?_
 refine aM aa rfl rfl rfl rfl rfl rfl rfl rfl (WO.nil (qs (W.seq (W.region (pu (aC aa rfl rfl rfl rfl rfl rfl rfl rfl rfl) rfl ?_)))))
 refine pu (ab rfl rfl rfl (iS [aN, bM] (by decide)) rfl) rfl ?_
 refine pu (aC aa rfl rfl rfl rfl rfl rfl rfl rfl rfl) rfl ?_
 refine pu (ab rfl rfl rfl (dy [0, 3] (by decide)) rfl) rfl ?_
 refine pu (aC aa rfl rfl rfl rfl rfl rfl rfl rfl rfl) rfl ?_
 refine pu (ab rfl rfl rfl (dy [7, 9] (by decide)) rfl) rfl ?_
 refine pu (aC aa rfl rfl rfl rfl rfl rfl rfl rfl rfl) rfl ?_
 refine pu (ab rfl rfl rfl (dy [8, 8] (by decide)) rfl) rfl ?_
 refine pu (aC aa rfl rfl rfl rfl rfl rfl rfl rfl rfl) rfl ?_
 refine pu (ab rfl rfl rfl (dy [3, 5] (by decide)) rfl) rfl ?_
 refine pu (aC aa rfl rfl rfl rfl rfl rfl rfl rfl rfl) rfl ?_
 refine pu (build aa rfl rfl rfl rfl) rfl ?_
 refine aX aa rfl rfl rfl (aM aa rfl rfl rfl rfl rfl rfl rfl rfl (WO.nil (qs (W.seq (W.region (pE rfl (pu (nQ rfl rfl rfl hco rfl) rfl ?_)))))))
 iterate 3 refine pE rfl ?_
 refine aX aa rfl rfl rfl (aM aa rfl rfl rfl rfl rfl rfl rfl rfl (pE rfl (WO.nil (qs (W.seq (W.jP aa 9 1 (by kernel_rfl) rfl rfl ?_))))))
 refine bF rfl (ev aa rfl) rfl ?_
 refine bF rfl (ev aa rfl) rfl ?_
 refine bF rfl (aC aa rfl rfl rfl rfl rfl rfl rfl rfl rfl) rfl ?_
 refine bF rfl (ab rfl rfl rfl (dy [0, 5] (by decide)) rfl) rfl ?_
 refine bF rfl (aC aa rfl rfl rfl rfl rfl rfl rfl rfl rfl) rfl ?_
 refine bF rfl (ab rfl rfl rfl (dy [7, 9] (by decide)) rfl) rfl ?_
 refine bF rfl (aC aa rfl rfl rfl rfl rfl rfl rfl rfl rfl) rfl ?_
 refine bF rfl (build aa rfl rfl rfl rfl) rfl ?_
 refine gS 0 rfl rfl rfl rfl rfl rfl ?_
 refine CE.nil ?_
 refine aM aa rfl rfl rfl rfl rfl rfl rfl rfl (WO.nil (qs (W.seq ?_)))
 apply aG; (case hb => rfl)
 ·
  refine pE rfl (pE rfl (pu (ab rfl rfl rfl (hs tW) rfl) rfl ?_))
  refine pE rfl ?_
  apply aD; (case hj => rfl); (case hl => rfl)
  ·
   refine ak rfl rfl (pE rfl (ak rfl rfl ?_))
   iterate 3 refine pE rfl ?_
   apply aD; (case hj => rfl); (case hl => rfl)
   ·
    refine ak rfl rfl (pE rfl (ak rfl rfl ?_))
    iterate 3 refine pE rfl ?_
    apply aD; (case hj => rfl); (case hl => rfl)
    ·
     refine ak rfl rfl (pE rfl (ak rfl rfl (pE rfl (ak rfl rfl (pu (ab rfl rfl rfl (hs tN) rfl) rfl ?_)))))
     iterate 2 refine pE rfl ?_
     apply aD; (case hj => rfl); (case hl => rfl)
     ·
      refine ak rfl rfl (pE rfl (ak rfl rfl ?_))
      iterate 3 refine pE rfl ?_
      apply aD; (case hj => rfl); (case hl => rfl)
      ·
       refine ak rfl rfl (pE rfl (ak rfl rfl (pE rfl (ak rfl rfl (pu (ab rfl rfl rfl (hs tU) rfl) rfl ?_)))))
       iterate 2 refine pE rfl ?_
       apply aD; (case hj => rfl); (case hl => rfl)
       ·
        refine ak rfl rfl (pE rfl (ak rfl rfl ?_))
        iterate 3 refine pE rfl ?_
        refine WO.nil (aB rfl rfl rfl)
       iterate 2 refine ax rfl rfl rfl rfl ?_
       iterate 2 refine pE rfl ?_
       refine WO.nil (aB rfl rfl rfl)
      iterate 3 refine ax rfl rfl rfl rfl ?_
      iterate 2 refine pE rfl ?_
      iterate 2 refine ax rfl rfl rfl rfl ?_
      iterate 2 refine pE rfl ?_
      refine WO.nil (aB rfl rfl rfl)
     iterate 2 refine ax rfl rfl rfl rfl ?_
     iterate 2 refine pE rfl ?_
     iterate 3 refine ax rfl rfl rfl rfl ?_
     iterate 2 refine pE rfl ?_
     iterate 2 refine ax rfl rfl rfl rfl ?_
     iterate 2 refine pE rfl ?_
     refine WO.nil (aB rfl rfl rfl)
    iterate 3 refine ax rfl rfl rfl rfl ?_
    iterate 2 refine pE rfl ?_
    iterate 2 refine ax rfl rfl rfl rfl ?_
    iterate 2 refine pE rfl ?_
    iterate 3 refine ax rfl rfl rfl rfl ?_
    iterate 2 refine pE rfl ?_
    iterate 2 refine ax rfl rfl rfl rfl ?_
    iterate 2 refine pE rfl ?_
    refine WO.nil (aB rfl rfl rfl)
   iterate 2 refine ax rfl rfl rfl rfl ?_
   iterate 2 refine pE rfl ?_
   iterate 3 refine ax rfl rfl rfl rfl ?_
   iterate 2 refine pE rfl ?_
   iterate 2 refine ax rfl rfl rfl rfl ?_
   iterate 2 refine pE rfl ?_
   iterate 3 refine ax rfl rfl rfl rfl ?_
   iterate 2 refine pE rfl ?_
   iterate 2 refine ax rfl rfl rfl rfl ?_
   iterate 2 refine pE rfl ?_
   refine WO.nil (aB rfl rfl rfl)
  iterate 2 refine ax rfl rfl rfl rfl ?_
  iterate 2 refine pE rfl ?_
  iterate 2 refine ax rfl rfl rfl rfl ?_
  iterate 2 refine pE rfl ?_
  iterate 3 refine ax rfl rfl rfl rfl ?_
  iterate 2 refine pE rfl ?_
  iterate 2 refine ax rfl rfl rfl rfl ?_
  iterate 2 refine pE rfl ?_
  iterate 3 refine ax rfl rfl rfl rfl ?_
  iterate 2 refine pE rfl ?_
  iterate 2 refine ax rfl rfl rfl rfl ?_
  iterate 2 refine pE rfl ?_
  refine WO.nil (aB rfl rfl rfl)
 refine qs (W.ret (QF.aq trivial rfl ?_))
 rfl
end Go.Proofs.Ytjenenllmjlimaa
namespace Go.Proofs.Ytjenenllmjlimaa
open Go.Ab Go.Tb
set_option maxRecDepth 10000
attribute [local irreducible] W WO Pu QS QB QL QF QV bD CH QE
theorem uG (a b : bo) (on : List ByteArray) : aw Try.prog 4 [.ag a.c, .ag b.c, .d (.sl (on.map sc))] (.d (.v (.bool true))) 0 := by
 obtain ⟨T0, hT0⟩ : ∃ t, cH a b on = t := ⟨_, rfl⟩
 refine aw.aY (n := 90) (ts := [6]) Try.func4 (by kernel_rfl) rfl Try.ntmps4 Try.results4 rfl rfl fun C hC hG => ?_
 refine W.seq (W.region (bJ rfl rfl rfl (bJ rfl rfl rfl (pE rfl (WO.nil (qs ?_))))))
 iterate 2 refine W.seq ?_
 refine W.region (pE rfl (pE rfl (pE rfl (pu (ab rfl rfl rfl (ub a b on) rfl) rfl ?_))))
 refine pE rfl (WO.nil (qs (an rfl (fun h15 => ?_) (fun h15 => ?_))))
 ·
  refine W.seq (W.region (pu (ab rfl rfl rfl lh rfl) rfl ?_))
  refine pE rfl (WO.nil (qs (W.ret (ah (QF.aq trivial rfl ?_)))))
  rfl
 have hfew : ng a b on = true := by simpa using h15
 have hon := (sM hfew).1
 have hne := nJ a b on (by omega)
 rw [hT0] at hne
 refine W.skip (qs (W.seq (W.region (pE rfl (pE rfl (pE rfl (pu (ab rfl rfl rfl hne rfl) rfl ?_)))))))
 iterate 3 refine pE rfl ?_
 refine aX aa rfl rfl rfl (aM aa rfl rfl rfl rfl rfl rfl rfl rfl (pE rfl (WO.nil (qs ?_))))
 iterate 2 refine W.seq ?_
 refine W.region ?_
 iterate 2 refine pE rfl ?_
 refine WO.nil (qs (an rfl (fun h25 => ?_) (fun h25 => ?_)))
 ·
  have he : T0.2 ≠ 0 := by simpa using h25
  have hz : T0.1 = fb := by
   rw [← hT0] at he ⊢
   unfold cH at he ⊢
   split
   · rfl
   rename_i q; rw [if_neg q] at he; exact absurd rfl he
  rw [hz]
  refine W.seq ?_
  apply aG; (case hb => rfl)
  ·
   refine pE rfl (pE rfl ?_)
   iterate 3 refine pE rfl ?_
   apply aD; (case hj => rfl); (case hl => rfl)
   ·
    refine ak rfl rfl (pu (ab rfl rfl rfl lh rfl) rfl ?_)
    iterate 2 refine pE rfl ?_
    refine WO.nil (aB rfl rfl rfl)
   refine ax rfl rfl rfl rfl ?_
   iterate 2 refine pE rfl ?_
   refine WO.nil (aB rfl rfl rfl)
  refine qs (W.ret (ah (QF.aq trivial rfl ?_)))
  rfl
 have he : T0.2 = 0 := by simpa using h25
 have hok := rm (a := a) (b := b) (on := on) (by rw [hT0]; exact he)
 rw [hT0] at hok
 have hj : sJ 8 a b on := (oe (.inr rfl)).1 (by
  have h0 := he
  rw [← hT0] at h0
  unfold cH at h0
  by_cases q : (cX 8 on a b).2 = 0
  · exact q
  rw [if_pos q] at h0; exact h0)
 have hra := dU hj.ga
 have haz := c9 hj.ga
 have hlen : T0.1.rows.length = a.rows.length := by rw [hok.2, List.length_map]
 have hrt := dU hok.1
 have hct := c9 hok.1
 have ham : T0.1.rows.length ≤ maxLen := by simp only [maxLen]; omega
 have hamm : a.rows.length ≤ maxLen := by simp only [maxLen]; omega
 refine W.skip (qs ?_)
 iterate 2 refine W.seq ?_
 apply aG; (case hb => rfl)
 ·
  refine pE rfl (pE rfl ?_)
  iterate 2 refine pE rfl ?_
  refine pE rfl ?_
  iterate 3 refine pE rfl ?_
  apply aD; (case hj => rfl); (case hl => rfl)
  ·
   iterate 3 refine ax rfl rfl rfl rfl ?_
   refine pE rfl (WO.nil (aB rfl rfl rfl))
  refine ak rfl rfl (pE rfl (ak rfl rfl (pu (ab rfl rfl rfl (pb T0.1) rfl) rfl ?_)))
  refine ak rfl rfl ?_
  iterate 2 refine pE rfl ?_
  refine WO.nil (aB rfl rfl rfl)
 refine qs (an rfl (fun h44 => ?_) (fun h44 => ?_))
 ·
  exfalso
  revert h44
  simp [hlen, hok.1]
 refine W.skip (qs ?_)
 iterate 2 refine W.seq ?_
 refine W.region (pE rfl (WO.nil (qs (W.block ?_))))
 refine W.aU (ι := {x : Nat // match x with | i => i ≤ T0.1.rows.length})
  (fun x => match x.1 with | i => [(3, .ptr 0 0), (7, .ptr 1 0), (9, .d (.v (.int .i64 ((i : Nat) : Int))))]) []
  (fun x => match x.1 with | i => [(0, a.c.map A.d), (1, T0.1.c.map A.d)]) [] [] 2 (fun x => match x.1 with | i => T0.1.rows.length - i)
  [0, 2] ⟨0, ?_⟩ rfl ?_ trivial ?_ trivial rfl ?_
 · exact Nat.zero_le _
 · repeat' first | exact trivial | refine ⟨rfl, ?_⟩
 · repeat' first | exact trivial | refine ⟨rfl, ?_⟩
 rintro ⟨i, hk⟩
 show W _ _ _ _ _ ⟨[(3, .ptr 0 0), (7, .ptr 1 0), (9, .d (.v (.int .i64 ((i : Nat) : Int))))], [(0, a.c.map A.d), (1, T0.1.c.map A.d)], [], 2⟩
 iterate 2 refine W.seq ?_
 refine W.region ?_
 iterate 2 refine pE rfl ?_
 refine pE rfl ?_
 iterate 2 refine pE rfl ?_
 refine WO.nil (qs (bb (l := T0.1.rows) (k := i) rfl (by simp [Ex.aA, aI]) hk (fun z hx hd hlt => ?_) (fun he hd => ?_)))
 ·
  obtain ⟨y, hy⟩ : ∃ y, a.rows[i]? = some y := ⟨a.rows[i]'(by omega), by simp⟩
  have hyl := (hra y (List.mem_of_getElem? hy)).1
  have hzl0 := (hrt z (List.mem_of_getElem? hx)).1
  have hym : y.length ≤ maxLen := by simp only [maxLen]; omega
  have hzm : z.length ≤ maxLen := by simp only [maxLen]; omega
  have hzy : ∀ (k : Nat) (v : aH), y[k]? = some v → z[k]? = some v := by
   intro k v hv
   have h0 := hx
   rw [hok.2, List.getElem?_map, hy] at h0
   simp only [Option.map_some, Option.some.injEq] at h0
   rw [← h0]
   unfold fW
   rw [List.getElem?_append_left (List.getElem?_eq_some_iff.1 hv).1]
   exact hv
  have hx0 := hx
  have hlt0 : i < T0.1.rows.length := hlt
  refine W.skip (qs (W.seq (W.block (W.seq (W.region (pE rfl (WO.nil (qs (W.block ?_)))))))))
  refine W.aU (ι := {x : Nat // match x with | k => k ≤ y.length})
   (fun x => match x.1 with | k => [(3, .ptr 0 0), (7, .ptr 1 0), (9, .d (.v (.int .i64 ((i : Nat) : Int)))), (10, .d (.v (.int .i64 ((k : Nat) : Int))))]) []
   (fun x => match x.1 with | k => [(0, a.c.map A.d), (1, T0.1.c.map A.d)]) [] [] 2 (fun x => match x.1 with | k => y.length - k)
   [0, 1] ⟨0, ?_⟩ rfl ?_ trivial ?_ trivial rfl ?_
  · exact Nat.zero_le _
  · repeat' first | exact trivial | refine ⟨rfl, ?_⟩
  · repeat' first | exact trivial | refine ⟨rfl, ?_⟩
  rintro ⟨k, hk⟩
  show W _ _ _ _ _ ⟨[(3, .ptr 0 0), (7, .ptr 1 0), (9, .d (.v (.int .i64 ((i : Nat) : Int)))), (10, .d (.v (.int .i64 ((k : Nat) : Int))))], [(0, a.c.map A.d), (1, T0.1.c.map A.d)], [], 2⟩
  iterate 2 refine W.seq ?_
  refine W.region ?_
  iterate 2 refine pE rfl ?_
  refine pE rfl (pE rfl (pu (indexAddr aa rfl rfl rfl rfl rfl rfl (Int.natCast_nonneg _) (aF hy) rfl) rfl ?_))
  refine pE rfl ?_
  iterate 2 refine pE rfl ?_
  refine WO.nil (qs (bb (l := y) (k := k) rfl (by simp [Ex.aA, aI]) hk (fun v hx hd hlt => ?_) (fun he hd => ?_)))
  ·
   have hzv := hzy k v hx
   have hzl := (List.getElem?_eq_some_iff.1 hzv).1
   refine W.skip (qs (W.seq (W.block (W.seq ?_))))
   apply ja aa; (case hb => rfl); (case hB => kernel_rfl)
   ·
    iterate 2 refine ao (ev aa rfl) rfl ?_
    refine ao (ev aa rfl) rfl ?_
    refine ao (ev aa rfl) rfl ?_
    refine ao (indexAddr aa rfl rfl rfl rfl rfl rfl (Int.natCast_nonneg _) (aF hx0) rfl) rfl ?_
    refine ao (ev aa rfl) rfl ?_
    iterate 3 refine ao (ev aa rfl) rfl ?_
    apply s6; (case hj => rfl); (case hl => rfl)
    ·
     iterate 17 refine dZ rfl rfl rfl rfl ?_
     refine ao (ev aa rfl) rfl ?_
     refine CH.nil ?_
     refine aB rfl rfl rfl
    refine aT rfl rfl (ev aa rfl) rfl ?_
    refine aT rfl rfl (ev aa rfl) rfl ?_
    refine aT rfl rfl (ev aa rfl) rfl ?_
    refine aT rfl rfl (indexAddr aa rfl rfl rfl rfl rfl rfl (Int.natCast_nonneg _) (aF hx0) rfl) rfl ?_
    refine aT rfl rfl (ev aa rfl) rfl ?_
    refine aT rfl rfl (ev aa rfl) rfl ?_
    refine aT rfl rfl (indexAddr aa rfl rfl rfl rfl rfl rfl (Int.natCast_nonneg _) (aF hzv) rfl) rfl ?_
    refine aT rfl rfl (ev aa rfl) rfl ?_
    refine aT rfl rfl (ev aa rfl) rfl ?_
    refine aT rfl rfl (ev aa rfl) rfl ?_
    refine aT rfl rfl (ev aa rfl) rfl ?_
    refine aT rfl rfl (indexAddr aa rfl rfl rfl rfl rfl rfl (Int.natCast_nonneg _) (aF hy) rfl) rfl ?_
    refine aT rfl rfl (ev aa rfl) rfl ?_
    refine aT rfl rfl (ev aa rfl) rfl ?_
    refine aT rfl rfl (indexAddr aa rfl rfl rfl rfl rfl rfl (Int.natCast_nonneg _) (aF hx) rfl) rfl ?_
    refine aT rfl rfl (ev aa rfl) rfl ?_
    refine aT rfl rfl (ev aa rfl) rfl ?_
    refine ao (ev aa rfl) rfl ?_
    refine CH.nil ?_
    refine aB rfl rfl rfl
   refine qs (an rfl (fun h88 => ?_) (fun h88 => ?_))
   ·
    exfalso
    revert h88
    simp
    omega
   refine W.skip (aZ (qs (W.region ?_)))
   iterate 3 refine pE rfl ?_
   refine WO.nil (W.aW [0, 1] ⟨k + 1, ?_⟩ ?_ rfl ?_ trivial ?_ trivial rfl)
   · exact hlt
   · dsimp only; omega
   · repeat' first | exact trivial | refine ⟨rfl, ?_⟩ | refine ⟨aE (by assumption) (by assumption), ?_⟩
   repeat' first | exact trivial | refine ⟨rfl, ?_⟩
  refine W.exit (aK (aP (aL (aZ (qs (W.region ?_))))))
  iterate 3 refine pE rfl ?_
  refine WO.nil (W.aW [0, 1] ⟨i + 1, ?_⟩ ?_ rfl ?_ trivial ?_ trivial rfl)
  · exact hlt0
  · dsimp only; omega
  · repeat' first | exact trivial | refine ⟨rfl, ?_⟩ | refine ⟨aE (by assumption) (by assumption), ?_⟩
  repeat' first | exact trivial | refine ⟨rfl, ?_⟩
 refine W.exit (aK (aP (aL (qs (W.seq (W.region (pu (ab rfl rfl rfl lh rfl) rfl ?_)))))))
 refine pE rfl (WO.nil (qs (W.ret (QF.aq trivial rfl ?_))))
 rfl
end Go.Proofs.Ytjenenllmjlimaa
