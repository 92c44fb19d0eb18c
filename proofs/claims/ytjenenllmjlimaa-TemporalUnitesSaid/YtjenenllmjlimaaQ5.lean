import Derived.Test.YtjenenllmjlimaaQ4
namespace Go.Proofs.Ytjenenllmjlimaa
open Go.Ab Go.Tb
set_option maxRecDepth 10000
attribute [local irreducible] W WO Pu QS QB QL QF QV bO CH QE
theorem mu (p : Nat → Bool) (f i j : Nat) : c8 p (f + 1) i j = if i < j then (if p ((i + j) / 2) = true then c8 p f ((i + j) / 2 + 1) j else c8 p f i ((i + j) / 2)) else i := rfl
theorem tJ {x : Nat} (h : x ≤ 1000000) : IntKind.u64.wrap ((x : Int)) = (x : Int) := by
 simp only [IntKind.wrap, IntKind.signed, IntKind.bits]
 simp
 omega
theorem uu {x : Nat} : ((x : Int)).fdiv (2 ^ (min (IntKind.u64.wrap 1).toNat IntKind.u64.bits)) = ((x / 2 : Nat) : Int) := by
 have e : min (IntKind.u64.wrap 1).toNat IntKind.u64.bits = 1 := by decide
 rw [e]
 have : ((x : Int)).fdiv 2 = (x : Int) / 2 := Int.fdiv_eq_ediv_of_nonneg _ (by omega)
 rw [show ((2 : Int) ^ 1) = 2 from rfl, this]
 omega
theorem ny {x : Nat} (h : x ≤ 1000000) : dr (.int .u64 (x : Int)) = true := by
 simp [dr, IntKind.min, IntKind.max, IntKind.signed, IntKind.bits]; omega
theorem um {x : Nat} (h : x ≤ 1000000) : IntKind.i64.wrap ((x : Int)) = (x : Int) := wrap64 (by omega)
theorem nn : ∀ (f : Nat) (l : List Pc) (a m b k cap : Nat), l.length ≤ 100000 → a < m → m < b → b ≤ l.length → b - a ≤ f →
  cU Try.prog 65 [.sb 0 l.length cap, .d (.v (.int .i64 (a : Int))), .d (.v (.int .i64 (m : Int))), .d (.v (.int .i64 (b : Int))), .clo 34 []] [a7 (l.map Pc.c) k] 0 (.tup []) [a7 ((dB bd f l a m b).map Pc.c) k] 0
 | 0, l, a, m, b, k, cap, hcap, h1, h2, h3, hf => by omega
 | f + 1, l, a, m, b, k, cap, hcap, h1, h2, h3, hf => by
  refine cU.fa aa (n := 220) (rs := []) Try.func65 (by kernel_rfl) rfl Try.ntmps65 Try.results65 rfl rfl fun C hC hG => ?_
  iterate 2 refine W.seq ?_
  refine W.region ?_
  iterate 2 refine pE rfl ?_
  refine pu (bL (ev aa rfl) (gy (x := m) (y := a) (by omega) (by omega))) rfl ?_
  refine pE rfl (WO.nil (qs (aq rfl (fun h28 => ?_) (fun h28 => ?_))))
  ·
   have e1 : m - a = 1 := by simp at h28; omega
   refine W.seq (W.region ?_)
   iterate 2 refine pE rfl ?_
   refine WO.nil (qs (W.seq (W.region ?_)))
   iterate 2 refine pE rfl ?_
   refine WO.nil (qs (W.seq (W.block ?_)))
   refine W.aW (ι := {x : Nat × Nat × Nat // match x with | (g, i, j) => j - i < g ∧ m ≤ i ∧ i ≤ j ∧ j ≤ b ∧ c8 (fun h => bd (el l h) (el l a)) g i j = c8 (fun h => bd (el l h) (el l a)) (b - m + 1) m b})
    (fun x => match x.1 with | (g, i, j) => [(0, .sb 0 l.length cap), (10, .d (.v (.int .i64 ((i : Nat) : Int)))), (11, .d (.v (.int .i64 ((j : Nat) : Int))))]) [(1, _), (4, _)]
    (fun x => match x.1 with | (g, i, j) => [(0, a7 (l.map Pc.c) k)]) [] [] 1 (fun x => match x.1 with | (g, i, j) => j - i)
    [0] ⟨(b - m + 1, m, b), ?_⟩ rfl ?_ ⟨rfl, rfl, rfl, rfl, trivial⟩ ?_ trivial rfl ?_
   · exact ⟨by omega, Nat.le_refl _, by omega, Nat.le_refl _, rfl⟩
   · repeat' first | exact trivial | refine ⟨rfl, ?_⟩
   · repeat' first | exact trivial | refine ⟨congrArg some (ba _ _ _), ?_⟩
   rintro ⟨⟨g, i, j⟩, hg, hi, hij, hj, hI⟩
   show W _ _ _ _ _ ⟨[(0, .sb 0 l.length cap), (10, .d (.v (.int .i64 ((i : Nat) : Int)))), (11, .d (.v (.int .i64 ((j : Nat) : Int)))), (1, _), (4, _)], [(0, a7 (l.map Pc.c) k)], [], 1⟩
   obtain ⟨g, rfl⟩ : ∃ q, g = q + 1 := ⟨g - 1, by omega⟩
   rw [mu] at hI
   iterate 2 refine W.seq ?_
   refine W.region ?_
   iterate 3 refine pE rfl ?_
   refine WO.nil (qs (aq rfl (fun h33 => ?_) (fun h33 => ?_)))
   ·
    have hlt : i < j := by simp at h33; omega
    rw [if_pos hlt] at hI
    refine W.skip (qs (W.block (W.seq (W.region ?_))))
    iterate 2 refine pE rfl ?_
    refine pu (bL (ev aa rfl) (dV (x := i) (y := j) (by omega))) rfl ?_
    refine pu (bL (ev aa rfl) (tJ (x := i + j) (by omega))) rfl ?_
    refine pu (tY (r := (((i + j) / 2 : Nat) : Int)) rfl rfl (by decide) uu (ny (by omega))) rfl ?_
    refine pu (bL (ev aa rfl) (um (x := (i + j) / 2) (by omega))) rfl ?_
    refine pE rfl (WO.nil (qs (W.seq (W.bE aa (by kernel_rfl) ?_))))
    iterate 3 refine ao (ev aa rfl) rfl ?_
    refine ao (bD aa rfl rfl rfl rfl rfl (Int.natCast_nonneg _) (show (i + j) / 2 < l.length by omega) rfl) rfl ?_
    refine ao (dP (i := (i + j) / 2) aa rfl rfl rfl rfl (bZ l) (de (by omega))) rfl ?_
    iterate 2 refine ao (ev aa rfl) rfl ?_
    refine ao (bD aa rfl rfl rfl rfl rfl (Int.natCast_nonneg _) (show a < l.length by omega) rfl) rfl ?_
    refine ao (dP (i := a) aa rfl rfl rfl rfl (bZ l) (de (by omega))) rfl ?_
    refine ao (ae rfl rfl rfl (jJ (el l ((i + j) / 2)) (el l a)) rfl) rfl ?_
    refine ao (ev aa rfl) rfl ?_
    refine CH.nil ?_
    refine qs (aq rfl (fun h50 => ?_) (fun h50 => ?_))
    ·
     have hbr : bd (el l ((i + j) / 2)) (el l a) = true := h50
     rw [if_pos hbr] at hI
     refine W.region (pE rfl (pu (bL (ev aa rfl) (dV (x := (i + j) / 2) (y := 1) (by omega))) rfl ?_))
     refine pE rfl (WO.nil (a0 ?_))
     (have _hb : bd (el l ((i + j) / 2)) (el l a) = true := hbr; refine W.aY [0] ⟨(g, (i + j) / 2 + 1, j), ?_⟩ ?_ rfl ?_ ⟨rfl, rfl, rfl, rfl, trivial⟩ ?_ trivial rfl)
     · exact ⟨by omega, by omega, by omega, by omega, hI⟩
     · dsimp only; omega
     · repeat' first | exact trivial | refine ⟨rfl, ?_⟩
     repeat' first | exact trivial | refine ⟨congrArg some (ba _ _ _), ?_⟩
    have hbr : bd (el l ((i + j) / 2)) (el l a) = false := h50
    rw [if_neg (by rw [hbr]; decide)] at hI
    refine W.region ?_
    iterate 2 refine pE rfl ?_
    refine WO.nil (a0 ?_)
    (have _hb : bd (el l ((i + j) / 2)) (el l a) = false := hbr; refine W.aY [0] ⟨(g, i, (i + j) / 2), ?_⟩ ?_ rfl ?_ ⟨rfl, rfl, rfl, rfl, trivial⟩ ?_ trivial rfl)
    · exact ⟨by omega, by omega, by omega, by omega, hI⟩
    · dsimp only; omega
    · repeat' first | exact trivial | refine ⟨rfl, ?_⟩
    repeat' first | exact trivial | refine ⟨congrArg some (ba _ _ _), ?_⟩
   have hlt : ¬ i < j := by simp at h33; omega
   rw [if_neg hlt] at hI
   refine W.exit (aN (aR (aO (qs ?_))))
   iterate 2 refine W.seq ?_
   refine W.region ?_
   iterate 2 refine pE rfl ?_
   refine WO.nil (qs (W.block ?_))
   have hr1 : i ≤ b := by omega
   refine W.aW (ι := {x : Nat × List Pc // match x with | (x, L) => a ≤ x ∧ x ≤ i - 1 ∧ L.length = l.length ∧ lY L (i - 1 - x) x = lY l (i - 1 - a) a})
    (fun x => match x.1 with | (x, L) => [(0, .sb 0 l.length cap), (13, .d (.v (.int .i64 ((x : Nat) : Int))))]) [(10, _)]
    (fun x => match x.1 with | (x, L) => [(0, a7 (L.map Pc.c) k)]) [] [] 1 (fun x => match x.1 with | (x, L) => i - 1 - x)
    [0] ⟨(a, l), ?_⟩ rfl ?_ ⟨rfl, rfl, trivial⟩ ?_ trivial rfl ?_
   · exact ⟨Nat.le_refl _, by omega, rfl, rfl⟩
   · repeat' first | exact trivial | refine ⟨rfl, ?_⟩
   · repeat' first | exact trivial | refine ⟨congrArg some (ba _ _ _), ?_⟩
   rintro ⟨⟨x, L⟩, hx1, hx2, hL, hU⟩
   show W _ _ _ _ _ ⟨[(0, .sb 0 l.length cap), (13, .d (.v (.int .i64 ((x : Nat) : Int)))), (10, _)], [(0, a7 (L.map Pc.c) k)], [], 1⟩
   iterate 2 refine W.seq ?_
   refine W.region ?_
   iterate 2 refine pE rfl ?_
   refine pu (bL (ev aa rfl) (gy (x := i) (y := 1) (by omega) (by omega))) rfl ?_
   refine pE rfl (WO.nil (qs (aq rfl (fun h58 => ?_) (fun h58 => ?_))))
   ·
    have hxi : x < i - 1 := by simp at h58; omega
    obtain ⟨r, hr⟩ : ∃ r, i - 1 - x = r + 1 := ⟨i - 1 - x - 1, by omega⟩
    have hr2 : i - 1 - (x + 1) = r := by omega
    rw [hr] at hU
    simp only [lY] at hU
    have ea : (L.map Pc.c)[x]? = some (el L x).c := de (by omega)
    have eb : (L.map Pc.c)[x + 1]? = some (el L (x + 1)).c := de (by omega)
    have eb2 : ((L.set x (el L (x + 1))).map Pc.c)[x + 1]? = some (el L (x + 1)).c := by rw [de (by rw [List.length_set]; omega), kZ (by omega), if_neg (by omega)]
    refine W.skip (qs (W.seq (W.block ?_)))
    apply W.iU aa 16 15; (case hB => kernel_rfl); (case h1 => rfl); (case h2 => rfl)
    refine' bo (ev aa rfl) rfl rfl rfl rfl rfl ?h_1
    case' h_1 => skip
    refine' bo (ev aa rfl) rfl rfl rfl rfl rfl ?h_2
    case' h_2 => skip
    refine' bR ?p1_3 (ev aa rfl) rfl rfl rfl rfl rfl ?h_3
    case' h_3 => skip
    refine' bR ?p1_4 (ev aa rfl) rfl rfl rfl rfl rfl ?h_4
    case' h_4 => skip
    refine' bR ?p1_5 (bL (ev aa rfl) (dV (x := x) (y := 1) (by omega))) rfl rfl rfl rfl rfl ?h_5
    case' h_5 => skip
    refine' bo (ev aa rfl) rfl rfl rfl rfl rfl ?h_6
    case' h_6 => skip
    refine' bo (ev aa rfl) rfl rfl rfl rfl rfl ?h_7
    case' h_7 => skip
    refine' bo (bL (ev aa rfl) (dV (x := x) (y := 1) (by omega))) rfl rfl rfl rfl rfl ?h_8
    case' h_8 => skip
    refine' bo (bD aa rfl rfl rfl rfl rfl (Int.natCast_nonneg _) (show x + 1 < l.length by omega) rfl) rfl rfl rfl rfl rfl ?h_9
    case' h_9 => skip
    refine' bo (dP (i := x + 1) aa rfl rfl rfl rfl (bZ L) eb) rfl rfl rfl rfl rfl ?h_10
    case' h_10 => skip
    refine' bR ?p1_11 (ev aa rfl) rfl rfl rfl rfl rfl ?h_11
    case' h_11 => skip
    refine' bR ?p1_12 (ev aa rfl) rfl rfl rfl rfl rfl ?h_12
    case' h_12 => skip
    refine' bR ?p1_13 (bD aa rfl rfl rfl rfl rfl (Int.natCast_nonneg _) (show x < l.length by omega) rfl) rfl rfl rfl rfl rfl ?h_13
    case' h_13 => skip
    refine' bo (dP (i := x) aa rfl rfl rfl rfl (bZ L) ea) rfl rfl rfl rfl rfl ?h_14
    case' h_14 => skip
    refine' bo (bD aa rfl rfl rfl rfl rfl (Int.natCast_nonneg _) (show x < l.length by omega) rfl) rfl rfl rfl rfl rfl ?h_15
    case' h_15 => skip
    refine' lM (fun g => ?e_16) rfl rfl ?h_16
    case e_16 =>
     refine gX (i := x) aa rfl rfl rfl rfl (bZ L) ea rfl rfl (gB (x := el L (x + 1))) ?_
     refine WO.nil ?_
     exact ⟨rfl, rfl⟩
    case' h_16 => skip
    case p1_3 => exact (ev aa rfl)
    case p1_4 => exact (ev aa rfl)
    case p1_5 => exact (bL (ev aa rfl) (dV (x := x) (y := 1) (by omega)))
    case p1_11 => exact (ev aa rfl)
    case p1_12 => exact (ev aa rfl)
    case p1_13 => exact (bD aa rfl rfl rfl rfl rfl (Int.natCast_nonneg _) (show x < l.length by omega) rfl)
    refine CC.nil ?_
    refine pu (bD aa rfl rfl rfl rfl rfl (Int.natCast_nonneg _) (show x + 1 < l.length by omega) rfl) rfl ?_
    refine gX (i := x + 1) aa rfl rfl rfl rfl (bZ _) eb2 rfl rfl (gB (x := el L x)) ?_
    refine WO.nil (a0 (qs (W.region (pE rfl (pu (bL (ev aa rfl) (dV (x := x) (y := 1) (by omega))) rfl ?_)))))
    refine pE rfl (WO.nil (W.aY [0] ⟨(x + 1, eC L x (x + 1)), ?_⟩ ?_ rfl ?_ ⟨rfl, rfl, trivial⟩ ?_ trivial rfl))
    · exact ⟨by omega, by omega, by rw [cV]; exact hL, by rw [hr2]; exact hU⟩
    · dsimp only; omega
    · repeat' first | exact trivial | refine ⟨rfl, ?_⟩
    repeat' first | exact trivial | refine ⟨congrArg some (ba _ _ _), ?_⟩
   have hxi : i - 1 - x = 0 := by simp at h58; omega
   rw [hxi] at hU
   simp only [lY] at hU
   have hg : dB bd (f + 1) l a m b = L := by
    unfold dB
    rw [if_pos e1, ← hI, hU]
   refine W.exit (aN (aR (aO (qs (W.ret (an (fQ.end aa [] trivial rfl rfl rfl rfl ?_ ?_)))))))
   · rw [hg]; exact iH rfl
   rfl
  have e1 : ¬ m - a = 1 := by simp at h28; omega
  refine W.skip (qs ?_)
  iterate 2 refine W.seq ?_
  refine W.region ?_
  iterate 2 refine pE rfl ?_
  refine pu (bL (ev aa rfl) (gy (x := b) (y := m) (by omega) (by omega))) rfl ?_
  refine pE rfl (WO.nil (qs (aq rfl (fun h80 => ?_) (fun h80 => ?_))))
  ·
   have e2 : b - m = 1 := by simp at h80; omega
   refine W.seq (W.region ?_)
   iterate 2 refine pE rfl ?_
   refine WO.nil (qs (W.seq (W.region ?_)))
   iterate 2 refine pE rfl ?_
   refine WO.nil (qs (W.seq (W.block ?_)))
   refine W.aW (ι := {x : Nat × Nat × Nat // match x with | (g, i, j) => j - i < g ∧ a ≤ i ∧ i ≤ j ∧ j ≤ m ∧ c8 (fun h => !bd (el l m) (el l h)) g i j = c8 (fun h => !bd (el l m) (el l h)) (m - a + 1) a m})
    (fun x => match x.1 with | (g, i, j) => [(0, .sb 0 l.length cap), (14, .d (.v (.int .i64 ((i : Nat) : Int)))), (15, .d (.v (.int .i64 ((j : Nat) : Int))))]) [(2, _), (4, _)]
    (fun x => match x.1 with | (g, i, j) => [(0, a7 (l.map Pc.c) k)]) [] [] 1 (fun x => match x.1 with | (g, i, j) => j - i)
    [0] ⟨(m - a + 1, a, m), ?_⟩ rfl ?_ ⟨rfl, rfl, rfl, rfl, trivial⟩ ?_ trivial rfl ?_
   · exact ⟨by omega, Nat.le_refl _, by omega, Nat.le_refl _, rfl⟩
   · repeat' first | exact trivial | refine ⟨rfl, ?_⟩
   · repeat' first | exact trivial | refine ⟨congrArg some (ba _ _ _), ?_⟩
   rintro ⟨⟨g, i, j⟩, hg, hi, hij, hj, hI⟩
   show W _ _ _ _ _ ⟨[(0, .sb 0 l.length cap), (14, .d (.v (.int .i64 ((i : Nat) : Int)))), (15, .d (.v (.int .i64 ((j : Nat) : Int)))), (2, _), (4, _)], [(0, a7 (l.map Pc.c) k)], [], 1⟩
   obtain ⟨g, rfl⟩ : ∃ q, g = q + 1 := ⟨g - 1, by omega⟩
   rw [mu] at hI
   iterate 2 refine W.seq ?_
   refine W.region ?_
   iterate 3 refine pE rfl ?_
   refine WO.nil (qs (aq rfl (fun h85 => ?_) (fun h85 => ?_)))
   ·
    have hlt : i < j := by simp at h85; omega
    rw [if_pos hlt] at hI
    refine W.skip (qs (W.block (W.seq (W.region ?_))))
    iterate 2 refine pE rfl ?_
    refine pu (bL (ev aa rfl) (dV (x := i) (y := j) (by omega))) rfl ?_
    refine pu (bL (ev aa rfl) (tJ (x := i + j) (by omega))) rfl ?_
    refine pu (tY (r := (((i + j) / 2 : Nat) : Int)) rfl rfl (by decide) uu (ny (by omega))) rfl ?_
    refine pu (bL (ev aa rfl) (um (x := (i + j) / 2) (by omega))) rfl ?_
    refine pE rfl (WO.nil (qs (W.seq (W.bE aa (by kernel_rfl) ?_))))
    iterate 3 refine ao (ev aa rfl) rfl ?_
    refine ao (bD aa rfl rfl rfl rfl rfl (Int.natCast_nonneg _) (show m < l.length by omega) rfl) rfl ?_
    refine ao (dP (i := m) aa rfl rfl rfl rfl (bZ l) (de (by omega))) rfl ?_
    iterate 2 refine ao (ev aa rfl) rfl ?_
    refine ao (bD aa rfl rfl rfl rfl rfl (Int.natCast_nonneg _) (show (i + j) / 2 < l.length by omega) rfl) rfl ?_
    refine ao (dP (i := (i + j) / 2) aa rfl rfl rfl rfl (bZ l) (de (by omega))) rfl ?_
    refine ao (ae rfl rfl rfl (jJ (el l m) (el l ((i + j) / 2))) rfl) rfl ?_
    iterate 2 refine ao (ev aa rfl) rfl ?_
    refine CH.nil ?_
    refine qs (aq rfl (fun h103 => ?_) (fun h103 => ?_))
    ·
     have hbr : (!bd (el l m) (el l ((i + j) / 2))) = true := h103
     rw [if_pos hbr] at hI
     refine W.region (pE rfl (pu (bL (ev aa rfl) (dV (x := (i + j) / 2) (y := 1) (by omega))) rfl ?_))
     refine pE rfl (WO.nil (a0 ?_))
     (have _hb : (!bd (el l m) (el l ((i + j) / 2))) = true := hbr; refine W.aY [0] ⟨(g, (i + j) / 2 + 1, j), ?_⟩ ?_ rfl ?_ ⟨rfl, rfl, rfl, rfl, trivial⟩ ?_ trivial rfl)
     · exact ⟨by omega, by omega, by omega, by omega, hI⟩
     · dsimp only; omega
     · repeat' first | exact trivial | refine ⟨rfl, ?_⟩
     repeat' first | exact trivial | refine ⟨congrArg some (ba _ _ _), ?_⟩
    have hbr : (!bd (el l m) (el l ((i + j) / 2))) = false := h103
    rw [if_neg (by rw [hbr]; decide)] at hI
    refine W.region ?_
    iterate 2 refine pE rfl ?_
    refine WO.nil (a0 ?_)
    (have _hb : (!bd (el l m) (el l ((i + j) / 2))) = false := hbr; refine W.aY [0] ⟨(g, i, (i + j) / 2), ?_⟩ ?_ rfl ?_ ⟨rfl, rfl, rfl, rfl, trivial⟩ ?_ trivial rfl)
    · exact ⟨by omega, by omega, by omega, by omega, hI⟩
    · dsimp only; omega
    · repeat' first | exact trivial | refine ⟨rfl, ?_⟩
    repeat' first | exact trivial | refine ⟨congrArg some (ba _ _ _), ?_⟩
   have hlt : ¬ i < j := by simp at h85; omega
   rw [if_neg hlt] at hI
   refine W.exit (aN (aR (aO (qs ?_))))
   iterate 2 refine W.seq ?_
   refine W.region ?_
   iterate 2 refine pE rfl ?_
   refine WO.nil (qs (W.block ?_))
   refine W.aW (ι := {x : Nat × List Pc // match x with | (x, L) => i ≤ x ∧ x ≤ m ∧ L.length = l.length ∧ lW L (x - i) x = lW l (m - i) m})
    (fun x => match x.1 with | (x, L) => [(0, .sb 0 l.length cap), (17, .d (.v (.int .i64 ((x : Nat) : Int))))]) [(14, _)]
    (fun x => match x.1 with | (x, L) => [(0, a7 (L.map Pc.c) k)]) [] [] 1 (fun x => match x.1 with | (x, L) => x - i)
    [0] ⟨(m, l), ?_⟩ rfl ?_ ⟨rfl, rfl, trivial⟩ ?_ trivial rfl ?_
   · exact ⟨by omega, Nat.le_refl _, rfl, rfl⟩
   · repeat' first | exact trivial | refine ⟨rfl, ?_⟩
   · repeat' first | exact trivial | refine ⟨congrArg some (ba _ _ _), ?_⟩
   rintro ⟨⟨x, L⟩, hx1, hx2, hL, hU⟩
   show W _ _ _ _ _ ⟨[(0, .sb 0 l.length cap), (17, .d (.v (.int .i64 ((x : Nat) : Int)))), (14, _)], [(0, a7 (L.map Pc.c) k)], [], 1⟩
   iterate 2 refine W.seq ?_
   refine W.region ?_
   iterate 3 refine pE rfl ?_
   refine WO.nil (qs (aq rfl (fun h110 => ?_) (fun h110 => ?_)))
   ·
    have hxi : i < x := by simp at h110; omega
    obtain ⟨y, rfl⟩ : ∃ y, x = y + 1 := ⟨x - 1, by omega⟩
    have hr : y + 1 - i = y - i + 1 := by omega
    rw [hr] at hU
    simp only [lW] at hU
    rw [show y + 1 - 1 = y from rfl] at hU
    have ea : (L.map Pc.c)[y + 1]? = some (el L (y + 1)).c := de (by omega)
    have eb : (L.map Pc.c)[y]? = some (el L y).c := de (by omega)
    have eb2 : ((L.set (y + 1) (el L y)).map Pc.c)[y]? = some (el L y).c := by rw [de (by rw [List.length_set]; omega), kZ (by omega), if_neg (by omega)]
    have hsub : IntKind.i64.wrap (((y + 1 : Nat) : Int) - 1) = ((y : Nat) : Int) := by rw [wrap64 (by omega)]; omega
    refine W.skip (qs (W.seq (W.block ?_)))
    apply W.iU aa 16 15; (case hB => kernel_rfl); (case h1 => rfl); (case h2 => rfl)
    refine' bo (ev aa rfl) rfl rfl rfl rfl rfl ?h_17
    case' h_17 => skip
    refine' bo (ev aa rfl) rfl rfl rfl rfl rfl ?h_18
    case' h_18 => skip
    refine' bR ?p1_19 (ev aa rfl) rfl rfl rfl rfl rfl ?h_19
    case' h_19 => skip
    refine' bR ?p1_20 (ev aa rfl) rfl rfl rfl rfl rfl ?h_20
    case' h_20 => skip
    refine' bR ?p1_21 (bL (ev aa rfl) hsub) rfl rfl rfl rfl rfl ?h_21
    case' h_21 => skip
    refine' bo (ev aa rfl) rfl rfl rfl rfl rfl ?h_22
    case' h_22 => skip
    refine' bo (ev aa rfl) rfl rfl rfl rfl rfl ?h_23
    case' h_23 => skip
    refine' bo (bL (ev aa rfl) hsub) rfl rfl rfl rfl rfl ?h_24
    case' h_24 => skip
    refine' bo (bD aa rfl rfl rfl rfl rfl (Int.natCast_nonneg _) (show y < l.length by omega) rfl) rfl rfl rfl rfl rfl ?h_25
    case' h_25 => skip
    refine' bo (dP (i := y) aa rfl rfl rfl rfl (bZ L) eb) rfl rfl rfl rfl rfl ?h_26
    case' h_26 => skip
    refine' bR ?p1_27 (ev aa rfl) rfl rfl rfl rfl rfl ?h_27
    case' h_27 => skip
    refine' bR ?p1_28 (ev aa rfl) rfl rfl rfl rfl rfl ?h_28
    case' h_28 => skip
    refine' bR ?p1_29 (bD aa rfl rfl rfl rfl rfl (Int.natCast_nonneg _) (show y + 1 < l.length by omega) rfl) rfl rfl rfl rfl rfl ?h_29
    case' h_29 => skip
    refine' bo (dP (i := y + 1) aa rfl rfl rfl rfl (bZ L) ea) rfl rfl rfl rfl rfl ?h_30
    case' h_30 => skip
    refine' bo (bD aa rfl rfl rfl rfl rfl (Int.natCast_nonneg _) (show y + 1 < l.length by omega) rfl) rfl rfl rfl rfl rfl ?h_31
    case' h_31 => skip
    refine' lM (fun g => ?e_32) rfl rfl ?h_32
    case e_32 =>
     refine gX (i := y + 1) aa rfl rfl rfl rfl (bZ L) ea rfl rfl (gB (x := el L y)) ?_
     refine WO.nil ?_
     exact ⟨rfl, rfl⟩
    case' h_32 => skip
    case p1_19 => exact (ev aa rfl)
    case p1_20 => exact (ev aa rfl)
    case p1_21 => exact (bL (ev aa rfl) hsub)
    case p1_27 => exact (ev aa rfl)
    case p1_28 => exact (ev aa rfl)
    case p1_29 => exact (bD aa rfl rfl rfl rfl rfl (Int.natCast_nonneg _) (show y + 1 < l.length by omega) rfl)
    refine CC.nil ?_
    refine pu (bD aa rfl rfl rfl rfl rfl (Int.natCast_nonneg _) (show y < l.length by omega) rfl) rfl ?_
    refine gX (i := y) aa rfl rfl rfl rfl (bZ _) eb2 rfl rfl (gB (x := el L (y + 1))) ?_
    refine WO.nil (a0 (qs (W.region (pE rfl (pu (bL (ev aa rfl) hsub) rfl ?_)))))
    refine pE rfl (WO.nil (W.aY [0] ⟨(y, eC L (y + 1) y), ?_⟩ ?_ rfl ?_ ⟨rfl, rfl, trivial⟩ ?_ trivial rfl))
    · exact ⟨by omega, by omega, by rw [cV]; exact hL, hU⟩
    · dsimp only; omega
    · repeat' first | exact trivial | refine ⟨rfl, ?_⟩
    repeat' first | exact trivial | refine ⟨congrArg some (ba _ _ _), ?_⟩
   have hxi : x - i = 0 := by simp at h110; omega
   rw [hxi] at hU
   simp only [lW] at hU
   have hg : dB bd (f + 1) l a m b = L := by
    unfold dB
    rw [if_neg e1, if_pos e2, ← hI, hU]
   refine W.exit (aN (aR (aO (qs (W.ret (an (fQ.end aa [] trivial rfl rfl rfl rfl ?_ ?_)))))))
   · rw [hg]; exact iH rfl
   rfl
  have e2 : ¬ b - m = 1 := by simp at h80; omega
  refine W.skip (qs (W.seq ?_))
  have hG : dB bd (f + 1) l a m b = dB bd (f + 1) l a m b := rfl
  conv at hG => rhs; unfold dB
  rw [if_neg e1, if_neg e2] at hG
  dsimp only at hG
  generalize hmid : (a + b) / 2 = mid at hG
  generalize hs0 : (if mid < m then mid + m - b else a) = s0 at hG
  generalize hr0 : (if mid < m then mid else m) = r0 at hG
  have hle : s0 ≤ r0 := by subst hs0 hr0; split <;> omega
  have hs1 : a ≤ s0 := by subst hs0; split <;> omega
  have hr1 : r0 ≤ m ∧ r0 ≤ mid := by subst hr0; split <;> omega
  have hs2 : mid + m ≤ b + s0 := by subst hs0; split <;> omega
  have hlow : ∀ c, s0 ≤ c → c < r0 → m ≤ mid + m - 1 - c ∧ mid + m - 1 - c < b := fun c p1 p2 => by subst hs0 hr0; split at p1 <;> split at p2 <;> omega
  have hhalf := uu (x := a + b)
  rw [hmid] at hhalf
  refine W.region ?_
  iterate 2 refine pE rfl ?_
  refine pu (bL (ev aa rfl) (dV (x := a) (y := b) (by omega))) rfl ?_
  refine pu (bL (ev aa rfl) (tJ (x := a + b) (by omega))) rfl ?_
  refine pu (tY (r := (mid : Int)) rfl rfl (by decide) hhalf (ny (by omega))) rfl ?_
  refine pu (bL (ev aa rfl) (um (x := mid) (by omega))) rfl ?_
  refine pE rfl (WO.nil (qs (W.seq (W.region ?_))))
  iterate 2 refine pE rfl ?_
  refine pu (bL (ev aa rfl) (dV (x := mid) (y := m) (by omega))) rfl ?_
  refine pE rfl (WO.nil (qs (W.seq (W.region ?_))))
  iterate 2 refine pE rfl ?_
  refine WO.nil (qs ?_)
  iterate 2 refine W.seq ?_
  refine W.region ?_
  iterate 3 refine pE rfl ?_
  refine WO.nil (qs (W.tj [(0, .sb 0 l.length cap), (1, .d (.v (.int .i64 ((a : Nat) : Int)))), (2, .d (.v (.int .i64 ((m : Nat) : Int)))), (3, .d (.v (.int .i64 ((b : Nat) : Int)))), (4, .clo 34 []), (18, .d (.v (.int .i64 ((mid : Nat) : Int)))), (19, .d (.v (.int .i64 (((mid + m) : Nat) : Int)))), (20, .d (.v (.int .i64 ((s0 : Nat) : Int)))), (21, .d (.v (.int .i64 ((r0 : Nat) : Int))))] [] [(0, a7 (l.map Pc.c) k)] [] [] 1 ?_ ?_))
  ·
   refine aq rfl (fun h140 => ?_) (fun h140 => ?_)
   ·
    have hq : mid < m := by simp at h140; omega
    rw [if_pos hq] at hs0 hr0
    subst hs0 hr0
    refine W.seq (W.region ?_)
    iterate 2 refine pE rfl ?_
    refine pu (bL (ev aa rfl) (gy (x := mid + m) (y := b) (by omega) (by omega))) rfl ?_
    refine pE rfl (WO.nil (qs (W.region ?_)))
    iterate 2 refine pE rfl ?_
    refine WO.nil (iC [0] rfl ?_ trivial ?_ trivial rfl)
    · repeat' first | exact trivial | refine ⟨rfl, ?_⟩
    repeat' first | exact trivial | refine ⟨congrArg some (ba _ _ _), ?_⟩
   have hq : ¬ mid < m := by simp at h140; omega
   rw [if_neg hq] at hs0 hr0
   subst hs0 hr0
   refine W.seq (W.region ?_)
   iterate 2 refine pE rfl ?_
   refine WO.nil (qs (W.region ?_))
   iterate 2 refine pE rfl ?_
   refine WO.nil (iC [0] rfl ?_ trivial ?_ trivial rfl)
   · repeat' first | exact trivial | refine ⟨rfl, ?_⟩
   repeat' first | exact trivial | refine ⟨congrArg some (ba _ _ _), ?_⟩
  refine qs (W.seq (W.region (pE rfl (pu (bL (ev aa rfl) (gy (x := mid + m) (y := 1) (by omega) (by omega))) rfl ?_))))
  refine pE rfl (WO.nil (qs (W.seq (W.block ?_))))
  refine W.aW (ι := {x : Nat × Nat × Nat // match x with | (g, i, j) => j - i < g ∧ s0 ≤ i ∧ i ≤ j ∧ j ≤ r0 ∧ c8 (fun c => !bd (el l (mid + m - 1 - c)) (el l c)) g i j = c8 (fun c => !bd (el l (mid + m - 1 - c)) (el l c)) (r0 - s0 + 1) s0 r0})
   (fun x => match x.1 with | (g, i, j) => [(0, .sb 0 l.length cap), (20, .d (.v (.int .i64 ((i : Nat) : Int)))), (21, .d (.v (.int .i64 ((j : Nat) : Int))))]) [(1, _), (2, _), (3, _), (4, _), (18, _), (19, _), (22, _)]
   (fun x => match x.1 with | (g, i, j) => [(0, a7 (l.map Pc.c) k)]) [] [] 1 (fun x => match x.1 with | (g, i, j) => j - i)
   [0] ⟨(r0 - s0 + 1, s0, r0), ?_⟩ rfl ?_ ⟨rfl, rfl, rfl, rfl, rfl, rfl, rfl, rfl, rfl, rfl, rfl, rfl, rfl, rfl, trivial⟩ ?_ trivial rfl ?_
  · exact ⟨by omega, Nat.le_refl _, by omega, Nat.le_refl _, rfl⟩
  · repeat' first | exact trivial | refine ⟨rfl, ?_⟩
  · repeat' first | exact trivial | refine ⟨congrArg some (ba _ _ _), ?_⟩
  rintro ⟨⟨g, i, j⟩, hg, hi, hij, hj, hI⟩
  show W _ _ _ _ _ ⟨[(0, .sb 0 l.length cap), (20, .d (.v (.int .i64 ((i : Nat) : Int)))), (21, .d (.v (.int .i64 ((j : Nat) : Int)))), (1, _), (2, _), (3, _), (4, _), (18, _), (19, _), (22, _)], [(0, a7 (l.map Pc.c) k)], [], 1⟩
  obtain ⟨g, rfl⟩ : ∃ q, g = q + 1 := ⟨g - 1, by omega⟩
  rw [mu] at hI
  iterate 2 refine W.seq ?_
  refine W.region ?_
  iterate 3 refine pE rfl ?_
  refine WO.nil (qs (aq rfl (fun h151 => ?_) (fun h151 => ?_)))
  ·
   have hlt : i < j := by simp at h151; omega
   rw [if_pos hlt] at hI
   have hlw := hlow ((i + j) / 2) (by omega) (by omega)
   refine W.skip (qs (W.block (W.seq (W.region ?_))))
   iterate 2 refine pE rfl ?_
   refine pu (bL (ev aa rfl) (dV (x := i) (y := j) (by omega))) rfl ?_
   refine pu (bL (ev aa rfl) (tJ (x := i + j) (by omega))) rfl ?_
   refine pu (tY (r := (((i + j) / 2 : Nat) : Int)) rfl rfl (by decide) uu (ny (by omega))) rfl ?_
   refine pu (bL (ev aa rfl) (um (x := (i + j) / 2) (by omega))) rfl ?_
   refine pE rfl (WO.nil (qs (W.seq (W.bE aa (by kernel_rfl) ?_))))
   iterate 4 refine ao (ev aa rfl) rfl ?_
   refine ao (bL (ev aa rfl) (gy (x := mid + m - 1) (y := (i + j) / 2) (by omega) (by omega))) rfl ?_
   refine ao (bD aa rfl rfl rfl rfl rfl (Int.natCast_nonneg _) (show mid + m - 1 - (i + j) / 2 < l.length by omega) rfl) rfl ?_
   refine ao (dP (i := mid + m - 1 - (i + j) / 2) aa rfl rfl rfl rfl (bZ l) (de (by omega))) rfl ?_
   iterate 2 refine ao (ev aa rfl) rfl ?_
   refine ao (bD aa rfl rfl rfl rfl rfl (Int.natCast_nonneg _) (show (i + j) / 2 < l.length by omega) rfl) rfl ?_
   refine ao (dP (i := (i + j) / 2) aa rfl rfl rfl rfl (bZ l) (de (by omega))) rfl ?_
   refine ao (ae rfl rfl rfl (jJ (el l (mid + m - 1 - (i + j) / 2)) (el l ((i + j) / 2))) rfl) rfl ?_
   iterate 2 refine ao (ev aa rfl) rfl ?_
   refine CH.nil ?_
   refine qs (aq rfl (fun h171 => ?_) (fun h171 => ?_))
   ·
    have hbr : (!bd (el l (mid + m - 1 - (i + j) / 2)) (el l ((i + j) / 2))) = true := h171
    rw [if_pos hbr] at hI
    refine W.region (pE rfl (pu (bL (ev aa rfl) (dV (x := (i + j) / 2) (y := 1) (by omega))) rfl ?_))
    refine pE rfl (WO.nil (a0 ?_))
    (have _hb : (!bd (el l (mid + m - 1 - (i + j) / 2)) (el l ((i + j) / 2))) = true := hbr; refine W.aY [0] ⟨(g, (i + j) / 2 + 1, j), ?_⟩ ?_ rfl ?_ ⟨rfl, rfl, rfl, rfl, rfl, rfl, rfl, rfl, rfl, rfl, rfl, rfl, rfl, rfl, trivial⟩ ?_ trivial rfl)
    · exact ⟨by omega, by omega, by omega, by omega, hI⟩
    · dsimp only; omega
    · repeat' first | exact trivial | refine ⟨rfl, ?_⟩
    repeat' first | exact trivial | refine ⟨congrArg some (ba _ _ _), ?_⟩
   have hbr : (!bd (el l (mid + m - 1 - (i + j) / 2)) (el l ((i + j) / 2))) = false := h171
   rw [if_neg (by rw [hbr]; decide)] at hI
   refine W.region ?_
   iterate 2 refine pE rfl ?_
   refine WO.nil (a0 ?_)
   (have _hb : (!bd (el l (mid + m - 1 - (i + j) / 2)) (el l ((i + j) / 2))) = false := hbr; refine W.aY [0] ⟨(g, i, (i + j) / 2), ?_⟩ ?_ rfl ?_ ⟨rfl, rfl, rfl, rfl, rfl, rfl, rfl, rfl, rfl, rfl, rfl, rfl, rfl, rfl, trivial⟩ ?_ trivial rfl)
   · exact ⟨by omega, by omega, by omega, by omega, hI⟩
   · dsimp only; omega
   · repeat' first | exact trivial | refine ⟨rfl, ?_⟩
   repeat' first | exact trivial | refine ⟨congrArg some (ba _ _ _), ?_⟩
  have hlt : ¬ i < j := by simp at h151; omega
  rw [if_neg hlt] at hI
  rw [← hI] at hG
  obtain ⟨e, he⟩ : ∃ e, mid + m - i = e := ⟨_, rfl⟩
  rw [he] at hG
  have hse : m ≤ e := by omega
  have hsb : e ≤ b := by omega
  obtain ⟨l1, hl1⟩ : ∃ x, (if i < m ∧ m < e then fN (m - i + (e - m)) l m (m - i) (e - m) else l) = x := ⟨_, rfl⟩
  rw [hl1] at hG
  have hlen1 : l1.length = l.length := by
   subst hl1
   split
   · exact (iw (lo := 0) (hi := l.length) _ _ _ _ _ (by omega) (by omega) (by omega) (by omega)).len
   rfl
  obtain ⟨l2, hl2⟩ : ∃ x, (if a < i ∧ i < mid then dB bd f l1 a i mid else l1) = x := ⟨_, rfl⟩
  rw [hl2] at hG
  have hlen2 : l2.length = l.length := by
   subst hl2
   split
   · exact (dm bd f l1 a i mid (by omega) (by omega) (by omega)).len.trans hlen1
   exact hlen1
  refine W.exit (aN (aR (aO (qs (W.seq (W.region ?_))))))
  iterate 2 refine pE rfl ?_
  refine pu (bL (ev aa rfl) (y := ((e : Nat) : Int)) (by rw [← he]; exact gy (x := mid + m) (y := i) (by omega) (by omega))) rfl ?_
  refine pE rfl (WO.nil (qs ?_))
  iterate 2 refine W.seq ?_
  apply aI; (case hb => rfl)
  ·
   iterate 4 refine pE rfl ?_
   apply aC; (case hj => rfl); (case hl => rfl)
   ·
    refine ah rfl rfl (pE rfl (ah rfl rfl (pE rfl (ah rfl rfl ?_))))
    iterate 2 refine pE rfl ?_
    refine WO.nil (aA rfl rfl rfl)
   iterate 3 refine ay rfl rfl rfl rfl ?_
   refine pE rfl (WO.nil (aA rfl rfl rfl))
  refine qs (W.tj [(0, .sb 0 l.length cap), (1, .d (.v (.int .i64 ((a : Nat) : Int)))), (2, .d (.v (.int .i64 ((m : Nat) : Int)))), (3, .d (.v (.int .i64 ((b : Nat) : Int)))), (4, .clo 34 []), (18, .d (.v (.int .i64 ((mid : Nat) : Int)))), (20, .d (.v (.int .i64 ((i : Nat) : Int)))), (24, .d (.v (.int .i64 ((e : Nat) : Int))))] [] [(0, a7 (l1.map Pc.c) k)] [] [] 1 ?_ ?_)
  ·
   refine aq rfl (fun h185 => ?_) (fun h185 => ?_)
   ·
    have hq : i < m ∧ m < e := by simp at h185; omega
    rw [if_pos hq] at hl1
    subst hl1
    refine W.region ?_
    iterate 5 refine pE rfl ?_
    refine gM 0 rfl rfl rfl rfl (xI l i m e k cap (m - i + (e - m)) hcap hq.1 hq.2 (by omega) (Nat.le_refl _)) rfl ?_
    refine WO.nil (iC [0] rfl ?_ trivial ?_ trivial rfl)
    · repeat' first | exact trivial | refine ⟨rfl, ?_⟩
    repeat' first | exact trivial | refine ⟨congrArg some (ba _ _ _), ?_⟩
   have hq : ¬ (i < m ∧ m < e) := by simp at h185; omega
   rw [if_neg hq] at hl1
   subst hl1
   refine W.skip (iC [0] rfl ?_ trivial ?_ trivial rfl)
   · repeat' first | exact trivial | refine ⟨rfl, ?_⟩
   repeat' first | exact trivial | refine ⟨congrArg some (ba _ _ _), ?_⟩
  refine qs ?_
  iterate 2 refine W.seq ?_
  apply aI; (case hb => rfl)
  ·
   iterate 4 refine pE rfl ?_
   apply aC; (case hj => rfl); (case hl => rfl)
   ·
    refine ah rfl rfl (pE rfl (ah rfl rfl (pE rfl (ah rfl rfl ?_))))
    iterate 2 refine pE rfl ?_
    refine WO.nil (aA rfl rfl rfl)
   iterate 3 refine ay rfl rfl rfl rfl ?_
   refine pE rfl (WO.nil (aA rfl rfl rfl))
  refine qs (W.tj [(0, .sb 0 l.length cap), (1, .d (.v (.int .i64 ((a : Nat) : Int)))), (2, .d (.v (.int .i64 ((m : Nat) : Int)))), (3, .d (.v (.int .i64 ((b : Nat) : Int)))), (4, .clo 34 []), (18, .d (.v (.int .i64 ((mid : Nat) : Int)))), (20, .d (.v (.int .i64 ((i : Nat) : Int)))), (24, .d (.v (.int .i64 ((e : Nat) : Int))))] [] [(0, a7 (l2.map Pc.c) k)] [] [] 1 ?_ ?_)
  ·
   refine aq rfl (fun h199 => ?_) (fun h199 => ?_)
   ·
    have hq : a < i ∧ i < mid := by simp at h199; omega
    rw [if_pos hq] at hl2
    subst hl2
    have hsl := nn f l1 a i mid k cap (by omega) hq.1 hq.2 (by omega) (by omega)
    rw [hlen1] at hsl
    refine W.region ?_
    iterate 5 refine pE rfl ?_
    refine gM 0 rfl rfl rfl rfl hsl rfl ?_
    refine WO.nil (iC [0] rfl ?_ trivial ?_ trivial rfl)
    · repeat' first | exact trivial | refine ⟨rfl, ?_⟩
    repeat' first | exact trivial | refine ⟨congrArg some (ba _ _ _), ?_⟩
   have hq : ¬ (a < i ∧ i < mid) := by simp at h199; omega
   rw [if_neg hq] at hl2
   subst hl2
   refine W.skip (iC [0] rfl ?_ trivial ?_ trivial rfl)
   · repeat' first | exact trivial | refine ⟨rfl, ?_⟩
   repeat' first | exact trivial | refine ⟨congrArg some (ba _ _ _), ?_⟩
  refine qs (W.seq ?_)
  apply aI; (case hb => rfl)
  ·
   iterate 4 refine pE rfl ?_
   apply aC; (case hj => rfl); (case hl => rfl)
   ·
    refine ah rfl rfl (pE rfl (ah rfl rfl (pE rfl (ah rfl rfl ?_))))
    iterate 2 refine pE rfl ?_
    refine WO.nil (aA rfl rfl rfl)
   iterate 3 refine ay rfl rfl rfl rfl ?_
   refine pE rfl (WO.nil (aA rfl rfl rfl))
  refine qs (aq rfl (fun h213 => ?_) (fun h213 => ?_))
  ·
   have hq : mid < e ∧ e < b := by simp at h213; omega
   rw [if_pos hq] at hG
   have hsl := nn f l2 mid e b k cap (by omega) hq.1 hq.2 (by omega) (by omega)
   rw [hlen2] at hsl
   refine W.region ?_
   iterate 5 refine pE rfl ?_
   refine gM 0 rfl rfl rfl rfl hsl rfl ?_
   refine WO.nil (fQ.end aa [] trivial rfl rfl rfl rfl ?_ ?_)
   · rw [hG]; exact iH rfl
   rfl
  have hq : ¬ (mid < e ∧ e < b) := by simp at h213; omega
  rw [if_neg hq] at hG
  refine W.skip (fQ.end aa [] trivial rfl rfl rfl rfl ?_ ?_)
  · rw [hG]; exact iH rfl
  rfl
end Go.Proofs.Ytjenenllmjlimaa
namespace Go.Proofs.Ytjenenllmjlimaa
open Go.Ab Go.Tb
set_option maxRecDepth 10000
attribute [local irreducible] W WO Pu QS QB QL QF QV bO CH QE
theorem u6 (n g : Nat) (L : List Pc) (a : Nat) : jS bd n (g + 1) L a = if a + 20 ≤ n then jS bd n g (ee bd L a (a + 20)) (a + 20) else ee bd L a n := rfl
theorem uG (n bs g : Nat) (L : List Pc) (a : Nat) : jP bd n bs (g + 1) L a = if a + 2 * bs ≤ n then jP bd n bs g (dB bd n L a (a + bs) (a + 2 * bs)) (a + 2 * bs) else if a + bs < n then dB bd n L a (a + bs) n else L := rfl
theorem qH (n g : Nat) (L : List Pc) (bs : Nat) : kT bd n (g + 1) L bs = if bs < n then kT bd n g (jP bd n bs (n + 1) L 0) (2 * bs) else L := rfl
theorem vf (l : List Pc) (k cap : Nat) (hcap : l.length ≤ 100000) :
  cU Try.prog 45 [.sb 0 l.length cap, .d (.v (.int .i64 (l.length : Int))), .clo 34 []] [a7 (l.map Pc.c) k] 0 (.tup []) [a7 ((cm bd l).map Pc.c) k] 0 := by
 obtain ⟨N, hN⟩ : ∃ N, l.length = N := ⟨_, rfl⟩
 have hS : cm bd l = kT bd N (N + 1) (jS bd N (N + 1) l 0) 20 := by unfold cm; rw [hN]
 rw [hN]
 rw [hN] at hcap
 refine cU.fa aa (n := 63) (rs := []) Try.func45 (by kernel_rfl) rfl Try.ntmps45 Try.results45 rfl rfl fun C hC hG => ?_
 refine W.seq (W.region (pE rfl (WO.nil (qs (W.seq (W.region ?_))))))
 iterate 3 refine pE rfl ?_
 refine WO.nil (qs (W.seq (W.block ?_)))
 refine W.aW (ι := {x : Nat × Nat × List Pc // match x with | (g, a, L) => a ≤ N ∧ N < a + g ∧ L.length = N ∧ jS bd N g L a = jS bd N (N + 1) l 0})
  (fun x => match x.1 with | (g, a, L) => [(0, .sb 0 N cap), (7, .d (.v (.int .i64 ((a : Nat) : Int)))), (8, .d (.v (.int .i64 (((a + 20) : Nat) : Int))))]) [(1, _), (2, _), (6, _)]
  (fun x => match x.1 with | (g, a, L) => [(0, a7 (L.map Pc.c) k)]) [] [] 1 (fun x => match x.1 with | (g, a, L) => N - a)
  [0] ⟨(N + 1, 0, l), ?_⟩ rfl ?_ ⟨rfl, rfl, rfl, rfl, rfl, rfl, trivial⟩ ?_ trivial rfl ?_
 · exact ⟨Nat.zero_le _, by omega, hN, rfl⟩
 · repeat' first | exact trivial | refine ⟨rfl, ?_⟩
 · repeat' first | exact trivial | refine ⟨congrArg some (ba _ _ _), ?_⟩
 rintro ⟨⟨g, a, L⟩, ha, hg, hL, hI⟩
 show W _ _ _ _ _ ⟨[(0, .sb 0 N cap), (7, .d (.v (.int .i64 ((a : Nat) : Int)))), (8, .d (.v (.int .i64 (((a + 20) : Nat) : Int)))), (1, _), (2, _), (6, _)], [(0, a7 (L.map Pc.c) k)], [], 1⟩
 obtain ⟨g, rfl⟩ : ∃ q, g = q + 1 := ⟨g - 1, by omega⟩
 rw [u6] at hI
 iterate 2 refine W.seq ?_
 refine W.region ?_
 iterate 3 refine pE rfl ?_
 refine WO.nil (qs (aq rfl (fun h13 => ?_) (fun h13 => ?_)))
 ·
  have hq : a + 20 ≤ N := by simp at h13; omega
  rw [if_pos hq] at hI
  have hsl := uX L a (a + 20) k cap (by omega) (by omega) (by omega)
  rw [hL] at hsl
  have hlen := (eA bd (l := L) (a := a) (b := a + 20) (by omega)).len.trans hL
  refine W.skip (qs (W.block (W.seq (W.region ?_))))
  iterate 4 refine pE rfl ?_
  refine gM 0 rfl rfl rfl rfl hsl rfl ?_
  refine WO.nil (qs (W.seq (W.region ?_)))
  iterate 2 refine pE rfl ?_
  refine WO.nil (qs (W.region ?_))
  iterate 2 refine pE rfl ?_
  refine pu (bL (ev aa rfl) (dV (x := a + 20) (y := 20) (by omega))) rfl ?_
  refine pE rfl (WO.nil (a0 (W.aY [0] ⟨(g, a + 20, ee bd L a (a + 20)), ?_⟩ ?_ rfl ?_ ⟨rfl, rfl, rfl, rfl, rfl, rfl, trivial⟩ ?_ trivial rfl)))
  · exact ⟨by omega, by omega, hlen, hI⟩
  · dsimp only; omega
  · repeat' first | exact trivial | refine ⟨rfl, ?_⟩
  repeat' first | exact trivial | refine ⟨congrArg some (ba _ _ _), ?_⟩
 have hq : ¬ a + 20 ≤ N := by simp at h13; omega
 rw [if_neg hq] at hI
 have hsl := uX L a N k cap (by omega) (by omega) (by omega)
 rw [hL] at hsl
 have hlen := (eA bd (l := L) (a := a) (b := N) (by omega)).len.trans hL
 obtain ⟨M0, hM0⟩ : ∃ x, ee bd L a N = x := ⟨_, rfl⟩
 rw [hM0] at hsl hlen hI
 rw [← hI] at hS
 refine W.exit (aN (aR (aO (qs (W.seq (W.region ?_))))))
 iterate 4 refine pE rfl ?_
 refine gM 0 rfl rfl rfl rfl hsl rfl ?_
 refine WO.nil (qs (W.block ?_))
 refine W.aW (ι := {x : Nat × Nat × List Pc // match x with | (g1, bs, M) => 0 < bs ∧ bs ≤ 2 * N + 20 ∧ N < bs + g1 ∧ M.length = N ∧ kT bd N g1 M bs = cm bd l})
  (fun x => match x.1 with | (g1, bs, M) => [(0, .sb 0 N cap), (6, .d (.v (.int .i64 ((bs : Nat) : Int))))]) [(1, _), (2, _)]
  (fun x => match x.1 with | (g1, bs, M) => [(0, a7 (M.map Pc.c) k)]) [] [] 1 (fun x => match x.1 with | (g1, bs, M) => N - bs)
  [0] ⟨(N + 1, 20, M0), ?_⟩ rfl ?_ ⟨rfl, rfl, rfl, rfl, trivial⟩ ?_ trivial rfl ?_
 · exact ⟨by omega, by omega, by omega, hlen, hS.symm⟩
 · repeat' first | exact trivial | refine ⟨rfl, ?_⟩
 · repeat' first | exact trivial | refine ⟨congrArg some (ba _ _ _), ?_⟩
 rintro ⟨⟨g1, bs, M⟩, hb0, hb1, hb2, hM, hD⟩
 show W _ _ _ _ _ ⟨[(0, .sb 0 N cap), (6, .d (.v (.int .i64 ((bs : Nat) : Int)))), (1, _), (2, _)], [(0, a7 (M.map Pc.c) k)], [], 1⟩
 iterate 2 refine W.seq ?_
 refine W.region ?_
 iterate 3 refine pE rfl ?_
 refine WO.nil (qs (aq rfl (fun h30 => ?_) (fun h30 => ?_)))
 ·
  have hq1 : bs < N := by simp at h30; omega
  obtain ⟨g1, rfl⟩ : ∃ q, g1 = q + 1 := ⟨g1 - 1, by omega⟩
  rw [qH, if_pos hq1] at hD
  have h2b : IntKind.i64.wrap (2 * (bs : Int)) = ((2 * bs : Nat) : Int) := by rw [wrap64 (by omega)]; omega
  have h2c : IntKind.i64.wrap ((bs : Int) * 2) = ((2 * bs : Nat) : Int) := by rw [wrap64 (by omega)]; omega
  refine W.skip (qs (W.block (W.seq (W.region (pE rfl (pu (bL (ev aa rfl) (y := ((0 + 2 * bs : Nat) : Int)) (by rw [Nat.zero_add]; exact h2b)) rfl ?_))))))
  iterate 2 refine pE rfl ?_
  refine WO.nil (qs (W.seq (W.block ?_)))
  refine W.aW (ι := {x : Nat × Nat × List Pc // match x with | (h, c, T) => c ≤ N ∧ N < c + h ∧ T.length = N ∧ jP bd N bs h T c = jP bd N bs (N + 1) M 0})
   (fun x => match x.1 with | (h, c, T) => [(0, .sb 0 N cap), (7, .d (.v (.int .i64 ((c : Nat) : Int)))), (8, .d (.v (.int .i64 (((c + 2 * bs) : Nat) : Int))))]) [(1, _), (2, _), (6, _)]
   (fun x => match x.1 with | (h, c, T) => [(0, a7 (T.map Pc.c) k)]) [] [] 1 (fun x => match x.1 with | (h, c, T) => N - c)
   [0] ⟨(N + 1, 0, M), ?_⟩ rfl ?_ ⟨rfl, rfl, rfl, rfl, rfl, rfl, trivial⟩ ?_ trivial rfl ?_
  · exact ⟨Nat.zero_le _, by omega, hM, rfl⟩
  · repeat' first | exact trivial | refine ⟨rfl, ?_⟩
  · repeat' first | exact trivial | refine ⟨congrArg some (ba _ _ _), ?_⟩
  rintro ⟨⟨h, c, T⟩, hc, hh, hT, hR⟩
  show W _ _ _ _ _ ⟨[(0, .sb 0 N cap), (7, .d (.v (.int .i64 ((c : Nat) : Int)))), (8, .d (.v (.int .i64 (((c + 2 * bs) : Nat) : Int)))), (1, _), (2, _), (6, _)], [(0, a7 (T.map Pc.c) k)], [], 1⟩
  obtain ⟨h, rfl⟩ : ∃ q, h = q + 1 := ⟨h - 1, by omega⟩
  rw [uG] at hR
  iterate 2 refine W.seq ?_
  refine W.region ?_
  iterate 3 refine pE rfl ?_
  refine WO.nil (qs (aq rfl (fun h35 => ?_) (fun h35 => ?_)))
  ·
   have hq2 : c + 2 * bs ≤ N := by simp at h35; omega
   rw [if_pos hq2] at hR
   have hsl2 := nn N T c (c + bs) (c + 2 * bs) k cap (by omega) (by omega) (by omega) (by omega) (by omega)
   rw [hT] at hsl2
   have hlen2 := (dm bd N T c (c + bs) (c + 2 * bs) (by omega) (by omega) (by omega)).len.trans hT
   refine W.skip (qs (W.block (W.seq (W.region ?_))))
   iterate 4 refine pE rfl ?_
   refine pu (bL (ev aa rfl) (dV (x := c) (y := bs) (by omega))) rfl ?_
   iterate 2 refine pE rfl ?_
   refine gM 0 rfl rfl rfl rfl hsl2 rfl ?_
   refine WO.nil (qs (W.seq (W.region ?_)))
   iterate 2 refine pE rfl ?_
   refine WO.nil (qs (W.region ?_))
   iterate 2 refine pE rfl ?_
   refine pu (bL (ev aa rfl) (y := ((2 * bs : Nat) : Int)) h2b) rfl ?_
   refine pu (bL (ev aa rfl) (dV (x := c + 2 * bs) (y := 2 * bs) (by omega))) rfl ?_
   refine pE rfl (WO.nil (a0 (W.aY [0] ⟨(h, c + 2 * bs, dB bd N T c (c + bs) (c + 2 * bs)), ?_⟩ ?_ rfl ?_ ⟨rfl, rfl, rfl, rfl, rfl, rfl, trivial⟩ ?_ trivial rfl)))
   · exact ⟨by omega, by omega, hlen2, hR⟩
   · dsimp only; omega
   · repeat' first | exact trivial | refine ⟨rfl, ?_⟩
   repeat' first | exact trivial | refine ⟨congrArg some (ba _ _ _), ?_⟩
  have hq2 : ¬ c + 2 * bs ≤ N := by simp at h35; omega
  rw [if_neg hq2] at hR
  refine W.exit (aN (aR (aO (qs ?_))))
  iterate 2 refine W.seq ?_
  refine W.region ?_
  iterate 2 refine pE rfl ?_
  refine pu (bL (ev aa rfl) (dV (x := c) (y := bs) (by omega))) rfl ?_
  refine pE rfl (WO.nil (qs (W.seq (W.region ?_))))
  iterate 3 refine pE rfl ?_
  refine WO.nil (qs (aq rfl (fun h54 => ?_) (fun h54 => ?_)))
  ·
   have hbr : c + bs < N := by simp at h54; omega
   rw [if_pos hbr] at hR
   rw [← hR] at hD
   have hsl3 := nn N T c (c + bs) N k cap (by omega) (by omega) (by omega) (by omega) (by omega)
   rw [hT] at hsl3
   have hlen3 := (dm bd N T c (c + bs) N (by omega) (by omega) (by omega)).len.trans hT
   refine W.region ?_
   iterate 5 refine pE rfl ?_
   refine gM 0 rfl rfl rfl rfl hsl3 rfl ?_
   refine WO.nil (qs (W.region (pE rfl (pu (bL (ev aa rfl) (y := ((2 * bs : Nat) : Int)) h2c) rfl ?_))))
   refine pE rfl (WO.nil (a0 ?_))
   (have _hb : c + bs < N := hbr; refine W.aY [0] ⟨(g1, 2 * bs, dB bd N T c (c + bs) N), ?_⟩ ?_ rfl ?_ ⟨rfl, rfl, rfl, rfl, trivial⟩ ?_ trivial rfl)
   · exact ⟨by omega, by omega, by omega, hlen3, hD⟩
   · dsimp only; omega
   · repeat' first | exact trivial | refine ⟨rfl, ?_⟩
   repeat' first | exact trivial | refine ⟨congrArg some (ba _ _ _), ?_⟩
  have hbr : ¬ c + bs < N := by simp at h54; omega
  rw [if_neg hbr] at hR
  rw [← hR] at hD
  have hlen3 := hT
  refine W.skip (qs (W.region (pE rfl (pu (bL (ev aa rfl) (y := ((2 * bs : Nat) : Int)) h2c) rfl ?_))))
  refine pE rfl (WO.nil (a0 ?_))
  (have _hb : ¬ c + bs < N := hbr; refine W.aY [0] ⟨(g1, 2 * bs, T), ?_⟩ ?_ rfl ?_ ⟨rfl, rfl, rfl, rfl, trivial⟩ ?_ trivial rfl)
  · exact ⟨by omega, by omega, by omega, hlen3, hD⟩
  · dsimp only; omega
  · repeat' first | exact trivial | refine ⟨rfl, ?_⟩
  repeat' first | exact trivial | refine ⟨congrArg some (ba _ _ _), ?_⟩
 have hq1 : ¬ bs < N := by simp at h30; omega
 have hE : cm bd l = M := by
  rw [← hD]
  cases g1 with
  | zero => rfl
  | succ q => rw [qH, if_neg hq1]
 refine W.exit (aN (aR (aO (fQ.end aa [] trivial rfl rfl rfl rfl ?_ ?_))))
 · rw [hE]; exact iH rfl
 rfl
theorem qV (l : List Pc) (k cap : Nat) (hcap : l.length ≤ 100000) :
  cU Try.prog 33 [.sb 0 l.length cap, .clo 34 []] [a7 (l.map Pc.c) k] 0 (.tup []) [a7 ((cm bd l).map Pc.c) k] 0 := by
 refine cU.fa aa (n := 9) (rs := []) Try.func33 (by kernel_rfl) rfl Try.ntmps33 Try.results33 rfl rfl fun C hC hG => ?_
 refine W.region ?_
 iterate 2 refine pE rfl ?_
 refine pu (yn aa rfl rfl rfl) rfl ?_
 refine pE rfl (gM 0 rfl rfl rfl rfl (vf l k cap hcap) rfl ?_)
 refine WO.nil (fQ.end aa [] trivial rfl rfl rfl rfl ?_ ?_)
 · exact iH rfl
 rfl
end Go.Proofs.Ytjenenllmjlimaa
namespace Go.Proofs.Ytjenenllmjlimaa
open Go.Ab Go.Tb
set_option maxRecDepth 10000
attribute [local irreducible] W WO Pu QS QB QL QF QV bO CH QE
theorem pq (a b : bj) (on : List ByteArray) (hon : on.length ≤ 400) : aw Try.prog 8 [.ag a.c, .ag b.c, .d (.sl (on.map sc))]
  (.tup [.ag (eH a b on).1.c, .d (.v (.int .i64 (eH a b on).2))]) 0 := by
 have hcol := jh 7 on [a, b] (by simp) hon
 rw [oX] at hcol
 obtain ⟨CT0, hCT⟩ : ∃ c, fw 7 on a b = c := ⟨_, rfl⟩
 rw [hCT] at hcol
 refine aw.fa aa (n := 148) (rs := [.cell 6 25, .tmp 7]) Try.func8 (by kernel_rfl) rfl Try.ntmps8 Try.results8 rfl fun C hC hG => ?_
 refine W.seq (W.region (bM rfl rfl rfl (bM rfl rfl rfl (a9 aa rfl rfl rfl (pE rfl (WO.nil (qs (W.seq (W.region (pE rfl (pE rfl (pE rfl (pu (aG aa rfl rfl rfl rfl rfl rfl rfl rfl rfl) rfl ?_)))))))))))))
 refine pu (ae rfl rfl rfl hcol rfl) rfl ?_
 iterate 5 refine pE rfl ?_
 refine WO.nil (qs ?_)
 iterate 2 refine W.seq ?_
 refine W.region ?_
 iterate 2 refine pE rfl ?_
 refine WO.nil (qs (aq rfl (fun h36 => ?_) (fun h36 => ?_)))
 ·
  have he : CT0.2 ≠ 0 := by simpa using h36
  have hg : eH a b on = (ff, CT0.2) := by unfold eH; rw [hCT, if_pos he]
  refine W.seq (W.region (pu (build aa rfl rfl rfl rfl) rfl ?_))
  refine pE rfl (aQ aa rfl rfl rfl rfl rfl rfl rfl rfl (pE rfl (WO.nil (qs ?_))))
  try refine cC 2 0 rfl rfl rfl ?_
  try refine cC 2 1 rfl rfl rfl ?_
  try refine cC 1 0 rfl rfl rfl ?_
  try refine cC 1 1 rfl rfl rfl ?_
  refine W.ret (an (QV.ar aa trivial rfl ?_))
  (rw [hg]; rfl)
 have he : CT0.2 = 0 := by simpa using h36
 have hok := wm (.inl rfl) (by rw [hCT]; exact he)
 have hoo := yF hok
 have haz := dw hok.ga
 have hbz := dw hok.gb
 have hol := hok.len
 have hra := fH hok.ga
 have hrb := fH hok.gb
 obtain ⟨o, ho⟩ : ∃ o, xq a b on = o := ⟨_, rfl⟩
 have hgo : eH a b on = (match kB o b.rows a.rows [] with | none => (ff, 7) | some rows => (⟨CT0.1, rows⟩, 0)) := by unfold eH; rw [hCT, if_neg (by simp [he]), ho]; rfl
 have e7 : aZ 7 = [aJ, br] := rfl
 rw [e7] at hok
 have hpl : aw Try.prog 23 [.ag a.c, .d (.sl (on.map sc))] (.d (.sl (o.left.map nc))) 0 := by
  have := dX a on (by omega)
  rw [fA (fun s hs => by obtain ⟨i, j, c, d, h1, _⟩ := hok.ons s hs; exact ⟨i, h1⟩)] at this
  rw [← ho]; exact this
 have hpr : aw Try.prog 23 [.ag b.c, .d (.sl (on.map sc))] (.d (.sl (o.right.map nc))) 0 := by
  have := dX b on (by omega)
  rw [fA (fun s hs => by obtain ⟨i, j, c, d, _, h1, _⟩ := hok.ons s hs; exact ⟨j, h1⟩)] at this
  rw [← ho]; exact this
 have hpm : aw Try.prog 23 [.ag a.c, .d (.sl ([aJ, br].map sc))] (.d (.sl ([o.m0, o.m1].map nc))) 0 := by
  have := dX a [aJ, br] (by simp)
  rw [fA (fun s hs => by obtain ⟨i, c, h1, _⟩ := hok.spa s hs; exact ⟨i, h1⟩)] at this
  rw [← ho]; exact this
 have hpt : aw Try.prog 23 [.ag b.c, .d (.sl ([aJ, br].map sc))] (.d (.sl ([o.t0, o.t1].map nc))) 0 := by
  have := dX b [aJ, br] (by simp)
  rw [fA (fun s hs => by obtain ⟨i, c, h1, _⟩ := hok.spb s hs; exact ⟨i, h1⟩)] at this
  rw [← ho]; exact this
 have hre : aw Try.prog 24 [.ag b.c, .d (.sl ((on ++ [aJ, br]).map sc))] (.d (.sl (o.more.map nc))) 0 := by
  have := sS b (on ++ [aJ, br]) (by omega)
  rw [← ho]; exact this
 rw [ho] at hoo
 have hll : o.left.length ≤ 16 := by rw [← ho]; show (on.map _).length ≤ _; rw [List.length_map]; exact hol
 have hrl : o.right.length ≤ 16 := by rw [← ho]; show (on.map _).length ≤ _; rw [List.length_map]; exact hol
 have hml : o.more.length ≤ 32 := by rw [← ho]; have := ko (on ++ [aJ, br]) b.ab 0; show (dN _ _ _).length ≤ _; omega
 refine W.skip (qs (W.seq (W.bE aa (by kernel_rfl) ?_)))
 refine ao (ev aa rfl) rfl ?_
 refine ao (ev aa rfl) rfl ?_
 refine ao (ae rfl rfl rfl hpl rfl) rfl ?_
 refine ao (ev aa rfl) rfl ?_
 refine ao (ev aa rfl) rfl ?_
 refine ao (ae rfl rfl rfl hpr rfl) rfl ?_
 iterate 2 refine ao (ev aa rfl) rfl ?_
 refine CH.nil ?_
 refine qs (W.seq (W.bE aa (by kernel_rfl) ?_))
 refine ao (ev aa rfl) rfl ?_
 refine ao (aG aa rfl rfl rfl rfl rfl rfl rfl rfl rfl) rfl ?_
 refine ao (ae rfl rfl rfl hpm rfl) rfl ?_
 refine ao (ev aa rfl) rfl ?_
 refine ao (aG aa rfl rfl rfl rfl rfl rfl rfl rfl rfl) rfl ?_
 refine ao (ae rfl rfl rfl hpt rfl) rfl ?_
 iterate 2 refine ao (ev aa rfl) rfl ?_
 refine CH.nil ?_
 refine qs (W.seq ?_)
 refine' W.fB aa [_, _] [[3], [4]] [4, 5] [2, 4] 5 (by kernel_rfl) (by kernel_rfl) rfl rfl ?hL_1
 case' hL_1 => skip
 refine' aT (ev aa rfl) ?p_2 rfl rfl rfl (by kernel_rfl) rfl ?h_2
 case' h_2 => skip
 refine' aT (ev aa rfl) ?p_3 rfl rfl rfl (by kernel_rfl) rfl ?h_3
 case' h_3 => skip
 refine' lX ?x_4 rfl rfl rfl (by kernel_rfl) (fun h => (ak h (by kernel_rfl)).elim) rfl ?h_4
 case x_4 =>
  intro b hb g; cases b
  · exact (ak hb (by kernel_rfl)).elim
  refine fF rfl rfl rfl (qS on (by omega)) (by rfl) rfl rfl ?_
  refine WO.nil ?_
  refine' jB rfl ?_ ?_ ?_ ?_
  all_goals try exact rfl
 case' h_4 => skip
 refine' aT (aG aa rfl rfl rfl rfl rfl rfl rfl rfl rfl) ?p_5 rfl rfl rfl (by kernel_rfl) rfl ?h_5
 case' h_5 => skip
 refine' lX ?x_6 rfl rfl rfl (by kernel_rfl) (fun h => (ak h (by kernel_rfl)).elim) rfl ?h_6
 case x_6 =>
  intro b hb g; cases b
  · exact (ak hb (by kernel_rfl)).elim
  refine fW (fn := sc) (l := on) (l2 := [aJ, br]) aa rfl rfl rfl rfl rfl rfl rfl rfl rfl rfl (fun _ => rfl) (by show (on.length + 2) * 16 ≤ _; omega) ?_
  refine WO.nil ?_
  refine' jB rfl ?_ ?_ ?_ ?_
  all_goals try exact rfl
 case' h_6 => skip
 case p_2 => refine ⟨fun ha => (ak ha (by kernel_rfl)).elim, ?_, fun ha => (ak ha (by kernel_rfl)).elim, ?_, fun ha => (ak ha (by kernel_rfl)).elim, ?_⟩ <;> intro ha <;> first | exact ⟨ev aa rfl, fun h => nomatch h⟩ | exact ⟨cM aa rfl rfl rfl rfl, fun h => nomatch h⟩ | exact ⟨cK aa rfl rfl rfl rfl rfl, fun h => nomatch h⟩ | exact (ak ha (by kernel_rfl)).elim
 case p_3 => refine ⟨fun ha => (ak ha (by kernel_rfl)).elim, ?_, fun ha => (ak ha (by kernel_rfl)).elim, ?_, fun ha => (ak ha (by kernel_rfl)).elim, ?_⟩ <;> intro ha <;> first | exact ⟨ev aa rfl, fun h => nomatch h⟩ | exact (ak ha (by kernel_rfl)).elim
 case p_5 => refine ⟨fun ha => (ak ha (by kernel_rfl)).elim, ?_, fun ha => (ak ha (by kernel_rfl)).elim, ?_, fun ha => (ak ha (by kernel_rfl)).elim, ?_⟩ <;> intro ha <;> first | exact ⟨aG aa rfl rfl rfl rfl rfl rfl rfl rfl rfl, fun h => nomatch h⟩ | exact (ak ha (by kernel_rfl)).elim
 refine CD.nil ?_ rfl
 refine pu (ae rfl rfl rfl hre rfl) rfl ?_
 refine pE rfl (WO.nil (qs (W.seq (W.region (pE rfl (pu (build aa rfl rfl rfl rfl) rfl ?_))))))
 refine a9 aa rfl rfl rfl (aQ aa rfl rfl rfl rfl rfl rfl rfl rfl (WO.nil (qs ?_)))
 iterate 2 refine W.seq ?_
 refine W.region (pE rfl (pE rfl ?_))
 iterate 2 refine pE rfl ?_
 refine WO.nil (qs (W.block (eY 5 1 rfl rfl rfl ?_)))
 refine W.len (t := 60) rfl rfl (fun hlen => ?_)
 try simp only [List.length_map, Ex.aF] at hlen
 refine W.aW (ι := {x : Nat × List (List aD) // match x with | (i, out) => i ≤ a.rows.length ∧ out.length ≤ 20000 ∧ kB o b.rows (a.rows.drop i) out = kB o b.rows a.rows []})
  (fun x => match x.1 with | (i, out) => [(4, .ptr 0 0), (6, .ptr 1 0), (15, .ptr 2 0), (62, .d (.v (.int .i64 ((i : Nat) : Int))))]) [(10, _), (11, _), (12, _), (13, _), (14, _), (60, _), (61, _)]
  (fun x => match x.1 with | (i, out) => [(0, b.c.map A.d), (1, [.d (.v (.slice none 0 0)), .d (.v (.slice none 0 0))]), (2, [.d (.sl (CT0.1.map Col.c)), .own 3 (out.map rc)])]) [] [3] 4 (fun x => match x.1 with | (i, out) => a.rows.length - i)
  [1, 2, 5, 6] ⟨(0, []), ?_⟩ rfl ?_ ⟨rfl, rfl, rfl, rfl, rfl, rfl, rfl, rfl, rfl, rfl, rfl, rfl, rfl, rfl, trivial⟩ ?_ trivial rfl ?_
 · exact ⟨Nat.zero_le _, Nat.zero_le _, rfl⟩
 · repeat' first | exact trivial | refine ⟨rfl, ?_⟩
 · repeat' first | exact trivial | refine ⟨rfl, ?_⟩
 rintro ⟨⟨i, out⟩, hk, hn, hI⟩
 show W _ _ _ _ _ ⟨[(4, .ptr 0 0), (6, .ptr 1 0), (15, .ptr 2 0), (62, .d (.v (.int .i64 ((i : Nat) : Int)))), (10, _), (11, _), (12, _), (13, _), (14, _), (60, _), (61, _)], [(0, b.c.map A.d), (1, [.d (.v (.slice none 0 0)), .d (.v (.slice none 0 0))]), (2, [.d (.sl (CT0.1.map Col.c)), .own 3 (out.map rc)])], [3], 4⟩
 refine W.seq (W.region (pE rfl (WO.nil (qs (W.seq (bg (l := a.rows) (k := i) rfl (by simp [Ex.aF, aK]) hk (fun z hx hd hlt => ?_) (fun he hd => ?_)))))))
 ·
  rw [hd] at hI
  simp only [kB] at hI
  have hxm := List.mem_of_getElem? hx
  have hxl := (hra z hxm).1
  have hsx := nl z o.m0 o.m1 (by rw [hxl]; exact hoo.m0) (by rw [hxl]; exact hoo.m1)
  have hpx := gY z o.left (by omega) (fun q hq => by rw [hxl]; exact hoo.left q hq)
  refine W.skip (qs (W.seq (W.block (W.seq (W.region (pu (indexAddr aa rfl rfl rfl rfl rfl rfl (Int.natCast_nonneg _) (aH hx) rfl) rfl ?_))))))
  refine pE rfl (pE rfl (WO.nil (qs (W.seq (W.region ?_)))))
  iterate 2 refine pE rfl ?_
  refine pu (ae rfl rfl rfl hsx rfl) rfl ?_
  iterate 3 refine pE rfl ?_
  refine a9 aa rfl rfl rfl (aQ aa rfl rfl rfl rfl rfl rfl rfl rfl (pE rfl (WO.nil (qs ?_))))
  iterate 2 refine W.seq ?_
  refine W.region ?_
  iterate 2 refine pE rfl ?_
  refine WO.nil (qs (aq rfl (fun h73 => ?_) (fun h73 => ?_)))
  ·
   have hbr : c7 z o.m0 o.m1 = false := by simpa using h73
   rw [if_neg (by simp [hbr])] at hI
   refine W.exit (aN (aO (qs (W.region ?_))))
   iterate 2 refine pE rfl ?_
   refine WO.nil ?_
   (have _hb : c7 z o.m0 o.m1 = false := hbr; refine W.aY [0, 1, 2, 3] ⟨(i + 1, out), ?_⟩ ?_ rfl ?_ ⟨rfl, rfl, rfl, rfl, rfl, rfl, rfl, rfl, rfl, rfl, rfl, rfl, rfl, rfl, trivial⟩ ?_ trivial rfl)
   · exact ⟨hlt, (by first | exact hn2 | exact hn), hI⟩
   · dsimp only; omega
   · repeat' first | exact trivial | refine ⟨rfl, ?_⟩ | refine ⟨aE (by assumption) (by assumption), ?_⟩
   repeat' first | exact trivial | refine ⟨rfl, ?_⟩
  have hbr : c7 z o.m0 o.m1 = true := by simpa using h73
  rw [if_pos hbr] at hI
  refine W.skip (qs (W.seq (W.region (pE rfl (pE rfl ?_)))))
  iterate 2 refine pE rfl ?_
  refine WO.nil (qs (W.block (W.len (t := 75) rfl rfl (fun hlen => ?_))))
  try simp only [List.length_map, Ex.aF] at hlen
  refine W.aW (ι := {x : Nat × List (List aD) // match x with | (j, out2) => j ≤ b.rows.length ∧ out2.length ≤ 20000 ∧ oe o z (b.rows.drop j) out2 = oe o z b.rows out})
   (fun x => match x.1 with | (j, out2) => [(4, .ptr 0 0), (6, .ptr 1 0), (15, .ptr 2 0), (18, .ptr 4 0), (77, .d (.v (.int .i64 ((j : Nat) : Int))))]) [(10, _), (11, _), (12, _), (13, _), (14, _), (17, _), (60, _), (61, _), (62, _), (75, _), (76, _)]
   (fun x => match x.1 with | (j, out2) => [(0, b.c.map A.d), (1, [.d (.v (.slice none 0 0)), .d (.v (.slice none 0 0))]), (2, [.d (.sl (CT0.1.map Col.c)), .own 3 (out2.map rc)]), (4, [.d (ci (bb z o.m0).n), .d (ci (bb z o.m1).n)])]) [] [3] 5 (fun x => match x.1 with | (j, out2) => b.rows.length - j)
   [0, 1, 2, 3, 4] ⟨(0, out), ?_⟩ rfl ?_ ⟨rfl, rfl, rfl, rfl, rfl, rfl, rfl, rfl, rfl, rfl, rfl, rfl, rfl, rfl, rfl, rfl, rfl, rfl, rfl, rfl, rfl, rfl, trivial⟩ ?_ trivial rfl ?_
  · exact ⟨Nat.zero_le _, hn, rfl⟩
  · repeat' first | exact trivial | refine ⟨rfl, ?_⟩
  · repeat' first | exact trivial | refine ⟨rfl, ?_⟩
  rintro ⟨⟨j, out2⟩, hk, hn2, hJ⟩
  show W _ _ _ _ _ ⟨[(4, .ptr 0 0), (6, .ptr 1 0), (15, .ptr 2 0), (18, .ptr 4 0), (77, .d (.v (.int .i64 ((j : Nat) : Int)))), (10, _), (11, _), (12, _), (13, _), (14, _), (17, _), (60, _), (61, _), (62, _), (75, _), (76, _)], [(0, b.c.map A.d), (1, [.d (.v (.slice none 0 0)), .d (.v (.slice none 0 0))]), (2, [.d (.sl (CT0.1.map Col.c)), .own 3 (out2.map rc)]), (4, [.d (ci (bb z o.m0).n), .d (ci (bb z o.m1).n)])], [3], 5⟩
  refine W.seq (W.region (pE rfl (WO.nil (qs (W.seq (bg (l := b.rows) (k := j) rfl (by simp [Ex.aF, aK]) hk (fun y hx hd hlt => ?_) (fun he hd => ?_)))))))
  ·
   rw [hd] at hJ
   simp only [oe] at hJ
   have hym := List.mem_of_getElem? hx
   have hyl := (hrb y hym).1
   have hsy := nl y o.t0 o.t1 (by rw [hyl]; exact hoo.t0) (by rw [hyl]; exact hoo.t1)
   have hpy := gY y o.right (by omega) (fun q hq => by rw [hyl]; exact hoo.right q hq)
   have hpz := gY y o.more (by omega) (fun q hq => by rw [hyl]; exact hoo.more q hq)
   have hpzl : (bA y o.more).length = o.more.length := List.length_map _
   refine W.skip (qs (W.seq (W.block (W.seq (W.region (pu (indexAddr aa rfl rfl rfl rfl rfl rfl (Int.natCast_nonneg _) (aH hx) rfl) rfl ?_))))))
   refine pE rfl (pE rfl (WO.nil (qs (W.seq (W.region ?_)))))
   iterate 2 refine pE rfl ?_
   refine pu (ae rfl rfl rfl hsy rfl) rfl ?_
   iterate 3 refine pE rfl ?_
   refine a9 aa rfl rfl rfl (aQ aa rfl rfl rfl rfl rfl rfl rfl rfl (pE rfl (WO.nil (qs (W.seq (W.bE aa (by kernel_rfl) ?_))))))
   refine ao (ev aa rfl) rfl ?_
   refine ao (ev aa rfl) rfl ?_
   refine ao (ev aa rfl) rfl ?_
   refine ao (ev aa rfl) rfl ?_
   iterate 2 refine ao (ev aa rfl) rfl ?_
   refine ao (ev aa rfl) rfl ?_
   refine ao (ev aa rfl) rfl ?_
   refine ao (ev aa rfl) rfl ?_
   iterate 3 refine ao (ev aa rfl) rfl ?_
   refine CH.nil ?_
   refine qs ?_
   iterate 2 refine W.seq ?_
   apply aI; (case hb => rfl)
   ·
    iterate 3 refine pE rfl ?_
    apply aC; (case hj => rfl); (case hl => rfl)
    ·
     iterate 3 refine ay rfl rfl rfl rfl ?_
     iterate 2 refine pE rfl ?_
     iterate 8 refine ay rfl rfl rfl rfl ?_
     refine pE rfl (WO.nil (aA rfl rfl rfl))
    refine ah rfl rfl (pE rfl (ah rfl rfl (pE rfl (ah rfl rfl ?_))))
    iterate 3 refine pE rfl ?_
    apply aC; (case hj => rfl); (case hl => rfl)
    ·
     iterate 8 refine ay rfl rfl rfl rfl ?_
     refine pE rfl (WO.nil (aA rfl rfl rfl))
    refine ah rfl rfl (pE rfl (ah rfl rfl (pE rfl (ah rfl rfl (pu (ae rfl rfl rfl hpx rfl) rfl ?_)))))
    refine ah rfl rfl (pE rfl (ah rfl rfl (pE rfl (ah rfl rfl (pu (ae rfl rfl rfl hpy rfl) rfl ?_)))))
    refine ah rfl rfl (pu (ae rfl rfl rfl (r9 (bA z o.left) (bA y o.right)) rfl) rfl ?_)
    refine ah rfl rfl ?_
    iterate 2 refine pE rfl ?_
    refine WO.nil (aA rfl rfl rfl)
   refine qs (aq rfl (fun h113 => ?_) (fun h113 => ?_))
   ·
    have hbr2 : ky o z y = false := by
     unfold ky qQ sJ
     revert h113
     cases c7 y o.t0 o.t1 <;> cases jj (bA z o.left) (bA y o.right) <;> simp
    rw [if_neg (by simp [hbr2])] at hJ
    refine W.exit (aN (aO (qs (W.region ?_))))
    iterate 2 refine pE rfl ?_
    refine WO.nil ?_
    have hbr := hbr2
    (have _hb : ky o z y = false := hbr; refine W.aY [0, 1, 2, 3, 4] ⟨(j + 1, out2), ?_⟩ ?_ rfl ?_ ⟨rfl, rfl, rfl, rfl, rfl, rfl, rfl, rfl, rfl, rfl, rfl, rfl, rfl, rfl, rfl, rfl, rfl, rfl, rfl, rfl, rfl, rfl, trivial⟩ ?_ trivial rfl)
    · exact ⟨hlt, (by first | exact hn2 | (rw [List.length_append]; simp; omega)), hJ⟩
    · dsimp only; omega
    · repeat' first | exact trivial | refine ⟨rfl, ?_⟩ | refine ⟨aE (by assumption) (by assumption), ?_⟩
    repeat' first | exact trivial | refine ⟨rfl, ?_⟩
   have hbr2 : ky o z y = true := by
    unfold ky qQ sJ
    revert h113
    cases c7 y o.t0 o.t1 <;> cases jj (bA z o.left) (bA y o.right) <;> simp
   rw [if_pos hbr2] at hJ
   refine W.skip (qs ?_)
   iterate 2 refine W.seq ?_
   refine W.region (pE rfl (pE rfl ?_))
   iterate 2 refine pE rfl ?_
   refine WO.nil (qs (aq rfl (fun h117 => ?_) (fun h117 => ?_)))
   ·
    have hq : out2.length = 20000 := by simp at h117; omega
    rw [if_pos hq] at hJ
    have hg : eH a b on = (ff, 7) := by
     rw [← hJ] at hI
     rw [hgo, ← hI]
    refine W.seq (W.region (pu (build aa rfl rfl rfl rfl) rfl ?_))
    refine aQ aa rfl rfl rfl rfl rfl rfl rfl rfl (pE rfl (WO.nil (qs ?_)))
    try refine cC 2 0 rfl rfl rfl ?_
    try refine cC 2 1 rfl rfl rfl ?_
    try refine cC 1 0 rfl rfl rfl ?_
    try refine cC 1 1 rfl rfl rfl ?_
    refine W.ret (an (au (an (bw (au (au (an (bw (au (an (QV.ar aa trivial rfl ?_)))))))))))
    (rw [hg]; rfl)
   have hq : ¬ out2.length = 20000 := by simp at h117; omega
   rw [if_neg hq] at hJ
   have hzp : 0 < ((z ++ bA y o.more).map aD.c).length := by rw [List.length_map, List.length_append, hxl]; have := hoo.m0; omega
   have hr0 : ((z ++ bA y o.more).map aD.c)[o.m0]? = some (bb (z ++ bA y o.more) o.m0).c := by
    rw [List.getElem?_map, gk (by rw [List.length_append, hxl]; have := hoo.m0; omega)]; rfl
   have hr1 : ((mH (z ++ bA y o.more) o.m0 (qQ o z y)).map aD.c)[o.m1]? = some (bb (mH (z ++ bA y o.more) o.m0 (qQ o z y)) o.m1).c := by
    rw [List.getElem?_map, gk (by rw [lK, List.length_append, hxl]; have := hoo.m1; omega)]; rfl
   have hl0 := (List.getElem?_eq_some_iff.1 hr0).1
   have hl1 : o.m1 < ((z ++ bA y o.more).map aD.c).length := by have := (List.getElem?_eq_some_iff.1 hr1).1; rw [List.length_map, lK] at this; rw [List.length_map]; exact this
   refine W.skip (qs (W.seq (W.region (pE rfl (jG [] [] rfl rfl rfl rfl rfl ((u4 z (by omega))) rfl rfl (by rfl) (by rfl) rfl rfl rfl rfl ?_)))))
   iterate 2 refine pE rfl ?_
   refine pu (ae rfl rfl rfl hpz rfl) rfl ?_
   refine iL (es2 := (bA y o.more).map aD.c) (r := (z ++ bA y o.more).map aD.c) aa rfl rfl rfl rfl rfl rfl rfl rfl rfl rfl (List.map_append).symm (by rw [← List.map_append]; exact ml _) (by show ((z.map aD.c).length + ((bA y o.more).map aD.c).length) * 32 ≤ _; rw [List.length_map, List.length_map]; omega) rfl ?_
   refine pE rfl (WO.nil (qs (W.seq (xA 26 rfl rfl rfl hzp rfl (fun cap22 k22 => ?_)))))
   apply W.iU aa 13 12; (case hB => kernel_rfl); (case h1 => rfl); (case h2 => rfl)
   refine' bo (ev aa rfl) rfl rfl rfl rfl rfl ?h_7
   case' h_7 => skip
   refine' bo (ev aa rfl) rfl rfl rfl rfl rfl ?h_8
   case' h_8 => skip
   refine' bo (indexAddr (l := nc o.m0) aa rfl rfl rfl rfl rfl rfl (by decide) rfl rfl) rfl rfl rfl rfl rfl ?h_9
   case' h_9 => skip
   refine' bo (ev aa rfl) rfl rfl rfl rfl rfl ?h_10
   case' h_10 => skip
   refine' bR ?p1_11 (ev aa rfl) rfl rfl rfl rfl rfl ?h_11
   case' h_11 => skip
   refine' bR ?p1_12 (ev aa rfl) rfl rfl rfl rfl rfl ?h_12
   case' h_12 => skip
   refine' bR ?p1_13 (indexAddr (l := nc o.m1) aa rfl rfl rfl rfl rfl rfl (by decide) rfl rfl) rfl rfl rfl rfl rfl ?h_13
   case' h_13 => skip
   refine' bo (ev aa rfl) rfl rfl rfl rfl rfl ?h_14
   case' h_14 => skip
   refine' bo (ev aa rfl) rfl rfl rfl rfl rfl ?h_15
   case' h_15 => skip
   refine' bR ?p1_16 (ev aa rfl) rfl rfl rfl rfl rfl ?h_16
   case' h_16 => skip
   refine' bR ?p1_17 (bD aa rfl rfl rfl rfl rfl (Int.natCast_nonneg _) hl0 rfl) rfl rfl rfl rfl rfl ?h_17
   case' h_17 => skip
   refine' bo (ev aa rfl) rfl rfl rfl rfl rfl ?h_18
   case' h_18 => skip
   refine' lM (fun g => ?e_19) rfl rfl ?h_19
   case e_19 =>
    refine ry (i := o.m0) (off := 1) (sz := 3) (cs := [ci (qQ o z y)]) aa rfl rfl rfl rfl rfl (ml _) hr0 (by simp) rfl (by simp) (pe (n := qQ o z y)) ?_
    refine WO.nil ?_
    exact ⟨rfl, rfl⟩
   case' h_19 => skip
   case p1_11 => exact (ev aa rfl)
   case p1_12 => exact (ev aa rfl)
   case p1_13 => exact (indexAddr (l := nc o.m1) aa rfl rfl rfl rfl rfl rfl (by decide) rfl rfl)
   case p1_16 => exact (ev aa rfl)
   case p1_17 => exact (bD aa rfl rfl rfl rfl rfl (Int.natCast_nonneg _) hl0 rfl)
   refine CC.nil ?_
   refine pu (bD aa rfl rfl rfl rfl rfl (Int.natCast_nonneg _) hl1 rfl) rfl ?_
   refine pE rfl (ry (i := o.m1) (off := 1) (sz := 3) (cs := [ci (sJ o z y)]) aa rfl rfl rfl rfl rfl (ml _) hr1 (by simp) rfl (by simp) (pe (n := sJ o z y)) ?_)
   refine WO.nil (qs (rS (sz := 3) 26 rfl rfl rfl (by rw [List.length_map, List.length_map, lK, lK]) (ml _) rfl rfl ?_))
   refine W.region (pE rfl (pE rfl (pE rfl (pu (aG aa rfl rfl rfl rfl rfl rfl rfl rfl rfl) rfl ?_))))
   refine ck (fn := rc) (a := vv o z y) aa rfl rfl rfl rfl rfl rfl rfl rfl rfl rfl (fun _ => rfl) (by show (out2.length + 1) * 24 ≤ _; omega) ?_
   refine pE rfl (aQ aa rfl rfl rfl rfl rfl rfl rfl rfl (WO.nil (a0 (qs (W.region ?_)))))
   iterate 2 refine pE rfl ?_
   refine WO.nil ?_
   have hbr := hbr2
   (have _hb : ky o z y = true := hbr; refine W.aY [0, 1, 2, 9, 4] ⟨(j + 1, out2 ++ [vv o z y]), ?_⟩ ?_ rfl ?_ ⟨rfl, rfl, rfl, rfl, rfl, rfl, rfl, rfl, rfl, rfl, rfl, rfl, rfl, rfl, rfl, rfl, rfl, rfl, rfl, rfl, rfl, rfl, trivial⟩ ?_ trivial rfl)
   · exact ⟨hlt, (by first | exact hn2 | (rw [List.length_append]; simp; omega)), hJ⟩
   · dsimp only; omega
   · repeat' first | exact trivial | refine ⟨rfl, ?_⟩ | refine ⟨aE (by assumption) (by assumption), ?_⟩
   repeat' first | exact trivial | refine ⟨rfl, ?_⟩
  rw [hd] at hJ
  simp only [oe] at hJ
  rw [← hJ] at hI
  dsimp only at hI
  refine W.exit (aN (aR (aO (a0 (qs (W.region ?_))))))
  iterate 2 refine pE rfl ?_
  refine WO.nil ?_
  (have _hb : c7 z o.m0 o.m1 = true := hbr; refine W.aY [0, 1, 2, 3] ⟨(i + 1, out2), ?_⟩ ?_ rfl ?_ ⟨rfl, rfl, rfl, rfl, rfl, rfl, rfl, rfl, rfl, rfl, rfl, rfl, rfl, rfl, trivial⟩ ?_ trivial rfl)
  · exact ⟨hlt, (by first | exact hn2 | exact hn), hI⟩
  · dsimp only; omega
  · repeat' first | exact trivial | refine ⟨rfl, ?_⟩ | refine ⟨aE (by assumption) (by assumption), ?_⟩
  repeat' first | exact trivial | refine ⟨rfl, ?_⟩
 rw [hd] at hI
 simp only [kB] at hI
 have hg : eH a b on = (⟨CT0.1, out⟩, 0) := by rw [hgo, ← hI]
 refine W.exit (aN (aR (aO (qs (W.seq (W.region (pE rfl (aQ aa rfl rfl rfl rfl rfl rfl rfl rfl (pE rfl (WO.nil (qs ?_)))))))))))
 try refine cC 2 0 rfl rfl rfl ?_
 try refine cC 2 1 rfl rfl rfl ?_
 try refine cC 1 0 rfl rfl rfl ?_
 try refine cC 1 1 rfl rfl rfl ?_
 refine W.ret (QV.ar aa trivial rfl ?_)
 (rw [hg]; rfl)
end Go.Proofs.Ytjenenllmjlimaa
namespace Go.Proofs.Ytjenenllmjlimaa
open Go.Ab Go.Tb
set_option maxRecDepth 10000
attribute [local irreducible] W WO Pu QS QB QL QF QV bO CH QE
theorem wW (m : Nat) : List.replicate m (([.int .i64 0, .int .i64 0, .string (B #[])] : List Value).map D.v) = (List.replicate m fg).map aD.c := by
 rw [List.map_replicate]
 rfl
theorem tP (a b : bj) (on : List ByteArray) (hon : on.length ≤ 400) : aw Try.prog 11 [.ag a.c, .ag b.c, .d (.sl (on.map sc))]
  (.tup [.ag (fU a b on).1.c, .d (.v (.int .i64 (fU a b on).2))]) 0 := by
 have hcol := jh 8 on [a, b] (by simp) hon
 rw [oX] at hcol
 obtain ⟨CT0, hCT⟩ : ∃ c, fw 8 on a b = c := ⟨_, rfl⟩
 rw [hCT] at hcol
 refine aw.fa aa (n := 143) (rs := [.cell 6 25, .tmp 7]) Try.func11 (by kernel_rfl) rfl Try.ntmps11 Try.results11 rfl fun C hC hG => ?_
 refine W.seq (W.region (bM rfl rfl rfl (bM rfl rfl rfl (a9 aa rfl rfl rfl (pE rfl (WO.nil (qs (W.seq (W.region (pE rfl (pE rfl (pE rfl (pu (aG aa rfl rfl rfl rfl rfl rfl rfl rfl rfl) rfl ?_)))))))))))))
 refine pu (ae rfl rfl rfl hcol rfl) rfl ?_
 iterate 5 refine pE rfl ?_
 refine WO.nil (qs ?_)
 iterate 2 refine W.seq ?_
 refine W.region ?_
 iterate 2 refine pE rfl ?_
 refine WO.nil (qs (aq rfl (fun h33 => ?_) (fun h33 => ?_)))
 ·
  have he : CT0.2 ≠ 0 := by simpa using h33
  have hg : fU a b on = (ff, CT0.2) := by unfold fU; rw [hCT, if_pos he]
  refine W.seq (W.region (pu (build aa rfl rfl rfl rfl) rfl ?_))
  refine pE rfl (aQ aa rfl rfl rfl rfl rfl rfl rfl rfl (pE rfl (WO.nil (qs ?_))))
  try refine cC 2 0 rfl rfl rfl ?_
  try refine cC 2 1 rfl rfl rfl ?_
  refine W.ret (an (QV.ar aa trivial rfl ?_))
  (rw [hg]; rfl)
 have he : CT0.2 = 0 := by simpa using h33
 have hok := wm (.inr rfl) (by rw [hCT]; exact he)
 have hoo := yA hok
 have haz := dw hok.ga
 have hbz := dw hok.gb
 have hol := hok.len
 have hra := fH hok.ga
 have hrb := fH hok.gb
 obtain ⟨o, ho⟩ : ∃ o, xw a b on = o := ⟨_, rfl⟩
 have hgo : fU a b on = (⟨CT0.1, a.rows.map (jy o b.rows)⟩, 0) := by unfold fU; rw [hCT, if_neg (by simp [he]), ho]
 have e8 : aZ 8 = [aJ] := rfl
 rw [e8] at hok
 have hpl : aw Try.prog 23 [.ag a.c, .d (.sl (on.map sc))] (.d (.sl (o.left.map nc))) 0 := by
  have := dX a on (by omega)
  rw [fA (fun s hs => by obtain ⟨i, j, c, d, h1, _⟩ := hok.ons s hs; exact ⟨i, h1⟩)] at this
  rw [← ho]; exact this
 have hpr : aw Try.prog 23 [.ag b.c, .d (.sl (on.map sc))] (.d (.sl (o.right.map nc))) 0 := by
  have := dX b on (by omega)
  rw [fA (fun s hs => by obtain ⟨i, j, c, d, _, h1, _⟩ := hok.ons s hs; exact ⟨j, h1⟩)] at this
  rw [← ho]; exact this
 have hcm : aw Try.prog 30 [.ag a.c, .d (.v (.string aJ))] (.d (.v (.int .i64 (o.m : Int)))) 0 := by
  have h0 := nf a aJ
  obtain ⟨i, c, h1, _⟩ := hok.spa aJ (by simp)
  have h2 : (a.ab.findIdx? fun x => decide (x.name = aJ)) = some i := h1
  rw [h2] at h0
  have h3 : o.m = i := by rw [← ho]; exact bY h1
  rw [h3]; exact h0
 have hct : aw Try.prog 30 [.ag b.c, .d (.v (.string aJ))] (.d (.v (.int .i64 (o.t : Int)))) 0 := by
  have h0 := nf b aJ
  obtain ⟨i, c, h1, _⟩ := hok.spb aJ (by simp)
  have h2 : (b.ab.findIdx? fun x => decide (x.name = aJ)) = some i := h1
  rw [h2] at h0
  have h3 : o.t = i := by rw [← ho]; exact bY h1
  rw [h3]; exact h0
 have hre : aw Try.prog 24 [.ag b.c, .d (.sl ((on ++ [aJ]).map sc))] (.d (.sl (o.more.map nc))) 0 := by
  have := sS b (on ++ [aJ]) (by omega)
  rw [← ho]; exact this
 rw [ho] at hoo
 have hll : o.left.length ≤ 16 := by rw [← ho]; show (on.map _).length ≤ _; rw [List.length_map]; exact hol
 have hrl : o.right.length ≤ 16 := by rw [← ho]; show (on.map _).length ≤ _; rw [List.length_map]; exact hol
 have hml : o.more.length ≤ 32 := by rw [← ho]; have := ko (on ++ [aJ]) b.ab 0; show (dN _ _ _).length ≤ _; omega
 have hmm : (o.more.map nc).length = o.more.length := List.length_map _
 refine W.skip (qs (W.seq (W.bE aa (by kernel_rfl) ?_)))
 refine ao (ev aa rfl) rfl ?_
 refine ao (ev aa rfl) rfl ?_
 refine ao (ae rfl rfl rfl hpl rfl) rfl ?_
 refine ao (ev aa rfl) rfl ?_
 refine ao (ev aa rfl) rfl ?_
 refine ao (ae rfl rfl rfl hpr rfl) rfl ?_
 iterate 2 refine ao (ev aa rfl) rfl ?_
 refine CH.nil ?_
 refine qs (W.seq (W.bE aa (by kernel_rfl) ?_))
 refine ao (ev aa rfl) rfl ?_
 refine ao (ae rfl rfl rfl hcm rfl) rfl ?_
 refine ao (ev aa rfl) rfl ?_
 refine ao (ae rfl rfl rfl hct rfl) rfl ?_
 iterate 2 refine ao (ev aa rfl) rfl ?_
 refine CH.nil ?_
 refine qs (W.seq ?_)
 refine' W.fB aa [_, _] [[3], [4]] [4, 5] [2, 4] 5 (by kernel_rfl) (by kernel_rfl) rfl rfl ?hL_1
 case' hL_1 => skip
 refine' aT (ev aa rfl) ?p_2 rfl rfl rfl (by kernel_rfl) rfl ?h_2
 case' h_2 => skip
 refine' aT (ev aa rfl) ?p_3 rfl rfl rfl (by kernel_rfl) rfl ?h_3
 case' h_3 => skip
 refine' lX ?x_4 rfl rfl rfl (by kernel_rfl) (fun h => (ak h (by kernel_rfl)).elim) rfl ?h_4
 case x_4 =>
  intro b hb g; cases b
  · exact (ak hb (by kernel_rfl)).elim
  refine fF rfl rfl rfl (qS on (by omega)) (by rfl) rfl rfl ?_
  refine WO.nil ?_
  refine' jB rfl ?_ ?_ ?_ ?_
  all_goals try exact rfl
 case' h_4 => skip
 refine' aT (aG aa rfl rfl rfl rfl rfl rfl rfl rfl rfl) ?p_5 rfl rfl rfl (by kernel_rfl) rfl ?h_5
 case' h_5 => skip
 refine' lX ?x_6 rfl rfl rfl (by kernel_rfl) (fun h => (ak h (by kernel_rfl)).elim) rfl ?h_6
 case x_6 =>
  intro b hb g; cases b
  · exact (ak hb (by kernel_rfl)).elim
  refine ck (fn := sc) (l := on) (a := aJ) aa rfl rfl rfl rfl rfl rfl rfl rfl rfl rfl (fun _ => rfl) (by show (on.length + 1) * 16 ≤ _; omega) ?_
  refine WO.nil ?_
  refine' jB rfl ?_ ?_ ?_ ?_
  all_goals try exact rfl
 case' h_6 => skip
 case p_2 => refine ⟨fun ha => (ak ha (by kernel_rfl)).elim, ?_, fun ha => (ak ha (by kernel_rfl)).elim, ?_, fun ha => (ak ha (by kernel_rfl)).elim, ?_⟩ <;> intro ha <;> first | exact ⟨ev aa rfl, fun h => nomatch h⟩ | exact ⟨cM aa rfl rfl rfl rfl, fun h => nomatch h⟩ | exact ⟨cK aa rfl rfl rfl rfl rfl, fun h => nomatch h⟩ | exact (ak ha (by kernel_rfl)).elim
 case p_3 => refine ⟨fun ha => (ak ha (by kernel_rfl)).elim, ?_, fun ha => (ak ha (by kernel_rfl)).elim, ?_, fun ha => (ak ha (by kernel_rfl)).elim, ?_⟩ <;> intro ha <;> first | exact ⟨ev aa rfl, fun h => nomatch h⟩ | exact (ak ha (by kernel_rfl)).elim
 case p_5 => refine ⟨fun ha => (ak ha (by kernel_rfl)).elim, ?_, fun ha => (ak ha (by kernel_rfl)).elim, ?_, fun ha => (ak ha (by kernel_rfl)).elim, ?_⟩ <;> intro ha <;> first | exact ⟨aG aa rfl rfl rfl rfl rfl rfl rfl rfl rfl, fun h => nomatch h⟩ | exact (ak ha (by kernel_rfl)).elim
 refine CD.nil ?_ rfl
 refine pu (ae rfl rfl rfl hre rfl) rfl ?_
 refine pE rfl (WO.nil (qs (W.seq (W.region (pE rfl (pu (build aa rfl rfl rfl rfl) rfl ?_))))))
 refine a9 aa rfl rfl rfl (aQ aa rfl rfl rfl rfl rfl rfl rfl rfl (WO.nil (qs ?_)))
 iterate 2 refine W.seq ?_
 refine W.region (pE rfl (pE rfl ?_))
 iterate 2 refine pE rfl ?_
 refine WO.nil (qs (W.block (eY 5 1 rfl rfl rfl ?_)))
 refine W.len (t := 55) rfl rfl (fun hlen => ?_)
 try simp only [List.length_map, Ex.aF] at hlen
 refine W.aW (ι := {x : Nat × List (List aD) // match x with | (i, out) => i ≤ a.rows.length ∧ out = (a.rows.take i).map (jy o b.rows)})
  (fun x => match x.1 with | (i, out) => [(4, .ptr 0 0), (6, .ptr 1 0), (15, .ptr 2 0), (57, .d (.v (.int .i64 ((i : Nat) : Int))))]) [(10, _), (11, _), (12, _), (13, _), (14, _), (55, _), (56, _)]
  (fun x => match x.1 with | (i, out) => [(0, b.c.map A.d), (1, [.d (.v (.slice none 0 0)), .d (.v (.slice none 0 0))]), (2, [.d (.sl (CT0.1.map Col.c)), .own 3 (out.map rc)])]) [] [3] 4 (fun x => match x.1 with | (i, out) => a.rows.length - i)
  [1, 2, 5, 6] ⟨(0, []), ?_⟩ rfl ?_ ⟨rfl, rfl, rfl, rfl, rfl, rfl, rfl, rfl, rfl, rfl, rfl, rfl, rfl, rfl, trivial⟩ ?_ trivial rfl ?_
 · exact ⟨Nat.zero_le _, rfl⟩
 · repeat' first | exact trivial | refine ⟨rfl, ?_⟩
 · repeat' first | exact trivial | refine ⟨rfl, ?_⟩
 rintro ⟨⟨i, out⟩, hk, hI⟩
 show W _ _ _ _ _ ⟨[(4, .ptr 0 0), (6, .ptr 1 0), (15, .ptr 2 0), (57, .d (.v (.int .i64 ((i : Nat) : Int)))), (10, _), (11, _), (12, _), (13, _), (14, _), (55, _), (56, _)], [(0, b.c.map A.d), (1, [.d (.v (.slice none 0 0)), .d (.v (.slice none 0 0))]), (2, [.d (.sl (CT0.1.map Col.c)), .own 3 (out.map rc)])], [3], 4⟩
 refine W.seq (W.region (pE rfl (WO.nil (qs (W.seq (bg (l := a.rows) (k := i) rfl (by simp [Ex.aF, aK]) hk (fun z hx hd hlt => ?_) (fun he hd => ?_)))))))
 ·
  have hzx := hx
  have hzlt := hlt
  have hxm := List.mem_of_getElem? hx
  have hxl := (hra z hxm).1
  have hpx := gY z o.left (by omega) (fun q hq => by rw [hxl]; exact hoo.left q hq)
  have hoi : out.length ≤ 20000 := by rw [hI, List.length_map, List.length_take]; omega
  have hzm : (z.map aD.c)[((o.m : Nat) : Int).toNat]? = some (bb z o.m).c := aH (gk (by rw [hxl]; exact hoo.mm))
  refine W.skip (qs (W.seq (W.block (W.seq (W.region (pu (indexAddr aa rfl rfl rfl rfl rfl rfl (Int.natCast_nonneg _) (aH hx) rfl) rfl ?_))))))
  refine pE rfl (pE rfl (WO.nil (qs (W.seq (W.region (pE rfl (WO.nil (qs ?_))))))))
  iterate 2 refine W.seq ?_
  refine W.region (pE rfl (pE rfl ?_))
  iterate 2 refine pE rfl ?_
  refine WO.nil (qs (W.block (W.len (t := 62) rfl rfl (fun hlen => ?_))))
  try simp only [List.length_map, Ex.aF] at hlen
  refine W.aW (ι := {x : Nat × Option Nat // match x with | (j, best) => j ≤ b.rows.length ∧ (∀ i, best = some i → i < b.rows.length) ∧ kx o b.rows z (b.rows.drop j) j best = kx o b.rows z b.rows 0 none})
   (fun x => match x.1 with | (j, best) => [(4, .ptr 0 0), (6, .ptr 1 0), (15, .ptr 2 0), (18, .d (.v (.int .i64 (idx best)))), (64, .d (.v (.int .i64 ((j : Nat) : Int))))]) [(10, _), (11, _), (12, _), (13, _), (14, _), (17, _), (55, _), (56, _), (57, _), (62, _), (63, _)]
   (fun x => match x.1 with | (j, best) => [(0, b.c.map A.d), (1, [.d (.v (.slice none 0 0)), .d (.v (.slice none 0 0))]), (2, [.d (.sl (CT0.1.map Col.c)), .own 3 (out.map rc)])]) [] [3] 4 (fun x => match x.1 with | (j, best) => b.rows.length - j)
   [0, 1, 2, 3] ⟨(0, none), ?_⟩ rfl ?_ ⟨rfl, rfl, rfl, rfl, rfl, rfl, rfl, rfl, rfl, rfl, rfl, rfl, rfl, rfl, rfl, rfl, rfl, rfl, rfl, rfl, rfl, rfl, trivial⟩ ?_ trivial rfl ?_
  · exact ⟨Nat.zero_le _, (fun i h => by cases h), rfl⟩
  · repeat' first | exact trivial | refine ⟨rfl, ?_⟩
  · repeat' first | exact trivial | refine ⟨rfl, ?_⟩
  rintro ⟨⟨j, best⟩, hk, hbl, hJ⟩
  show W _ _ _ _ _ ⟨[(4, .ptr 0 0), (6, .ptr 1 0), (15, .ptr 2 0), (18, .d (.v (.int .i64 (idx best)))), (64, .d (.v (.int .i64 ((j : Nat) : Int)))), (10, _), (11, _), (12, _), (13, _), (14, _), (17, _), (55, _), (56, _), (57, _), (62, _), (63, _)], [(0, b.c.map A.d), (1, [.d (.v (.slice none 0 0)), .d (.v (.slice none 0 0))]), (2, [.d (.sl (CT0.1.map Col.c)), .own 3 (out.map rc)])], [3], 4⟩
  refine W.seq (W.region (pE rfl (WO.nil (qs (W.seq (bg (l := b.rows) (k := j) rfl (by simp [Ex.aF, aK]) hk (fun y hx hd hlt => ?_) (fun he hd => ?_)))))))
  ·
   rw [hd] at hJ
   simp only [kx] at hJ
   have hym := List.mem_of_getElem? hx
   have hyl := (hrb y hym).1
   have hpy := gY y o.right (by omega) (fun q hq => by rw [hyl]; exact hoo.right q hq)
   have hyt : (y.map aD.c)[((o.t : Nat) : Int).toNat]? = some (bb y o.t).c := aH (gk (by rw [hyl]; exact hoo.tt))
   have hbn : ∀ h : decide (idx best < 0) = false, 0 ≤ idx best ∧ (b.rows.map rc)[(idx best).toNat]? = some (rc (fJ b.rows (idx best).toNat)) ∧ ((fJ b.rows (idx best).toNat).map aD.c)[((o.t : Nat) : Int).toNat]? = some (bb (fJ b.rows (idx best).toNat) o.t).c := by
    intro h
    have h0 := of_decide_eq_false h
    cases best with
    | none => exact absurd (by decide) h0
    | some i =>
     have hi := hbl i rfl
     have hr := rT hi
     refine ⟨Int.natCast_nonneg _, aH hr, aH (gk ?_)⟩
     show (o.t : Int).toNat < (fJ b.rows i).length
     rw [(hrb _ (List.mem_of_getElem? hr)).1]
     exact hoo.tt
   refine W.skip (qs (W.seq (W.block (W.seq (W.region (pE rfl (pu (indexAddr aa rfl rfl rfl rfl rfl rfl (Int.natCast_nonneg _) (aH hx) rfl) rfl ?_)))))))
   refine pE rfl ?_
   iterate 2 refine pE rfl ?_
   refine WO.nil (qs (W.seq (W.eW aa 11 2 (by kernel_rfl) rfl rfl ?_)))
   refine aM rfl (ev aa rfl) rfl ?_
   refine aM rfl (ev aa rfl) rfl ?_
   refine aM rfl (indexAddr aa rfl rfl rfl rfl rfl rfl (Int.natCast_nonneg _) hzm rfl) rfl ?_
   refine aM rfl (ev aa rfl) rfl ?_
   refine aM rfl (ev aa rfl) rfl ?_
   refine aM rfl (ev aa rfl) rfl ?_
   refine aM rfl (indexAddr aa rfl rfl rfl rfl rfl rfl (Int.natCast_nonneg _) hyt rfl) rfl ?_
   refine aM rfl (ev aa rfl) rfl ?_
   refine ey 0 rfl rfl rfl rfl rfl rfl ?_
   refine ey 1 rfl rfl rfl rfl rfl rfl ?_
   refine iS 8 0 rfl rfl rfl rfl rfl rfl rfl rfl rfl rfl rfl rfl ?_
   refine CE.nil ?_
   refine aQ aa rfl rfl rfl rfl rfl rfl rfl rfl (WO.nil (qs ?_))
   iterate 2 refine W.seq ?_
   apply aI; (case hb => rfl)
   ·
    refine pE rfl (pE rfl ?_)
    iterate 2 refine pE rfl ?_
    apply eF; (case hj => rfl); (case hl => rfl)
    ·
     intro g80
     iterate 3 refine ay rfl rfl rfl rfl ?_
     iterate 2 refine pE rfl ?_
     iterate 5 refine ay rfl rfl rfl rfl ?_
     iterate 2 refine pE rfl ?_
     iterate 8 refine ay rfl rfl rfl rfl ?_
     refine pE rfl (WO.nil (aA rfl rfl rfl))
    intro g80
    refine ah rfl rfl (pE rfl (ah rfl rfl (pE rfl (ah rfl rfl ?_))))
    iterate 3 refine pE rfl ?_
    apply eF; (case hj => rfl); (case hl => rfl)
    ·
     intro g85
     iterate 5 refine ay rfl rfl rfl rfl ?_
     iterate 2 refine pE rfl ?_
     iterate 8 refine ay rfl rfl rfl rfl ?_
     refine pE rfl (WO.nil (aA rfl rfl rfl))
    intro g85
    refine ah rfl rfl (pE rfl (ah rfl rfl (pE rfl (ah rfl rfl (pE rfl (ah rfl rfl (pE rfl (ah rfl rfl ?_))))))))
    iterate 3 refine pE rfl ?_
    apply eF; (case hj => rfl); (case hl => rfl)
    ·
     intro g92
     iterate 8 refine ay rfl rfl rfl rfl ?_
     refine pE rfl (WO.nil (aA rfl rfl rfl))
    intro g92
    refine ah rfl rfl (pE rfl (ah rfl rfl (pE rfl (ah rfl rfl (pu (ae rfl rfl rfl hpx rfl) rfl ?_)))))
    refine ah rfl rfl (pE rfl (ah rfl rfl (pE rfl (ah rfl rfl (pu (ae rfl rfl rfl hpy rfl) rfl ?_)))))
    refine ah rfl rfl (pu (ae rfl rfl rfl (r9 (bA z o.left) (bA y o.right)) rfl) rfl ?_)
    refine ah rfl rfl ?_
    iterate 2 refine pE rfl ?_
    refine WO.nil (aA rfl rfl rfl)
   refine qs (aq rfl (fun h101 => ?_) (fun h101 => ?_))
   ·
    have hsk : lD o z y = true := by
     revert h101
     unfold lD
     cases decide ((bb z o.m).kind = 0) <;> cases decide ((bb y o.t).kind = 0) <;> cases decide ((bb z o.m).n < (bb y o.t).n) <;> cases jj (bA z o.left) (bA y o.right) <;> simp
    rw [if_pos hsk] at hJ
    have hbr : lD o z y = true ∨ False := .inl hsk
    refine W.exit (aN (aO (qs (W.region ?_))))
    iterate 2 refine pE rfl ?_
    refine WO.nil ?_
    try have hbr := hup
    refine W.aY [0, 1, 2, 3] ⟨(j + 1, best), ?_⟩ ?_ rfl ?_ ⟨rfl, rfl, rfl, rfl, rfl, rfl, rfl, rfl, rfl, rfl, rfl, rfl, rfl, rfl, rfl, rfl, rfl, rfl, rfl, rfl, rfl, rfl, trivial⟩ ?_ trivial rfl
    · exact ⟨hlt, (by first | exact hbl | (intro i h; cases h; exact hlt)), hJ⟩
    · dsimp only; omega
    · repeat' first | exact trivial | refine ⟨rfl, ?_⟩ | refine ⟨aE (by assumption) (by assumption), ?_⟩
    repeat' first | exact trivial | refine ⟨rfl, ?_⟩
   have hsk : lD o z y = false := by
    revert h101
    unfold lD
    cases decide ((bb z o.m).kind = 0) <;> cases decide ((bb y o.t).kind = 0) <;> cases decide ((bb z o.m).n < (bb y o.t).n) <;> cases jj (bA z o.left) (bA y o.right) <;> simp
   rw [if_neg (by simp [hsk])] at hJ
   refine W.skip (qs (W.seq ?_))
   apply iX aa; (case hb => rfl); (case hB => kernel_rfl)
   ·
    iterate 3 refine ao (ev aa rfl) rfl ?_
    apply gV; (case hj => rfl); (case hl => rfl)
    ·
     intro g104
     iterate 12 refine bt rfl rfl rfl rfl ?_
     refine ao (ev aa rfl) rfl ?_
     refine CH.nil ?_
     refine aA rfl rfl rfl
    intro g104
    refine aL rfl rfl (ev aa rfl) rfl ?_
    refine aL rfl rfl (ev aa rfl) rfl ?_
    refine aL rfl rfl (ev aa rfl) rfl ?_
    refine aL rfl rfl (ev aa rfl) rfl ?_
    refine aL rfl rfl (ev aa rfl) rfl ?_
    refine aL rfl rfl (indexAddr aa rfl rfl rfl rfl rfl rfl (hbn g104).1 (hbn g104).2.1 rfl) rfl ?_
    refine aL rfl rfl (ev aa rfl) rfl ?_
    refine aL rfl rfl (ev aa rfl) rfl ?_
    refine aL rfl rfl (indexAddr aa rfl rfl rfl rfl rfl rfl (Int.natCast_nonneg _) (hbn g104).2.2 rfl) rfl ?_
    refine aL rfl rfl (ev aa rfl) rfl ?_
    refine aL rfl rfl (ev aa rfl) rfl ?_
    refine aL rfl rfl (ev aa rfl) rfl ?_
    refine ao (ev aa rfl) rfl ?_
    refine CH.nil ?_
    refine aA rfl rfl rfl
   refine qs (aq rfl (fun h117 => ?_) (fun h117 => ?_))
   ·
    have hup : idx best < 0 ∨ (bb (fJ b.rows (idx best).toNat) o.t).n ≤ (bb y o.t).n := by
     revert h117
     by_cases q : idx best < 0 <;> simp [q]
    rw [if_pos hup] at hJ
    refine W.region ?_
    iterate 2 refine pE rfl ?_
    refine WO.nil (a0 (qs (W.region ?_)))
    iterate 2 refine pE rfl ?_
    refine WO.nil ?_
    try have hbr := hup
    (have _hb : idx best < 0 ∨ (bb (fJ b.rows (idx best).toNat) o.t).n ≤ (bb y o.t).n := hbr; refine W.aY [0, 1, 2, 3] ⟨(j + 1, some j), ?_⟩ ?_ rfl ?_ ⟨rfl, rfl, rfl, rfl, rfl, rfl, rfl, rfl, rfl, rfl, rfl, rfl, rfl, rfl, rfl, rfl, rfl, rfl, rfl, rfl, rfl, rfl, trivial⟩ ?_ trivial rfl)
    · exact ⟨hlt, (by first | exact hbl | (intro i h; cases h; exact hlt)), hJ⟩
    · dsimp only; omega
    · repeat' first | exact trivial | refine ⟨rfl, ?_⟩ | refine ⟨aE (by assumption) (by assumption), ?_⟩
    repeat' first | exact trivial | refine ⟨rfl, ?_⟩
   have hup : ¬ (idx best < 0 ∨ (bb (fJ b.rows (idx best).toNat) o.t).n ≤ (bb y o.t).n) := by
    revert h117
    by_cases q : idx best < 0 <;> simp [q]
   rw [if_neg hup] at hJ
   have hbr : lD o z y = true ∨ False ∨ True := .inr (.inr trivial)
   refine W.skip (a0 (qs (W.region ?_)))
   iterate 2 refine pE rfl ?_
   refine WO.nil ?_
   try have hbr := hup
   refine W.aY [0, 1, 2, 3] ⟨(j + 1, best), ?_⟩ ?_ rfl ?_ ⟨rfl, rfl, rfl, rfl, rfl, rfl, rfl, rfl, rfl, rfl, rfl, rfl, rfl, rfl, rfl, rfl, rfl, rfl, rfl, rfl, rfl, rfl, trivial⟩ ?_ trivial rfl
   · exact ⟨hlt, (by first | exact hbl | (intro i h; cases h; exact hlt)), hJ⟩
   · dsimp only; omega
   · repeat' first | exact trivial | refine ⟨rfl, ?_⟩ | refine ⟨aE (by assumption) (by assumption), ?_⟩
   repeat' first | exact trivial | refine ⟨rfl, ?_⟩
  rw [hd] at hJ
  simp only [kx] at hJ
  refine W.exit (aN (aR (aO (qs (W.seq (W.region ?_))))))
  iterate 2 refine pE rfl ?_
  refine pu (yf (m := (o.more.map nc).length) aa rfl rfl rfl rfl rfl rfl (by rw [hmm]; show (32 : Int) * _ ≤ _; omega) (by rw [hmm]; simp only [maxLen]; omega)) rfl ?_
  refine pE rfl (WO.nil (qs ?_))
  iterate 2 refine W.seq ?_
  refine W.region ?_
  iterate 2 refine pE rfl ?_
  refine WO.nil (qs (aq rfl (fun h124 => ?_) (fun h124 => ?_)))
  ·
   have hbb : 0 ≤ idx best := by simpa using h124
   obtain ⟨q, rfl⟩ : ∃ q, best = some q := by
    cases best with
    | none => exact absurd hbb (by decide)
    | some q => exact ⟨q, rfl⟩
   have hqr := rT (hbl q rfl)
   have hql := (hrb _ (List.mem_of_getElem? hqr)).1
   have hpz := gY (fJ b.rows q) o.more (by omega) (fun r hr => by rw [hql]; exact hoo.more r hr)
   have hfd : vt o b.rows (some q) = bA (fJ b.rows q) o.more := rfl
   have hfl : (bA (fJ b.rows q) o.more).length = o.more.length := List.length_map _
   have hrow : jy o b.rows z = z ++ bA (fJ b.rows q) o.more := by unfold jy; rw [← hJ]; rfl
   refine W.region (pE rfl (pE rfl (pE rfl (pu (indexAddr (l := rc (fJ b.rows q)) aa rfl rfl rfl rfl rfl rfl (Int.natCast_nonneg _) (aH hqr) rfl) rfl ?_))))
   refine pE rfl (pE rfl (pu (ae rfl rfl rfl hpz rfl) rfl ?_))
   refine pE rfl (WO.nil (qs ?_))
   refine' W.fB aa [_, _] [[4, 3], [5, 3], [6, 5]] [5, 6, 7] [3, 5] 7 (by kernel_rfl) (by kernel_rfl) rfl rfl ?hL_7
   case' hL_7 => skip
   refine' aT (ev aa rfl) ?p_8 rfl rfl rfl (by kernel_rfl) rfl ?h_8
   case' h_8 => skip
   refine' aT (ev aa rfl) ?p_9 rfl rfl rfl (by kernel_rfl) rfl ?h_9
   case' h_9 => skip
   refine' aT (ev aa rfl) ?p_10 rfl rfl rfl (by kernel_rfl) rfl ?h_10
   case' h_10 => skip
   refine' lX ?x_11 rfl rfl rfl (by kernel_rfl) (fun h => (ak h (by kernel_rfl)).elim) rfl ?h_11
   case x_11 =>
    intro b hb g; cases b
    · exact (ak hb (by kernel_rfl)).elim
    refine fF rfl rfl rfl (kv z (by omega)) (by rfl) rfl rfl ?_
    refine WO.nil ?_
    refine' jB rfl ?_ ?_ ?_ ?_
    all_goals try exact rfl
   case' h_11 => skip
   refine' aT (ev aa rfl) ?p_12 rfl rfl rfl (by kernel_rfl) rfl ?h_12
   case' h_12 => skip
   refine' lX ?x_13 rfl rfl rfl (by kernel_rfl) (fun h => (ak h (by kernel_rfl)).elim) rfl ?h_13
   case x_13 =>
    intro b hb g; cases b
    · exact (ak hb (by kernel_rfl)).elim
    refine fW (fn := aD.c) (l := z) (l2 := bA (fJ b.rows q) o.more) aa rfl rfl rfl rfl rfl rfl rfl rfl rfl rfl (fun _ => rfl) (by rw [hfl]; show _ * 32 ≤ _; omega) ?_
    refine WO.nil ?_
    refine' jB rfl ?_ ?_ ?_ ?_
    all_goals try exact rfl
   case' h_13 => skip
   case p_8 => refine ⟨fun ha => (ak ha (by kernel_rfl)).elim, ?_, fun ha => (ak ha (by kernel_rfl)).elim, ?_, fun ha => (ak ha (by kernel_rfl)).elim, ?_⟩ <;> intro ha <;> first | exact ⟨ev aa rfl, fun h => nomatch h⟩ | exact (ak ha (by kernel_rfl)).elim
   case p_9 => refine ⟨fun ha => (ak ha (by kernel_rfl)).elim, ?_, fun ha => (ak ha (by kernel_rfl)).elim, ?_, fun ha => (ak ha (by kernel_rfl)).elim, ?_⟩ <;> intro ha <;> first | exact ⟨ev aa rfl, fun h => nomatch h⟩ | exact ⟨cM aa rfl rfl rfl rfl, fun h => nomatch h⟩ | exact ⟨cK aa rfl rfl rfl rfl rfl, fun h => nomatch h⟩ | exact (ak ha (by kernel_rfl)).elim
   case p_10 => refine ⟨fun ha => (ak ha (by kernel_rfl)).elim, ?_, fun ha => (ak ha (by kernel_rfl)).elim, ?_, fun ha => (ak ha (by kernel_rfl)).elim, ?_⟩ <;> intro ha <;> first | exact ⟨ev aa rfl, fun h => nomatch h⟩ | exact (ak ha (by kernel_rfl)).elim
   case p_12 => refine ⟨fun ha => (ak ha (by kernel_rfl)).elim, ?_, fun ha => (ak ha (by kernel_rfl)).elim, ?_, fun ha => (ak ha (by kernel_rfl)).elim, ?_⟩ <;> intro ha <;> first | exact ⟨ev aa rfl, fun h => nomatch h⟩ | exact (ak ha (by kernel_rfl)).elim
   refine' aT (aG aa rfl rfl rfl rfl rfl rfl rfl rfl rfl) ?p_14 rfl rfl rfl (by kernel_rfl) rfl ?h_14
   case' h_14 => skip
   case p_14 => refine ⟨fun ha => (ak ha (by kernel_rfl)).elim, ?_, fun ha => (ak ha (by kernel_rfl)).elim, ?_, fun ha => (ak ha (by kernel_rfl)).elim, ?_⟩ <;> intro ha <;> first | exact ⟨aG aa rfl rfl rfl rfl rfl rfl rfl rfl rfl, fun h => nomatch h⟩ | exact (ak ha (by kernel_rfl)).elim
   refine CD.nil ?_ rfl
   refine ck (fn := rc) (a := jy o b.rows z) aa rfl rfl (by rw [hrow]; rfl) rfl rfl rfl rfl rfl rfl rfl (fun _ => rfl) (by show (out.length + 1) * 24 ≤ _; omega) ?_
   refine pE rfl (aQ aa rfl rfl rfl rfl rfl rfl rfl rfl (WO.nil (a0 (qs (W.region ?_)))))
   iterate 2 refine pE rfl ?_
   refine WO.nil (W.aY [0, 1, 2, 6] ⟨(i + 1, out ++ [jy o b.rows z]), ?_⟩ ?_ rfl ?_ ⟨rfl, rfl, rfl, rfl, rfl, rfl, rfl, rfl, rfl, rfl, rfl, rfl, rfl, rfl, trivial⟩ ?_ trivial rfl)
   · exact ⟨hzlt, by rw [hI, List.take_add_one, hzx]; simp⟩
   · dsimp only; omega
   · repeat' first | exact trivial | refine ⟨rfl, ?_⟩ | refine ⟨aE (by assumption) (by assumption), ?_⟩
   repeat' first | exact trivial | refine ⟨rfl, ?_⟩
  have hbb : best = none := by
   cases best with
   | none => rfl
   | some q => simp [idx] at h124
  subst hbb
  have hfl : (List.replicate o.more.length fg).length = o.more.length := List.length_replicate
  have hrow : jy o b.rows z = z ++ List.replicate o.more.length fg := by unfold jy; rw [← hJ]; rfl
  have hzz : List.replicate (o.more.map nc).length (([.int .i64 0, .int .i64 0, .string (B #[])] : List Value).map D.v) = (List.replicate o.more.length fg).map aD.c := by rw [hmm]; exact wW _
  refine W.skip (qs ?_)
  refine' W.fB aa [_, _] [[4, 3], [5, 3], [6, 5]] [5, 6, 7] [3, 5] 7 (by kernel_rfl) (by kernel_rfl) rfl rfl ?hL_15
  case' hL_15 => skip
  refine' aT (ev aa rfl) ?p_16 rfl rfl rfl (by kernel_rfl) rfl ?h_16
  case' h_16 => skip
  refine' aT (ev aa rfl) ?p_17 rfl rfl rfl (by kernel_rfl) rfl ?h_17
  case' h_17 => skip
  refine' aT (ev aa rfl) ?p_18 rfl rfl rfl (by kernel_rfl) rfl ?h_18
  case' h_18 => skip
  refine' lX ?x_19 rfl rfl rfl (by kernel_rfl) (fun h => (ak h (by kernel_rfl)).elim) rfl ?h_19
  case x_19 =>
   intro b hb g; cases b
   · exact (ak hb (by kernel_rfl)).elim
   refine fF rfl rfl rfl (kv z (by omega)) (by rfl) rfl rfl ?_
   refine WO.nil ?_
   refine' jB rfl ?_ ?_ ?_ ?_
   all_goals try exact rfl
  case' h_19 => skip
  refine' aT (ev aa rfl) ?p_20 rfl rfl rfl (by kernel_rfl) rfl ?h_20
  case' h_20 => skip
  refine' lX ?x_21 rfl rfl rfl (by kernel_rfl) (fun h => (ak h (by kernel_rfl)).elim) rfl ?h_21
  case x_21 =>
   intro b hb g; cases b
   · exact (ak hb (by kernel_rfl)).elim
   refine fW (fn := aD.c) (l := z) (l2 := List.replicate o.more.length fg) aa rfl rfl (by rw [← hzz]; rfl) rfl rfl rfl rfl rfl rfl rfl (fun _ => rfl) (by rw [hfl]; show _ * 32 ≤ _; omega) ?_
   refine WO.nil ?_
   refine' jB rfl ?_ ?_ ?_ ?_
   all_goals try exact rfl
  case' h_21 => skip
  case p_16 => refine ⟨fun ha => (ak ha (by kernel_rfl)).elim, ?_, fun ha => (ak ha (by kernel_rfl)).elim, ?_, fun ha => (ak ha (by kernel_rfl)).elim, ?_⟩ <;> intro ha <;> first | exact ⟨ev aa rfl, fun h => nomatch h⟩ | exact (ak ha (by kernel_rfl)).elim
  case p_17 => refine ⟨fun ha => (ak ha (by kernel_rfl)).elim, ?_, fun ha => (ak ha (by kernel_rfl)).elim, ?_, fun ha => (ak ha (by kernel_rfl)).elim, ?_⟩ <;> intro ha <;> first | exact ⟨ev aa rfl, fun h => nomatch h⟩ | exact ⟨cM aa rfl rfl rfl rfl, fun h => nomatch h⟩ | exact ⟨cK aa rfl rfl rfl rfl rfl, fun h => nomatch h⟩ | exact (ak ha (by kernel_rfl)).elim
  case p_18 => refine ⟨fun ha => (ak ha (by kernel_rfl)).elim, ?_, fun ha => (ak ha (by kernel_rfl)).elim, ?_, fun ha => (ak ha (by kernel_rfl)).elim, ?_⟩ <;> intro ha <;> first | exact ⟨ev aa rfl, fun h => nomatch h⟩ | exact (ak ha (by kernel_rfl)).elim
  case p_20 => refine ⟨fun ha => (ak ha (by kernel_rfl)).elim, ?_, fun ha => (ak ha (by kernel_rfl)).elim, ?_, fun ha => (ak ha (by kernel_rfl)).elim, ?_⟩ <;> intro ha <;> first | exact ⟨ev aa rfl, fun h => nomatch h⟩ | exact (ak ha (by kernel_rfl)).elim
  refine' aT (aG aa rfl rfl rfl rfl rfl rfl rfl rfl rfl) ?p_22 rfl rfl rfl (by kernel_rfl) rfl ?h_22
  case' h_22 => skip
  case p_22 => refine ⟨fun ha => (ak ha (by kernel_rfl)).elim, ?_, fun ha => (ak ha (by kernel_rfl)).elim, ?_, fun ha => (ak ha (by kernel_rfl)).elim, ?_⟩ <;> intro ha <;> first | exact ⟨aG aa rfl rfl rfl rfl rfl rfl rfl rfl rfl, fun h => nomatch h⟩ | exact (ak ha (by kernel_rfl)).elim
  refine CD.nil ?_ rfl
  refine ck (fn := rc) (a := jy o b.rows z) aa rfl rfl (by rw [hrow]; rfl) rfl rfl rfl rfl rfl rfl rfl (fun _ => rfl) (by show (out.length + 1) * 24 ≤ _; omega) ?_
  refine pE rfl (aQ aa rfl rfl rfl rfl rfl rfl rfl rfl (WO.nil (a0 (qs (W.region ?_)))))
  iterate 2 refine pE rfl ?_
  refine WO.nil (W.aY [0, 1, 2, 6] ⟨(i + 1, out ++ [jy o b.rows z]), ?_⟩ ?_ rfl ?_ ⟨rfl, rfl, rfl, rfl, rfl, rfl, rfl, rfl, rfl, rfl, rfl, rfl, rfl, rfl, trivial⟩ ?_ trivial rfl)
  · exact ⟨hzlt, by rw [hI, List.take_add_one, hzx]; simp⟩
  · dsimp only; omega
  · repeat' first | exact trivial | refine ⟨rfl, ?_⟩ | refine ⟨aE (by assumption) (by assumption), ?_⟩
  repeat' first | exact trivial | refine ⟨rfl, ?_⟩
 have hfin : out = a.rows.map (jy o b.rows) := by rw [hI, List.take_of_length_le (by have := congrArg List.length hd; simp at this; omega)]
 have hg : fU a b on = (⟨CT0.1, out⟩, 0) := by rw [hgo, hfin]
 refine W.exit (aN (aR (aO (qs (W.seq (W.region (pE rfl (aQ aa rfl rfl rfl rfl rfl rfl rfl rfl (pE rfl (WO.nil (qs ?_)))))))))))
 try refine cC 2 0 rfl rfl rfl ?_
 try refine cC 2 1 rfl rfl rfl ?_
 refine W.ret (QV.ar aa trivial rfl ?_)
 (rw [hg]; rfl)
end Go.Proofs.Ytjenenllmjlimaa
namespace Go.Proofs.Ytjenenllmjlimaa
open Go.Ab Go.Tb
set_option maxRecDepth 10000
attribute [local irreducible] W WO Pu QS QB QL QF QV bO CH QE
theorem w6 : aw Try.prog 64 [.d (.sl []), .d (.v (.int .i64 0)), .d (.v (.int .i64 0)), .clo 34 []] (.tup []) 0 := by
 refine aw.a8 (n := 53) (ts := []) Try.func64 (by kernel_rfl) rfl Try.ntmps64 Try.results64 rfl rfl fun C hC hG => ?_
 refine W.seq (W.region ?_)
 iterate 3 refine pE rfl ?_
 refine WO.nil (qs (W.block ?_))
 refine W.aW (ι := {x : Unit // match x with | u => True})
  (fun x => match x.1 with | u => [(8, .d (.v (.int .i64 1)))]) [(0, _), (1, _), (2, _), (3, _)]
  (fun x => match x.1 with | u => []) [] [] 0 (fun x => match x.1 with | u => 0)
  [] ⟨(), ?_⟩ rfl ?_ ⟨rfl, rfl, rfl, rfl, rfl, rfl, rfl, rfl, trivial⟩ ?_ trivial rfl ?_
 · exact trivial
 · repeat' first | exact trivial | refine ⟨rfl, ?_⟩
 · repeat' exact trivial
 rintro ⟨u, hk, hI⟩
 show W _ _ _ _ _ ⟨[(8, .d (.v (.int .i64 1))), (0, _), (1, _), (2, _), (3, _)], [], [], 0⟩
 iterate 2 refine W.seq ?_
 refine W.region ?_
 iterate 3 refine pE rfl ?_
 refine WO.nil (qs (aq rfl (fun h14 => ?_) (fun h14 => ?_)))
 ·
  exfalso
  simp at h14
 refine W.exit (aN (aR (aO (QF.ar trivial rfl ?_))))
 rfl
theorem tZ : aw Try.prog 45 [.d (.sl []), .d (.v (.int .i64 0)), .clo 34 []] (.tup []) 0 := by
 refine aw.a8 (n := 63) (ts := []) Try.func45 (by kernel_rfl) rfl Try.ntmps45 Try.results45 rfl rfl fun C hC hG => ?_
 refine W.seq (W.region (pE rfl (WO.nil (qs (W.seq (W.region ?_))))))
 iterate 3 refine pE rfl ?_
 refine WO.nil (qs (W.seq (W.block ?_)))
 refine W.aW (ι := {x : Unit // match x with | u => True})
  (fun x => match x.1 with | u => [(7, .d (.v (.int .i64 0))), (8, .d (.v (.int .i64 20)))]) [(0, _), (1, _), (2, _), (6, _)]
  (fun x => match x.1 with | u => []) [] [] 0 (fun x => match x.1 with | u => 0)
  [] ⟨(), ?_⟩ rfl ?_ ⟨rfl, rfl, rfl, rfl, rfl, rfl, rfl, rfl, trivial⟩ ?_ trivial rfl ?_
 · exact trivial
 · repeat' first | exact trivial | refine ⟨rfl, ?_⟩
 · repeat' exact trivial
 rintro ⟨u, hk, hI⟩
 show W _ _ _ _ _ ⟨[(7, .d (.v (.int .i64 0))), (8, .d (.v (.int .i64 20))), (0, _), (1, _), (2, _), (6, _)], [], [], 0⟩
 iterate 2 refine W.seq ?_
 refine W.region ?_
 iterate 3 refine pE rfl ?_
 refine WO.nil (qs (aq rfl (fun h13 => ?_) (fun h13 => ?_)))
 ·
  exfalso
  simp at h13
 refine W.exit (aN (aR (aO (qs (W.seq (W.region ?_))))))
 iterate 4 refine pE rfl ?_
 refine pu (ae rfl rfl rfl w6 rfl) rfl ?_
 refine WO.nil (qs (W.block ?_))
 refine W.aW (ι := {x : Unit // match x with | u => True})
  (fun x => match x.1 with | u => [(6, .d (.v (.int .i64 20)))]) [(0, _), (1, _), (2, _)]
  (fun x => match x.1 with | u => []) [] [] 0 (fun x => match x.1 with | u => 0)
  [] ⟨(), ?_⟩ rfl ?_ ⟨rfl, rfl, rfl, rfl, rfl, rfl, trivial⟩ ?_ trivial rfl ?_
 · exact trivial
 · repeat' first | exact trivial | refine ⟨rfl, ?_⟩
 · repeat' exact trivial
 rintro ⟨u, hk, hI⟩
 show W _ _ _ _ _ ⟨[(6, .d (.v (.int .i64 20))), (0, _), (1, _), (2, _)], [], [], 0⟩
 iterate 2 refine W.seq ?_
 refine W.region ?_
 iterate 3 refine pE rfl ?_
 refine WO.nil (qs (aq rfl (fun h30 => ?_) (fun h30 => ?_)))
 ·
  exfalso
  simp at h30
 refine W.exit (aN (aR (aO (QF.ar trivial rfl ?_))))
 rfl
theorem pJ : aw Try.prog 33 [.d (.sl []), .clo 34 []] (.tup []) 0 := by
 refine aw.a8 (n := 9) (ts := []) Try.func33 (by kernel_rfl) rfl Try.ntmps33 Try.results33 rfl rfl fun C hC hG => ?_
 refine W.region ?_
 iterate 4 refine pE rfl ?_
 refine pu (ae rfl rfl rfl tZ rfl) rfl ?_
 refine WO.nil (QF.ar trivial rfl ?_)
 rfl
theorem hZ (L : List Pc) (p : Pc) : L.map Pc.c ++ [p.c] = (L ++ [p]).map Pc.c := by simp
end Go.Proofs.Ytjenenllmjlimaa
namespace Go.Proofs.Ytjenenllmjlimaa
open Go.Ab Go.Tb
set_option maxRecDepth 10000
attribute [local irreducible] W WO Pu QS QB QL QF QV bO CH QE
theorem rZ (a : bj) (on : List ByteArray) (hon : on.length ≤ 400) (hpos : 0 < (pieces (be a on) (bq a.ab aJ) (bq a.ab br) a.rows).length) : aw Try.prog 12 [.ag a.c, .d (.sl (on.map sc))]
  (.tup [.ag (aX a on).1.c, .d (.v (.int .i64 (aX a on).2))]) 0 := by
 have hcol := jh 9 on [a] (by simp) hon
 rw [o9] at hcol
 obtain ⟨CT0, hCT⟩ : ∃ c, ep 9 on a = c := ⟨_, rfl⟩
 rw [hCT] at hcol
 obtain ⟨m0, hm0⟩ : ∃ i, bq a.ab aJ = i := ⟨_, rfl⟩
 obtain ⟨m1, hm1⟩ : ∃ i, bq a.ab br = i := ⟨_, rfl⟩
 obtain ⟨left, hleft⟩ : ∃ l, be a on = l := ⟨_, rfl⟩
 rw [hm0, hm1, hleft] at hpos
 refine aw.fa aa (n := 150) (rs := [.cell 4 25, .tmp 5]) Try.func12 (by kernel_rfl) rfl Try.ntmps12 Try.results12 rfl fun C hC hG => ?_
 refine W.seq (W.region (bM rfl rfl rfl (a9 aa rfl rfl rfl (pE rfl (WO.nil (qs (W.seq (W.region (pE rfl (pE rfl (pu (aG aa rfl rfl rfl rfl rfl rfl rfl rfl rfl) rfl ?_)))))))))))
 refine pu (ae rfl rfl rfl hcol rfl) rfl ?_
 iterate 5 refine pE rfl ?_
 refine WO.nil (qs ?_)
 iterate 2 refine W.seq ?_
 refine W.region ?_
 iterate 2 refine pE rfl ?_
 refine WO.nil (qs (aq rfl (fun h30 => ?_) (fun h30 => ?_)))
 ·
  have he : CT0.2 ≠ 0 := by simpa using h30
  have hg : aX a on = (ff, CT0.2) := by unfold aX; rw [hCT, if_pos he]
  refine W.seq (W.region (pu (build aa rfl rfl rfl rfl) rfl ?_))
  refine pE rfl (aQ aa rfl rfl rfl rfl rfl rfl rfl rfl (pE rfl (WO.nil (qs ?_))))
  try refine cC 1 0 rfl rfl rfl ?_
  try refine cC 1 1 rfl rfl rfl ?_
  refine W.ret (an (QV.ar aa trivial rfl ?_))
  (rw [hg]; rfl)
 have he : CT0.2 = 0 := by simpa using h30
 have hok := wh (by rw [hCT]; exact he)
 have hoo := xl hok
 have haz := dw hok.ga
 have hol := hok.len
 have hra := fH hok.ga
 obtain ⟨srt, hsrt⟩ : ∃ s, cm bd (pieces left m0 m1 a.rows) = s := ⟨_, rfl⟩
 obtain ⟨J, hJJ⟩ : ∃ s, dn [] srt = s := ⟨_, rfl⟩
 have hgo : aX a on = (⟨CT0.1, J.map c9⟩, 0) := by unfold aX kY; rw [hCT, if_neg (by simp [he]), hleft, hm0, hm1, hsrt, hJJ]
 have hpl : aw Try.prog 23 [.ag a.c, .d (.sl (on.map sc))] (.d (.sl (left.map nc))) 0 := by
  have := dX a on (by omega)
  rw [fA (fun s hs => by obtain ⟨i, c, h1, _⟩ := hok.ons s hs; exact ⟨i, h1⟩)] at this
  rw [← hleft]; exact this
 have hpm : aw Try.prog 23 [.ag a.c, .d (.sl ([aJ, br].map sc))] (.d (.sl ([m0, m1].map nc))) 0 := by
  have := dX a [aJ, br] (by simp)
  rw [fA (fun s hs => by
   rcases List.mem_cons.1 hs with rfl | hs
   · obtain ⟨i, c, h1, _⟩ := hok.fr; exact ⟨i, h1⟩
   rcases List.mem_cons.1 hs with rfl | hs
   · obtain ⟨i, c, h1, _⟩ := hok.to; exact ⟨i, h1⟩
   cases hs)] at this
  rw [← hm0, ← hm1]; exact this
 have hll : left.length ≤ 16 := by rw [← hleft]; show (on.map _).length ≤ _; rw [List.length_map]; exact hol
 rw [show on.map (bq a.ab) = left from hleft, hm0, hm1] at hoo
 refine W.skip (qs (W.seq (W.bE aa (by kernel_rfl) ?_)))
 refine ao (ev aa rfl) rfl ?_
 refine ao (ev aa rfl) rfl ?_
 refine ao (ae rfl rfl rfl hpl rfl) rfl ?_
 refine ao (ev aa rfl) rfl ?_
 refine ao (aG aa rfl rfl rfl rfl rfl rfl rfl rfl rfl) rfl ?_
 refine ao (ae rfl rfl rfl hpm rfl) rfl ?_
 iterate 2 refine ao (ev aa rfl) rfl ?_
 refine CH.nil ?_
 refine qs (W.seq (W.region ?_))
 iterate 2 refine pE rfl ?_
 refine WO.nil (qs ?_)
 iterate 2 refine W.seq ?_
 refine W.region (pE rfl (pE rfl ?_))
 iterate 2 refine pE rfl ?_
 refine WO.nil (qs (W.block (W.nk (d := 10) rfl rfl ?_)))
 refine W.len (t := 40) rfl rfl (fun hlen => ?_)
 try simp only [List.length_map, Ex.aF] at hlen
 refine W.aW (ι := {x : Nat × List Pc // match x with | (i, L) => i ≤ a.rows.length ∧ L.length ≤ i ∧ L ++ pieces left m0 m1 (a.rows.drop i) = pieces left m0 m1 a.rows})
  (fun x => match x.1 with | (i, L) => [(4, .ptr 0 0), (10, .xs 1 (L.map Pc.c)), (42, .d (.v (.int .i64 ((i : Nat) : Int))))]) [(6, _), (8, _), (9, _), (11, _), (40, _), (41, _)]
  (fun x => match x.1 with | (i, L) => [(0, [.d (.v (.slice none 0 0)), .d (.v (.slice none 0 0))])]) [] [1] 2 (fun x => match x.1 with | (i, L) => a.rows.length - i)
  [1, 2] ⟨(0, []), ?_⟩ rfl ?_ ⟨rfl, rfl, rfl, rfl, rfl, rfl, rfl, rfl, rfl, rfl, rfl, rfl, trivial⟩ ?_ trivial rfl ?_
 · exact ⟨Nat.zero_le _, Nat.zero_le _, rfl⟩
 · repeat' first | exact trivial | refine ⟨rfl, ?_⟩
 · repeat' first | exact trivial | refine ⟨rfl, ?_⟩
 rintro ⟨⟨i, L⟩, hk, hn, hI⟩
 show W _ _ _ _ _ ⟨[(4, .ptr 0 0), (10, .xs 1 (L.map Pc.c)), (42, .d (.v (.int .i64 ((i : Nat) : Int)))), (6, _), (8, _), (9, _), (11, _), (40, _), (41, _)], [(0, [.d (.v (.slice none 0 0)), .d (.v (.slice none 0 0))])], [1], 2⟩
 refine W.seq (W.region (pE rfl (WO.nil (qs (W.seq (bg (l := a.rows) (k := i) rfl (by simp [Ex.aF, aK]) hk (fun z hx hd hlt => ?_) (fun he hd => ?_)))))))
 ·
  rw [hd] at hI
  simp only [pieces] at hI
  have hxm := List.mem_of_getElem? hx
  have hxl := (hra z hxm).1
  have hsx := nl z m0 m1 (by rw [hxl]; exact hoo.m0) (by rw [hxl]; exact hoo.m1)
  have hpx := gY z left (by omega) (fun q hq => by rw [hxl]; exact hoo.left q hq)
  refine W.skip (qs (W.seq (W.block (W.seq (W.region (pu (indexAddr aa rfl rfl rfl rfl rfl rfl (Int.natCast_nonneg _) (aH hx) rfl) rfl ?_))))))
  refine pE rfl (pE rfl (WO.nil (qs (W.seq (W.region ?_)))))
  iterate 2 refine pE rfl ?_
  refine pu (ae rfl rfl rfl hsx rfl) rfl ?_
  iterate 3 refine pE rfl ?_
  refine a9 aa rfl rfl rfl (aQ aa rfl rfl rfl rfl rfl rfl rfl rfl (pE rfl (WO.nil (qs (W.seq ?_)))))
  apply aI; (case hb => rfl)
  ·
   iterate 2 refine pE rfl ?_
   apply eF; (case hj => rfl); (case hl => rfl)
   ·
    intro g53
    refine ah rfl rfl (pE rfl (ah rfl rfl (pE rfl (ah rfl rfl ?_))))
    iterate 2 refine pE rfl ?_
    refine WO.nil (aA rfl rfl rfl)
   intro g53
   iterate 3 refine ay rfl rfl rfl rfl ?_
   refine pE rfl (WO.nil (aA rfl rfl rfl))
  refine qs (aq rfl (fun h57 => ?_) (fun h57 => ?_))
  ·
   have hin : cX z m0 m1 = true := by
    revert h57
    unfold cX
    cases c7 z m0 m1 <;> simp
   rw [if_pos hin] at hI
   refine W.fB aa [] [] [] [] 7 (by kernel_rfl) (by kernel_rfl) rfl rfl ?_
   refine' aT (ev aa rfl) ?p_1 rfl rfl rfl (by kernel_rfl) rfl ?h_1
   case' h_1 => skip
   case p_1 => refine ⟨fun ha => (ak ha (by kernel_rfl)).elim, ?_⟩ <;> intro ha <;> first | exact ⟨ev aa rfl, fun h => nomatch h⟩ | exact (ak ha (by kernel_rfl)).elim
   refine' aT (ev aa rfl) ?p_2 rfl rfl rfl (by kernel_rfl) rfl ?h_2
   case' h_2 => skip
   case p_2 => refine ⟨fun ha => (ak ha (by kernel_rfl)).elim, ?_⟩ <;> intro ha <;> first | exact ⟨ev aa rfl, fun h => nomatch h⟩ | exact (ak ha (by kernel_rfl)).elim
   refine' aT (ev aa rfl) ?p_3 rfl rfl rfl (by kernel_rfl) rfl ?h_3
   case' h_3 => skip
   case p_3 => refine ⟨fun ha => (ak ha (by kernel_rfl)).elim, ?_⟩ <;> intro ha <;> first | exact ⟨ev aa rfl, fun h => nomatch h⟩ | exact (ak ha (by kernel_rfl)).elim
   refine' aT (ae rfl rfl rfl hpx rfl) ?p_4 rfl rfl rfl (by kernel_rfl) rfl ?h_4
   case' h_4 => skip
   case p_4 => refine ⟨fun ha => (ak ha (by kernel_rfl)).elim, ?_⟩ <;> intro ha <;> first | exact ⟨ae rfl rfl rfl hpx rfl, fun h => nomatch h⟩ | exact (ak ha (by kernel_rfl)).elim
   refine' aT (ev aa rfl) ?p_5 rfl rfl rfl (by kernel_rfl) rfl ?h_5
   case' h_5 => skip
   case p_5 => refine ⟨fun ha => (ak ha (by kernel_rfl)).elim, ?_⟩ <;> intro ha <;> first | exact ⟨ev aa rfl, fun h => nomatch h⟩ | exact ⟨cM aa rfl rfl rfl rfl, fun h => nomatch h⟩ | exact ⟨cK aa rfl rfl rfl rfl rfl, fun h => nomatch h⟩ | exact (ak ha (by kernel_rfl)).elim
   refine' aT (build aa rfl rfl rfl rfl) ?p_6 rfl rfl rfl (by kernel_rfl) rfl ?h_6
   case' h_6 => skip
   case p_6 => refine ⟨fun ha => (ak ha (by kernel_rfl)).elim, ?_⟩ <;> intro ha <;> first | exact ⟨build aa rfl rfl rfl rfl, fun h => nomatch h⟩ | exact (ak ha (by kernel_rfl)).elim
   refine' aT (aG aa rfl rfl rfl rfl rfl rfl rfl rfl rfl) ?p_7 rfl rfl rfl (by kernel_rfl) rfl ?h_7
   case' h_7 => skip
   case p_7 => refine ⟨fun ha => (ak ha (by kernel_rfl)).elim, ?_⟩ <;> intro ha <;> first | exact ⟨aG aa rfl rfl rfl rfl rfl rfl rfl rfl rfl, fun h => nomatch h⟩ | exact (ak ha (by kernel_rfl)).elim
   refine CD.nil ?_ rfl
   refine iL (es2 := [(ek left m0 m1 z).c]) (r := (L ++ [ek left m0 m1 z]).map Pc.c) aa rfl rfl rfl rfl rfl rfl rfl rfl rfl rfl (hZ _ _) (by rw [hZ]; exact bZ _) (by show ((L.map Pc.c).length + 1) * 40 ≤ _; rw [List.length_map]; omega) rfl ?_
   refine pE rfl (WO.nil (a0 (qs (W.region ?_))))
   iterate 2 refine pE rfl ?_
   refine WO.nil ?_
   have hbr := hin
   (have _hb : cX z m0 m1 = true := hbr; refine W.aY [0, 3] ⟨(i + 1, L ++ [ek left m0 m1 z]), ?_⟩ ?_ rfl ?_ ⟨rfl, rfl, rfl, rfl, rfl, rfl, rfl, rfl, rfl, rfl, rfl, rfl, trivial⟩ ?_ trivial rfl)
   · exact ⟨hlt, (by first | (rw [List.length_append]; simp; omega) | omega), (by first | exact hI | (rw [List.append_assoc]; exact hI))⟩
   · dsimp only; omega
   · repeat' first | exact trivial | refine ⟨rfl, ?_⟩ | refine ⟨aE (by assumption) (by assumption), ?_⟩
   repeat' first | exact trivial | refine ⟨rfl, ?_⟩
  have hin : cX z m0 m1 = false := by
   revert h57
   unfold cX
   cases c7 z m0 m1 <;> simp
  rw [if_neg (by simp [hin])] at hI
  refine W.skip (a0 (qs (W.region ?_)))
  iterate 2 refine pE rfl ?_
  refine WO.nil ?_
  have hbr := hin
  (have _hb : cX z m0 m1 = false := hbr; refine W.aY [0, 1] ⟨(i + 1, L), ?_⟩ ?_ rfl ?_ ⟨rfl, rfl, rfl, rfl, rfl, rfl, rfl, rfl, rfl, rfl, rfl, rfl, trivial⟩ ?_ trivial rfl)
  · exact ⟨hlt, (by first | (rw [List.length_append]; simp; omega) | omega), (by first | exact hI | (rw [List.append_assoc]; exact hI))⟩
  · dsimp only; omega
  · repeat' first | exact trivial | refine ⟨rfl, ?_⟩ | refine ⟨aE (by assumption) (by assumption), ?_⟩
  repeat' first | exact trivial | refine ⟨rfl, ?_⟩
 rw [hd] at hI
 simp only [pieces, List.append_nil] at hI
 rw [← hI] at hpos hsrt
 have hL2 : L.length ≤ 20000 := by omega
 have hst : cm bd L = srt := hsrt
 have hsl0 : srt.length = L.length := by rw [← hst]; exact (du bd L).len
 have hkey : ∀ p ∈ J, p.key.length ≤ 16 := by
  have h1 : ∀ p ∈ srt, p.key.length = left.length := fun p hp => by
   have h2 : p ∈ L := by rw [← hst] at hp; exact (du bd L).perm.mem_iff.1 hp
   rw [hI] at h2
   exact jI left m0 m1 a.rows p h2
  intro p hp
  rw [← hJJ] at hp
  have := kA srt [] h1 (fun p hp => nomatch hp) p hp
  omega
 have hJn : J.length ≤ 20000 := by rw [← hJJ]; have := kH srt []; simp at this; omega
 refine W.exit (aN (aR (aO (qs (W.seq ?_)))))
 have hlp : 0 < (L.map Pc.c).length := by rw [List.length_map]; exact hpos
 refine xA 10 rfl rfl rfl hlp rfl (fun cap13 k13 => ?_)
 have hsl := qV L k13 cap13 (by omega)
 have hll2 : (L.map Pc.c).length = L.length := List.length_map _
 rw [← hll2, hst] at hsl
 refine W.region (pE rfl (gM 2 rfl rfl rfl rfl hsl rfl ?_))
 refine WO.nil (qs ?_)
 iterate 2 refine W.seq ?_
 refine rS (sz := 3) 10 rfl rfl rfl (by rw [List.length_map, List.length_map, hsl0]) (bZ _) rfl rfl ?_
 refine W.region ?_
 iterate 3 refine pE rfl ?_
 refine WO.nil (qs (W.block (W.nk (d := 11) rfl rfl ?_)))
 have hsm : srt.length ≤ maxLen := by simp only [maxLen]; omega
 refine W.aW (ι := {x : Nat × List Pc // match x with | (j, out) => j ≤ srt.length ∧ out.length ≤ j ∧ dn out (srt.drop j) = J})
  (fun x => match x.1 with | (j, out) => [(4, .ptr 0 0), (11, .xs 1 (out.map Pc.c)), (71, .d (.v (.int .i64 ((j : Nat) : Int))))]) [(6, _), (69, _), (70, _)]
  (fun x => match x.1 with | (j, out) => [(0, [.d (.v (.slice none 0 0)), .d (.v (.slice none 0 0))])]) [] [1] 2 (fun x => match x.1 with | (j, out) => srt.length - j)
  [0, 4] ⟨(0, []), ?_⟩ rfl ?_ ⟨rfl, rfl, rfl, rfl, rfl, rfl, trivial⟩ ?_ trivial rfl ?_
 · exact ⟨Nat.zero_le _, Nat.zero_le _, hJJ⟩
 · repeat' first | exact trivial | refine ⟨rfl, ?_⟩
 · repeat' first | exact trivial | refine ⟨rfl, ?_⟩
 rintro ⟨⟨j, out⟩, hk, hn2, hR⟩
 show W _ _ _ _ _ ⟨[(4, .ptr 0 0), (11, .xs 1 (out.map Pc.c)), (71, .d (.v (.int .i64 ((j : Nat) : Int)))), (6, _), (69, _), (70, _)], [(0, [.d (.v (.slice none 0 0)), .d (.v (.slice none 0 0))])], [1], 2⟩
 refine W.seq (W.region (pE rfl (WO.nil (qs (W.seq (bg (l := srt) (k := j) rfl (by simp [Ex.aF, aK]) hk (fun p hx hd hlt => ?_) (fun he hd => ?_)))))))
 ·
  rw [hd] at hR
  simp only [dn] at hR
  have hsub : IntKind.i64.wrap (((out.map Pc.c).length : Int) - 1) = ((out.length : Int) - 1) := by rw [List.length_map, wrap64 (by omega)]
  have hla : ∀ h : decide (0 ≤ (out.length : Int) - 1) = true, 0 < out.length ∧ 0 ≤ (out.length : Int) - 1 ∧ (out.map Pc.c)[((out.length : Int) - 1).toNat]? = some (cz out).c := by
   intro h
   have h0 : 0 < out.length := by simp at h; omega
   refine ⟨h0, by omega, ?_⟩
   rw [show ((out.length : Int) - 1).toNat = out.length - 1 by omega]
   exact de (by omega)
  refine W.skip (qs (W.seq (W.block (W.seq (W.region (pu (indexAddr aa rfl rfl rfl rfl rfl rfl (Int.natCast_nonneg _) (aH hx) rfl) rfl ?_))))))
  refine pE rfl (a9 aa rfl rfl rfl (aQ aa rfl rfl rfl rfl rfl rfl rfl rfl (WO.nil (qs (W.seq (W.region (pE rfl (pu (ua aa rfl rfl rfl rfl) rfl ?_))))))))
  refine pu (bL (ev aa rfl) hsub) rfl ?_
  refine pE rfl (WO.nil (qs (W.seq ?_)))
  apply iX aa; (case hb => rfl); (case hB => kernel_rfl)
  ·
   iterate 3 refine ao (ev aa rfl) rfl ?_
   apply gV; (case hj => rfl); (case hl => rfl)
   ·
    intro g80
    refine aL rfl rfl (ev aa rfl) rfl ?_
    refine aL rfl rfl (ev aa rfl) rfl ?_
    refine aL rfl rfl (fu (l := (cz out).c) aa rfl rfl rfl rfl rfl rfl (hla g80).2.1 (hla g80).2.2 rfl) rfl ?_
    refine aL rfl rfl (dc aa rfl rfl rfl rfl rfl rfl) rfl ?_
    refine aL rfl rfl (jb aa rfl rfl rfl) rfl ?_
    refine aL rfl rfl (ev aa rfl) rfl ?_
    refine aL rfl rfl (ev aa rfl) rfl ?_
    refine aL rfl rfl (ae rfl rfl rfl (mD (cz out).key p.key) rfl) rfl ?_
    iterate 2 refine ao (ev aa rfl) rfl ?_
    apply gV; (case hj => rfl); (case hl => rfl)
    ·
     intro g90
     refine aL rfl rfl (ev aa rfl) rfl ?_
     refine aL rfl rfl (ev aa rfl) rfl ?_
     refine aL rfl rfl (ev aa rfl) rfl ?_
     refine aL rfl rfl (ev aa rfl) rfl ?_
     refine aL rfl rfl (ev aa rfl) rfl ?_
     refine aL rfl rfl (fu (l := (cz out).c) aa rfl rfl rfl rfl rfl rfl (hla g80).2.1 (hla g80).2.2 rfl) rfl ?_
     refine aL rfl rfl (dc aa rfl rfl rfl rfl rfl rfl) rfl ?_
     refine aL rfl rfl (dc aa rfl rfl rfl rfl rfl rfl) rfl ?_
     refine aL rfl rfl (jb aa rfl rfl rfl) rfl ?_
     refine aL rfl rfl (ev aa rfl) rfl ?_
     refine ao (ev aa rfl) rfl ?_
     refine CH.nil ?_
     refine aA rfl rfl rfl
    intro g90
    iterate 10 refine bt rfl rfl rfl rfl ?_
    refine ao (ev aa rfl) rfl ?_
    refine CH.nil ?_
    refine aA rfl rfl rfl
   intro g80
   iterate 8 refine bt rfl rfl rfl rfl ?_
   iterate 2 refine ao (ev aa rfl) rfl ?_
   iterate 10 refine bt rfl rfl rfl rfl ?_
   refine ao (ev aa rfl) rfl ?_
   refine CH.nil ?_
   refine aA rfl rfl rfl
  refine qs (aq rfl (fun h101 => ?_) (fun h101 => ?_))
  ·
   have htp : dp out p = true := by
    revert h101
    unfold dp
    by_cases q : 0 < out.length
    ·
     have q1 : 0 ≤ (out.length : Int) - 1 := by omega
     have q2 : 1 ≤ (out.length : Int) := by omega
     simp [q, q1, q2]
    have q1 : ¬ (0 ≤ (out.length : Int) - 1) := by omega
    have q2 : ¬ (1 ≤ (out.length : Int)) := by omega
    simp [q, q1, q2]
   rw [if_pos htp] at hR
   have h0 : 0 < out.length := by unfold dp at htp; simp at htp; exact htp.1
   have hk0 : 0 ≤ (out.length : Int) - 1 := by omega
   have hat : (out.map Pc.c)[((out.length : Int) - 1).toNat]? = some (cz out).c := by
    rw [show ((out.length : Int) - 1).toNat = out.length - 1 by omega]
    exact de (by omega)
   have hset : (out.map Pc.c).set ((out.length : Int) - 1).toNat (eu (cz out) p).c = (out.set (out.length - 1) (eu (cz out) p)).map Pc.c := by
    rw [show ((out.length : Int) - 1).toNat = out.length - 1 by omega]
    exact gB
   refine W.fB aa [] [] [] [] 12 (by kernel_rfl) (by kernel_rfl) rfl rfl ?_
   refine' aT (ev aa rfl) ?p_8 rfl rfl rfl (by kernel_rfl) rfl ?h_8
   case' h_8 => skip
   case p_8 => refine ⟨fun ha => (ak ha (by kernel_rfl)).elim, ?_⟩ <;> intro ha <;> first | exact ⟨ev aa rfl, fun h => nomatch h⟩ | exact (ak ha (by kernel_rfl)).elim
   refine' aT (ev aa rfl) ?p_9 rfl rfl rfl (by kernel_rfl) rfl ?h_9
   case' h_9 => skip
   case p_9 => refine ⟨fun ha => (ak ha (by kernel_rfl)).elim, ?_⟩ <;> intro ha <;> first | exact ⟨ev aa rfl, fun h => nomatch h⟩ | exact (ak ha (by kernel_rfl)).elim
   refine' aT (ev aa rfl) ?p_10 rfl rfl rfl (by kernel_rfl) rfl ?h_10
   case' h_10 => skip
   case p_10 => refine ⟨fun ha => (ak ha (by kernel_rfl)).elim, ?_⟩ <;> intro ha <;> first | exact ⟨ev aa rfl, fun h => nomatch h⟩ | exact (ak ha (by kernel_rfl)).elim
   refine' aT (ev aa rfl) ?p_11 rfl rfl rfl (by kernel_rfl) rfl ?h_11
   case' h_11 => skip
   case p_11 => refine ⟨fun ha => (ak ha (by kernel_rfl)).elim, ?_⟩ <;> intro ha <;> first | exact ⟨ev aa rfl, fun h => nomatch h⟩ | exact (ak ha (by kernel_rfl)).elim
   refine' aT (fu (l := (cz out).c) aa rfl rfl rfl rfl rfl rfl hk0 hat rfl) ?p_12 rfl rfl rfl (by kernel_rfl) rfl ?h_12
   case' h_12 => skip
   case p_12 => refine ⟨fun ha => (ak ha (by kernel_rfl)).elim, ?_⟩ <;> intro ha <;> first | exact ⟨fu (l := (cz out).c) aa rfl rfl rfl rfl rfl rfl hk0 hat rfl, fun h => nomatch h⟩ | exact (ak ha (by kernel_rfl)).elim
   refine' aT (dc aa rfl rfl rfl rfl rfl rfl) ?p_13 rfl rfl rfl (by kernel_rfl) rfl ?h_13
   case' h_13 => skip
   case p_13 => refine ⟨fun ha => (ak ha (by kernel_rfl)).elim, ?_⟩ <;> intro ha <;> first | exact ⟨dc aa rfl rfl rfl rfl rfl rfl, fun h => nomatch h⟩ | exact (ak ha (by kernel_rfl)).elim
   refine' aT (dc aa rfl rfl rfl rfl rfl rfl) ?p_14 rfl rfl rfl (by kernel_rfl) rfl ?h_14
   case' h_14 => skip
   case p_14 => refine ⟨fun ha => (ak ha (by kernel_rfl)).elim, ?_⟩ <;> intro ha <;> first | exact ⟨dc aa rfl rfl rfl rfl rfl rfl, fun h => nomatch h⟩ | exact (ak ha (by kernel_rfl)).elim
   refine' aT (jb aa rfl rfl rfl) ?p_15 rfl rfl rfl (by kernel_rfl) rfl ?h_15
   case' h_15 => skip
   case p_15 => refine ⟨fun ha => (ak ha (by kernel_rfl)).elim, ?_⟩ <;> intro ha <;> first | exact ⟨jb aa rfl rfl rfl, fun h => nomatch h⟩ | exact (ak ha (by kernel_rfl)).elim
   refine' aT (ev aa rfl) ?p_16 rfl rfl rfl (by kernel_rfl) rfl ?h_16
   case' h_16 => skip
   case p_16 => refine ⟨fun ha => (ak ha (by kernel_rfl)).elim, ?_⟩ <;> intro ha <;> first | exact ⟨ev aa rfl, fun h => nomatch h⟩ | exact (ak ha (by kernel_rfl)).elim
   refine' aT (ev aa rfl) ?p_17 rfl rfl rfl (by kernel_rfl) rfl ?h_17
   case' h_17 => skip
   case p_17 => refine ⟨fun ha => (ak ha (by kernel_rfl)).elim, ?_⟩ <;> intro ha <;> first | exact ⟨ev aa rfl, fun h => nomatch h⟩ | exact (ak ha (by kernel_rfl)).elim
   refine' aT (ev aa rfl) ?p_18 rfl rfl rfl (by kernel_rfl) rfl ?h_18
   case' h_18 => skip
   case p_18 => refine ⟨fun ha => (ak ha (by kernel_rfl)).elim, ?_⟩ <;> intro ha <;> first | exact ⟨ev aa rfl, fun h => nomatch h⟩ | exact ⟨cM aa rfl rfl rfl rfl, fun h => nomatch h⟩ | exact ⟨cK aa rfl rfl rfl rfl rfl, fun h => nomatch h⟩ | exact (ak ha (by kernel_rfl)).elim
   refine' aT (ev aa rfl) ?p_19 rfl rfl rfl (by kernel_rfl) rfl ?h_19
   case' h_19 => skip
   case p_19 => refine ⟨fun ha => (ak ha (by kernel_rfl)).elim, ?_⟩ <;> intro ha <;> first | exact ⟨ev aa rfl, fun h => nomatch h⟩ | exact (ak ha (by kernel_rfl)).elim
   refine CD.nil ?_ rfl
   refine pu (fu (l := (cz out).c) aa rfl rfl rfl rfl rfl rfl hk0 hat rfl) rfl ?_
   refine pu (dc aa rfl rfl rfl rfl rfl rfl) rfl ?_
   refine pu (dc aa rfl rfl rfl rfl rfl rfl) rfl ?_
   refine oM aa 11 rfl rfl rfl rfl hat rfl rfl rfl rfl rfl rfl hset rfl ?_
   refine WO.nil (a0 (qs (W.region ?_)))
   iterate 2 refine pE rfl ?_
   refine WO.nil ?_
   have hbr := htp
   (have _hb : dp out p = true := hbr; refine W.aY [0, 3] ⟨(j + 1, out.set (out.length - 1) (eu (cz out) p)), ?_⟩ ?_ rfl ?_ ⟨rfl, rfl, rfl, rfl, rfl, rfl, trivial⟩ ?_ trivial rfl)
   · exact ⟨hlt, (by first | (rw [List.length_append]; simp; omega) | (rw [List.length_set]; omega)), hR⟩
   · dsimp only; omega
   · repeat' first | exact trivial | refine ⟨rfl, ?_⟩ | refine ⟨aE (by assumption) (by assumption), ?_⟩
   repeat' first | exact trivial | refine ⟨rfl, ?_⟩
  have htp : dp out p = false := by
   revert h101
   unfold dp
   by_cases q : 0 < out.length
   ·
    have q1 : 0 ≤ (out.length : Int) - 1 := by omega
    have q2 : 1 ≤ (out.length : Int) := by omega
    simp [q, q1, q2]
   have q1 : ¬ (0 ≤ (out.length : Int) - 1) := by omega
   have q2 : ¬ (1 ≤ (out.length : Int)) := by omega
   simp [q, q1, q2]
  rw [if_neg (by simp [htp])] at hR
  refine W.region (pE rfl (pE rfl (pu (aG aa rfl rfl rfl rfl rfl rfl rfl rfl rfl) rfl ?_)))
  refine iL (es2 := [p.c]) (r := (out ++ [p]).map Pc.c) aa rfl rfl rfl rfl rfl rfl rfl rfl rfl rfl (hZ _ _) (by rw [hZ]; exact bZ _) (by show ((out.map Pc.c).length + 1) * 40 ≤ _; rw [List.length_map]; omega) rfl ?_
  refine pE rfl (WO.nil (a0 (qs (W.region ?_))))
  iterate 2 refine pE rfl ?_
  refine WO.nil ?_
  have hbr := htp
  (have _hb : dp out p = false := hbr; refine W.aY [0, 3] ⟨(j + 1, out ++ [p]), ?_⟩ ?_ rfl ?_ ⟨rfl, rfl, rfl, rfl, rfl, rfl, trivial⟩ ?_ trivial rfl)
  · exact ⟨hlt, (by first | (rw [List.length_append]; simp; omega) | (rw [List.length_set]; omega)), hR⟩
  · dsimp only; omega
  · repeat' first | exact trivial | refine ⟨rfl, ?_⟩ | refine ⟨aE (by assumption) (by assumption), ?_⟩
  repeat' first | exact trivial | refine ⟨rfl, ?_⟩
 rw [hd] at hR
 simp only [dn] at hR
 refine W.exit (aN (aR (aO (qs (W.seq (qa 11 rfl rfl rfl rfl ?_))))))
 refine ux 11 rfl rfl ?_
 refine W.region (pE rfl (pu (build aa rfl rfl rfl rfl) rfl ?_))
 refine a9 aa rfl rfl rfl (aQ aa rfl rfl rfl rfl rfl rfl rfl rfl (WO.nil (qs ?_)))
 iterate 2 refine W.seq ?_
 refine W.region ?_
 iterate 3 refine pE rfl ?_
 refine WO.nil (qs (W.block (eY 3 1 rfl rfl rfl ?_)))
 refine W.len (t := 124) rfl rfl (fun hlen => ?_)
 try simp only [List.length_map, Ex.aF] at hlen
 refine W.aW (ι := {x : Nat × List (List aD) // match x with | (k, rows) => k ≤ out.length ∧ rows = (out.take k).map c9})
  (fun x => match x.1 with | (k, rows) => [(4, .ptr 0 0), (19, .ptr 1 0), (126, .d (.v (.int .i64 ((k : Nat) : Int))))]) [(124, _), (125, _)]
  (fun x => match x.1 with | (k, rows) => [(0, [.d (.v (.slice none 0 0)), .d (.v (.slice none 0 0))]), (1, [.d (.sl (CT0.1.map Col.c)), .own 2 (rows.map rc)])]) [] [2] 3 (fun x => match x.1 with | (k, rows) => out.length - k)
  [0, 3, 4] ⟨(0, []), ?_⟩ rfl ?_ ⟨rfl, rfl, rfl, rfl, trivial⟩ ?_ trivial rfl ?_
 · exact ⟨Nat.zero_le _, rfl⟩
 · repeat' first | exact trivial | refine ⟨rfl, ?_⟩
 · repeat' first | exact trivial | refine ⟨rfl, ?_⟩
 rintro ⟨⟨k, rows⟩, hk, hW⟩
 show W _ _ _ _ _ ⟨[(4, .ptr 0 0), (19, .ptr 1 0), (126, .d (.v (.int .i64 ((k : Nat) : Int)))), (124, _), (125, _)], [(0, [.d (.v (.slice none 0 0)), .d (.v (.slice none 0 0))]), (1, [.d (.sl (CT0.1.map Col.c)), .own 2 (rows.map rc)])], [2], 3⟩
 refine W.seq (W.region (pE rfl (WO.nil (qs (W.seq (bg (l := out) (k := k) rfl (by simp [Ex.aF, aK]) hk (fun q hx hd hlt => ?_) (fun he hd => ?_)))))))
 ·
  have hq16 : q.key.length ≤ 16 := hkey q (by rw [← hR]; exact List.mem_of_getElem? hx)
  have hrl : rows.length ≤ 20000 := by rw [hW, List.length_map, List.length_take]; rw [← hR] at hJn; omega
  have hrow : q.key ++ [⟨2, q.fr, B #[]⟩, ⟨2, q.to, B #[]⟩] = c9 q := rfl
  refine W.skip (qs (W.seq (W.block (W.seq (W.region (pu (indexAddr aa rfl rfl rfl rfl rfl rfl (Int.natCast_nonneg _) (aH hx) rfl) rfl ?_))))))
  refine pE rfl (a9 aa rfl rfl rfl (aQ aa rfl rfl rfl rfl rfl rfl rfl rfl (WO.nil (qs ?_))))
  refine' W.fB aa [_, _] [[4, 2], [5, 2], [6, 5]] [5, 6, 7] [4, 14] 16 (by kernel_rfl) (by kernel_rfl) rfl rfl ?hL_20
  case' hL_20 => skip
  refine' aT (ev aa rfl) ?p_21 rfl rfl rfl (by kernel_rfl) rfl ?h_21
  case' h_21 => skip
  refine' aT (ev aa rfl) ?p_22 rfl rfl rfl (by kernel_rfl) rfl ?h_22
  case' h_22 => skip
  refine' aT (ev aa rfl) ?p_23 rfl rfl rfl (by kernel_rfl) rfl ?h_23
  case' h_23 => skip
  refine' aT (ev aa rfl) ?p_24 rfl rfl rfl (by kernel_rfl) rfl ?h_24
  case' h_24 => skip
  refine' lX ?x_25 rfl rfl rfl (by kernel_rfl) (fun h => (ak h (by kernel_rfl)).elim) rfl ?h_25
  case x_25 =>
   intro b hb g; cases b
   · exact (ak hb (by kernel_rfl)).elim
   refine fF rfl rfl rfl (kv q.key (by omega)) (by rfl) rfl rfl ?_
   refine WO.nil ?_
   refine' jB rfl ?_ ?_ ?_ ?_
   all_goals try exact rfl
  case' h_25 => skip
  refine' aT (ev aa rfl) ?p_26 rfl rfl rfl (by kernel_rfl) rfl ?h_26
  case' h_26 => skip
  refine' aT (ev aa rfl) ?p_27 rfl rfl rfl (by kernel_rfl) rfl ?h_27
  case' h_27 => skip
  refine' aT (ev aa rfl) ?p_28 rfl rfl rfl (by kernel_rfl) rfl ?h_28
  case' h_28 => skip
  refine' aT (build aa rfl rfl rfl rfl) ?p_29 rfl rfl rfl (by kernel_rfl) rfl ?h_29
  case' h_29 => skip
  refine' aT (ev aa rfl) ?p_30 rfl rfl rfl (by kernel_rfl) rfl ?h_30
  case' h_30 => skip
  refine' aT (ev aa rfl) ?p_31 rfl rfl rfl (by kernel_rfl) rfl ?h_31
  case' h_31 => skip
  refine' aT (ev aa rfl) ?p_32 rfl rfl rfl (by kernel_rfl) rfl ?h_32
  case' h_32 => skip
  refine' aT (build aa rfl rfl rfl rfl) ?p_33 rfl rfl rfl (by kernel_rfl) rfl ?h_33
  case' h_33 => skip
  refine' aT (aG aa rfl rfl rfl rfl rfl rfl rfl rfl rfl) ?p_34 rfl rfl rfl (by kernel_rfl) rfl ?h_34
  case' h_34 => skip
  refine' lX ?x_35 rfl rfl rfl (by kernel_rfl) (fun h => (ak h (by kernel_rfl)).elim) rfl ?h_35
  case x_35 =>
   intro b hb g; cases b
   · exact (ak hb (by kernel_rfl)).elim
   refine fW (fn := aD.c) (l := q.key) (l2 := [⟨2, q.fr, B #[]⟩, ⟨2, q.to, B #[]⟩]) aa rfl rfl rfl rfl rfl rfl rfl rfl rfl rfl (fun _ => rfl) (by show (q.key.length + 2) * 32 ≤ _; omega) ?_
   refine WO.nil ?_
   refine' jB rfl ?_ ?_ ?_ ?_
   all_goals try exact rfl
  case' h_35 => skip
  case p_21 => refine ⟨fun ha => (ak ha (by kernel_rfl)).elim, ?_, fun ha => (ak ha (by kernel_rfl)).elim, ?_, fun ha => (ak ha (by kernel_rfl)).elim, ?_⟩ <;> intro ha <;> first | exact ⟨ev aa rfl, fun h => nomatch h⟩ | exact (ak ha (by kernel_rfl)).elim
  case p_22 => refine ⟨fun ha => (ak ha (by kernel_rfl)).elim, ?_, fun ha => (ak ha (by kernel_rfl)).elim, ?_, fun ha => (ak ha (by kernel_rfl)).elim, ?_⟩ <;> intro ha <;> first | exact ⟨ev aa rfl, fun h => nomatch h⟩ | exact ⟨cM aa rfl rfl rfl rfl, fun h => nomatch h⟩ | exact ⟨cK aa rfl rfl rfl rfl rfl, fun h => nomatch h⟩ | exact (ak ha (by kernel_rfl)).elim
  case p_23 => refine ⟨fun ha => (ak ha (by kernel_rfl)).elim, ?_, fun ha => (ak ha (by kernel_rfl)).elim, ?_, fun ha => (ak ha (by kernel_rfl)).elim, ?_⟩ <;> intro ha <;> first | exact ⟨ev aa rfl, fun h => nomatch h⟩ | exact (ak ha (by kernel_rfl)).elim
  case p_24 => refine ⟨fun ha => (ak ha (by kernel_rfl)).elim, ?_, fun ha => (ak ha (by kernel_rfl)).elim, ?_, fun ha => (ak ha (by kernel_rfl)).elim, ?_⟩ <;> intro ha <;> first | exact ⟨ev aa rfl, fun h => nomatch h⟩ | exact ⟨cM aa rfl rfl rfl rfl, fun h => nomatch h⟩ | exact ⟨cK aa rfl rfl rfl rfl rfl, fun h => nomatch h⟩ | exact (ak ha (by kernel_rfl)).elim
  case p_26 => refine ⟨fun ha => (ak ha (by kernel_rfl)).elim, ?_, fun ha => (ak ha (by kernel_rfl)).elim, ?_, fun ha => (ak ha (by kernel_rfl)).elim, ?_⟩ <;> intro ha <;> first | exact ⟨ev aa rfl, fun h => nomatch h⟩ | exact (ak ha (by kernel_rfl)).elim
  case p_27 => refine ⟨fun ha => (ak ha (by kernel_rfl)).elim, ?_, fun ha => (ak ha (by kernel_rfl)).elim, ?_, fun ha => (ak ha (by kernel_rfl)).elim, ?_⟩ <;> intro ha <;> first | exact ⟨ev aa rfl, fun h => nomatch h⟩ | exact (ak ha (by kernel_rfl)).elim
  case p_28 => refine ⟨fun ha => (ak ha (by kernel_rfl)).elim, ?_, fun ha => (ak ha (by kernel_rfl)).elim, ?_, fun ha => (ak ha (by kernel_rfl)).elim, ?_⟩ <;> intro ha <;> first | exact ⟨ev aa rfl, fun h => nomatch h⟩ | exact ⟨cM aa rfl rfl rfl rfl, fun h => nomatch h⟩ | exact ⟨cK aa rfl rfl rfl rfl rfl, fun h => nomatch h⟩ | exact (ak ha (by kernel_rfl)).elim
  case p_29 => refine ⟨fun ha => (ak ha (by kernel_rfl)).elim, ?_, fun ha => (ak ha (by kernel_rfl)).elim, ?_, fun ha => (ak ha (by kernel_rfl)).elim, ?_⟩ <;> intro ha <;> first | exact ⟨build aa rfl rfl rfl rfl, fun h => nomatch h⟩ | exact (ak ha (by kernel_rfl)).elim
  case p_30 => refine ⟨fun ha => (ak ha (by kernel_rfl)).elim, ?_, fun ha => (ak ha (by kernel_rfl)).elim, ?_, fun ha => (ak ha (by kernel_rfl)).elim, ?_⟩ <;> intro ha <;> first | exact ⟨ev aa rfl, fun h => nomatch h⟩ | exact (ak ha (by kernel_rfl)).elim
  case p_31 => refine ⟨fun ha => (ak ha (by kernel_rfl)).elim, ?_, fun ha => (ak ha (by kernel_rfl)).elim, ?_, fun ha => (ak ha (by kernel_rfl)).elim, ?_⟩ <;> intro ha <;> first | exact ⟨ev aa rfl, fun h => nomatch h⟩ | exact (ak ha (by kernel_rfl)).elim
  case p_32 => refine ⟨fun ha => (ak ha (by kernel_rfl)).elim, ?_, fun ha => (ak ha (by kernel_rfl)).elim, ?_, fun ha => (ak ha (by kernel_rfl)).elim, ?_⟩ <;> intro ha <;> first | exact ⟨ev aa rfl, fun h => nomatch h⟩ | exact ⟨cM aa rfl rfl rfl rfl, fun h => nomatch h⟩ | exact ⟨cK aa rfl rfl rfl rfl rfl, fun h => nomatch h⟩ | exact (ak ha (by kernel_rfl)).elim
  case p_33 => refine ⟨fun ha => (ak ha (by kernel_rfl)).elim, ?_, fun ha => (ak ha (by kernel_rfl)).elim, ?_, fun ha => (ak ha (by kernel_rfl)).elim, ?_⟩ <;> intro ha <;> first | exact ⟨build aa rfl rfl rfl rfl, fun h => nomatch h⟩ | exact (ak ha (by kernel_rfl)).elim
  case p_34 => refine ⟨fun ha => (ak ha (by kernel_rfl)).elim, ?_, fun ha => (ak ha (by kernel_rfl)).elim, ?_, fun ha => (ak ha (by kernel_rfl)).elim, ?_⟩ <;> intro ha <;> first | exact ⟨aG aa rfl rfl rfl rfl rfl rfl rfl rfl rfl, fun h => nomatch h⟩ | exact (ak ha (by kernel_rfl)).elim
  refine' aT (aG aa rfl rfl rfl rfl rfl rfl rfl rfl rfl) ?p_36 rfl rfl rfl (by kernel_rfl) rfl ?h_36
  case' h_36 => skip
  case p_36 => refine ⟨fun ha => (ak ha (by kernel_rfl)).elim, ?_, fun ha => (ak ha (by kernel_rfl)).elim, ?_, fun ha => (ak ha (by kernel_rfl)).elim, ?_⟩ <;> intro ha <;> first | exact ⟨aG aa rfl rfl rfl rfl rfl rfl rfl rfl rfl, fun h => nomatch h⟩ | exact (ak ha (by kernel_rfl)).elim
  refine CD.nil ?_ rfl
  refine ck (fn := rc) (a := c9 q) aa rfl rfl rfl rfl rfl rfl rfl rfl rfl rfl (fun _ => rfl) (by show (rows.length + 1) * 24 ≤ _; omega) ?_
  refine pE rfl (aQ aa rfl rfl rfl rfl rfl rfl rfl rfl (WO.nil (a0 (qs (W.region ?_)))))
  iterate 2 refine pE rfl ?_
  refine WO.nil (W.aY [0, 1, 6] ⟨(k + 1, rows ++ [c9 q]), ?_⟩ ?_ rfl ?_ ⟨rfl, rfl, rfl, rfl, trivial⟩ ?_ trivial rfl)
  · exact ⟨hlt, by rw [hW, List.take_add_one, hx]; simp⟩
  · dsimp only; omega
  · repeat' first | exact trivial | refine ⟨rfl, ?_⟩ | refine ⟨aE (by assumption) (by assumption), ?_⟩
  repeat' first | exact trivial | refine ⟨rfl, ?_⟩
 have hg : aX a on = (⟨CT0.1, rows⟩, 0) := by
  rw [hgo, hW, ← hR, List.take_of_length_le (by have := congrArg List.length hd; simp at this; omega)]
 refine W.exit (aN (aR (aO (qs (W.seq (W.region (pE rfl (aQ aa rfl rfl rfl rfl rfl rfl rfl rfl (pE rfl (WO.nil (qs ?_)))))))))))
 try refine cC 1 0 rfl rfl rfl ?_
 try refine cC 1 1 rfl rfl rfl ?_
 refine W.ret (QV.ar aa trivial rfl ?_)
 (rw [hg]; rfl)
end Go.Proofs.Ytjenenllmjlimaa
namespace Go.Proofs.Ytjenenllmjlimaa
open Go.Ab Go.Tb
set_option maxRecDepth 10000
attribute [local irreducible] W WO Pu QS QB QL QF QV bO CH QE
theorem rG (a : bj) (on : List ByteArray) (hon : on.length ≤ 400) (hpos : pieces (be a on) (bq a.ab aJ) (bq a.ab br) a.rows = []) : aw Try.prog 12 [.ag a.c, .d (.sl (on.map sc))]
  (.tup [.ag (aX a on).1.c, .d (.v (.int .i64 (aX a on).2))]) 0 := by
 have hcol := jh 9 on [a] (by simp) hon
 rw [o9] at hcol
 obtain ⟨CT0, hCT⟩ : ∃ c, ep 9 on a = c := ⟨_, rfl⟩
 rw [hCT] at hcol
 obtain ⟨m0, hm0⟩ : ∃ i, bq a.ab aJ = i := ⟨_, rfl⟩
 obtain ⟨m1, hm1⟩ : ∃ i, bq a.ab br = i := ⟨_, rfl⟩
 obtain ⟨left, hleft⟩ : ∃ l, be a on = l := ⟨_, rfl⟩
 rw [hm0, hm1, hleft] at hpos
 refine aw.fa aa (n := 150) (rs := [.cell 4 25, .tmp 5]) Try.func12 (by kernel_rfl) rfl Try.ntmps12 Try.results12 rfl fun C hC hG => ?_
 refine W.seq (W.region (bM rfl rfl rfl (a9 aa rfl rfl rfl (pE rfl (WO.nil (qs (W.seq (W.region (pE rfl (pE rfl (pu (aG aa rfl rfl rfl rfl rfl rfl rfl rfl rfl) rfl ?_)))))))))))
 refine pu (ae rfl rfl rfl hcol rfl) rfl ?_
 iterate 5 refine pE rfl ?_
 refine WO.nil (qs ?_)
 iterate 2 refine W.seq ?_
 refine W.region ?_
 iterate 2 refine pE rfl ?_
 refine WO.nil (qs (aq rfl (fun h30 => ?_) (fun h30 => ?_)))
 ·
  have he : CT0.2 ≠ 0 := by simpa using h30
  have hg : aX a on = (ff, CT0.2) := by unfold aX; rw [hCT, if_pos he]
  refine W.seq (W.region (pu (build aa rfl rfl rfl rfl) rfl ?_))
  refine pE rfl (aQ aa rfl rfl rfl rfl rfl rfl rfl rfl (pE rfl (WO.nil (qs ?_))))
  try refine cC 1 0 rfl rfl rfl ?_
  try refine cC 1 1 rfl rfl rfl ?_
  refine W.ret (an (QV.ar aa trivial rfl ?_))
  (rw [hg]; rfl)
 have he : CT0.2 = 0 := by simpa using h30
 have hok := wh (by rw [hCT]; exact he)
 have hoo := xl hok
 have haz := dw hok.ga
 have hol := hok.len
 have hra := fH hok.ga
 obtain ⟨srt, hsrt⟩ : ∃ s, cm bd (pieces left m0 m1 a.rows) = s := ⟨_, rfl⟩
 obtain ⟨J, hJJ⟩ : ∃ s, dn [] srt = s := ⟨_, rfl⟩
 have hgo : aX a on = (⟨CT0.1, J.map c9⟩, 0) := by unfold aX kY; rw [hCT, if_neg (by simp [he]), hleft, hm0, hm1, hsrt, hJJ]
 have hpl : aw Try.prog 23 [.ag a.c, .d (.sl (on.map sc))] (.d (.sl (left.map nc))) 0 := by
  have := dX a on (by omega)
  rw [fA (fun s hs => by obtain ⟨i, c, h1, _⟩ := hok.ons s hs; exact ⟨i, h1⟩)] at this
  rw [← hleft]; exact this
 have hpm : aw Try.prog 23 [.ag a.c, .d (.sl ([aJ, br].map sc))] (.d (.sl ([m0, m1].map nc))) 0 := by
  have := dX a [aJ, br] (by simp)
  rw [fA (fun s hs => by
   rcases List.mem_cons.1 hs with rfl | hs
   · obtain ⟨i, c, h1, _⟩ := hok.fr; exact ⟨i, h1⟩
   rcases List.mem_cons.1 hs with rfl | hs
   · obtain ⟨i, c, h1, _⟩ := hok.to; exact ⟨i, h1⟩
   cases hs)] at this
  rw [← hm0, ← hm1]; exact this
 have hll : left.length ≤ 16 := by rw [← hleft]; show (on.map _).length ≤ _; rw [List.length_map]; exact hol
 rw [show on.map (bq a.ab) = left from hleft, hm0, hm1] at hoo
 refine W.skip (qs (W.seq (W.bE aa (by kernel_rfl) ?_)))
 refine ao (ev aa rfl) rfl ?_
 refine ao (ev aa rfl) rfl ?_
 refine ao (ae rfl rfl rfl hpl rfl) rfl ?_
 refine ao (ev aa rfl) rfl ?_
 refine ao (aG aa rfl rfl rfl rfl rfl rfl rfl rfl rfl) rfl ?_
 refine ao (ae rfl rfl rfl hpm rfl) rfl ?_
 iterate 2 refine ao (ev aa rfl) rfl ?_
 refine CH.nil ?_
 refine qs (W.seq (W.region ?_))
 iterate 2 refine pE rfl ?_
 refine WO.nil (qs ?_)
 iterate 2 refine W.seq ?_
 refine W.region (pE rfl (pE rfl ?_))
 iterate 2 refine pE rfl ?_
 refine WO.nil (qs (W.block (W.nk (d := 10) rfl rfl ?_)))
 refine W.len (t := 40) rfl rfl (fun hlen => ?_)
 try simp only [List.length_map, Ex.aF] at hlen
 refine W.aW (ι := {x : Nat × List Pc // match x with | (i, L) => i ≤ a.rows.length ∧ L.length ≤ i ∧ L ++ pieces left m0 m1 (a.rows.drop i) = pieces left m0 m1 a.rows})
  (fun x => match x.1 with | (i, L) => [(4, .ptr 0 0), (10, .xs 1 (L.map Pc.c)), (42, .d (.v (.int .i64 ((i : Nat) : Int))))]) [(6, _), (8, _), (9, _), (11, _), (40, _), (41, _)]
  (fun x => match x.1 with | (i, L) => [(0, [.d (.v (.slice none 0 0)), .d (.v (.slice none 0 0))])]) [] [1] 2 (fun x => match x.1 with | (i, L) => a.rows.length - i)
  [1, 2] ⟨(0, []), ?_⟩ rfl ?_ ⟨rfl, rfl, rfl, rfl, rfl, rfl, rfl, rfl, rfl, rfl, rfl, rfl, trivial⟩ ?_ trivial rfl ?_
 · exact ⟨Nat.zero_le _, Nat.zero_le _, rfl⟩
 · repeat' first | exact trivial | refine ⟨rfl, ?_⟩
 · repeat' first | exact trivial | refine ⟨rfl, ?_⟩
 rintro ⟨⟨i, L⟩, hk, hn, hI⟩
 show W _ _ _ _ _ ⟨[(4, .ptr 0 0), (10, .xs 1 (L.map Pc.c)), (42, .d (.v (.int .i64 ((i : Nat) : Int)))), (6, _), (8, _), (9, _), (11, _), (40, _), (41, _)], [(0, [.d (.v (.slice none 0 0)), .d (.v (.slice none 0 0))])], [1], 2⟩
 refine W.seq (W.region (pE rfl (WO.nil (qs (W.seq (bg (l := a.rows) (k := i) rfl (by simp [Ex.aF, aK]) hk (fun z hx hd hlt => ?_) (fun he hd => ?_)))))))
 ·
  rw [hd] at hI
  simp only [pieces] at hI
  have hxm := List.mem_of_getElem? hx
  have hxl := (hra z hxm).1
  have hsx := nl z m0 m1 (by rw [hxl]; exact hoo.m0) (by rw [hxl]; exact hoo.m1)
  have hpx := gY z left (by omega) (fun q hq => by rw [hxl]; exact hoo.left q hq)
  refine W.skip (qs (W.seq (W.block (W.seq (W.region (pu (indexAddr aa rfl rfl rfl rfl rfl rfl (Int.natCast_nonneg _) (aH hx) rfl) rfl ?_))))))
  refine pE rfl (pE rfl (WO.nil (qs (W.seq (W.region ?_)))))
  iterate 2 refine pE rfl ?_
  refine pu (ae rfl rfl rfl hsx rfl) rfl ?_
  iterate 3 refine pE rfl ?_
  refine a9 aa rfl rfl rfl (aQ aa rfl rfl rfl rfl rfl rfl rfl rfl (pE rfl (WO.nil (qs (W.seq ?_)))))
  apply aI; (case hb => rfl)
  ·
   iterate 2 refine pE rfl ?_
   apply eF; (case hj => rfl); (case hl => rfl)
   ·
    intro g53
    refine ah rfl rfl (pE rfl (ah rfl rfl (pE rfl (ah rfl rfl ?_))))
    iterate 2 refine pE rfl ?_
    refine WO.nil (aA rfl rfl rfl)
   intro g53
   iterate 3 refine ay rfl rfl rfl rfl ?_
   refine pE rfl (WO.nil (aA rfl rfl rfl))
  refine qs (aq rfl (fun h57 => ?_) (fun h57 => ?_))
  ·
   have hin : cX z m0 m1 = true := by
    revert h57
    unfold cX
    cases c7 z m0 m1 <;> simp
   rw [if_pos hin] at hI
   refine W.fB aa [] [] [] [] 7 (by kernel_rfl) (by kernel_rfl) rfl rfl ?_
   refine' aT (ev aa rfl) ?p_1 rfl rfl rfl (by kernel_rfl) rfl ?h_1
   case' h_1 => skip
   case p_1 => refine ⟨fun ha => (ak ha (by kernel_rfl)).elim, ?_⟩ <;> intro ha <;> first | exact ⟨ev aa rfl, fun h => nomatch h⟩ | exact (ak ha (by kernel_rfl)).elim
   refine' aT (ev aa rfl) ?p_2 rfl rfl rfl (by kernel_rfl) rfl ?h_2
   case' h_2 => skip
   case p_2 => refine ⟨fun ha => (ak ha (by kernel_rfl)).elim, ?_⟩ <;> intro ha <;> first | exact ⟨ev aa rfl, fun h => nomatch h⟩ | exact (ak ha (by kernel_rfl)).elim
   refine' aT (ev aa rfl) ?p_3 rfl rfl rfl (by kernel_rfl) rfl ?h_3
   case' h_3 => skip
   case p_3 => refine ⟨fun ha => (ak ha (by kernel_rfl)).elim, ?_⟩ <;> intro ha <;> first | exact ⟨ev aa rfl, fun h => nomatch h⟩ | exact (ak ha (by kernel_rfl)).elim
   refine' aT (ae rfl rfl rfl hpx rfl) ?p_4 rfl rfl rfl (by kernel_rfl) rfl ?h_4
   case' h_4 => skip
   case p_4 => refine ⟨fun ha => (ak ha (by kernel_rfl)).elim, ?_⟩ <;> intro ha <;> first | exact ⟨ae rfl rfl rfl hpx rfl, fun h => nomatch h⟩ | exact (ak ha (by kernel_rfl)).elim
   refine' aT (ev aa rfl) ?p_5 rfl rfl rfl (by kernel_rfl) rfl ?h_5
   case' h_5 => skip
   case p_5 => refine ⟨fun ha => (ak ha (by kernel_rfl)).elim, ?_⟩ <;> intro ha <;> first | exact ⟨ev aa rfl, fun h => nomatch h⟩ | exact ⟨cM aa rfl rfl rfl rfl, fun h => nomatch h⟩ | exact ⟨cK aa rfl rfl rfl rfl rfl, fun h => nomatch h⟩ | exact (ak ha (by kernel_rfl)).elim
   refine' aT (build aa rfl rfl rfl rfl) ?p_6 rfl rfl rfl (by kernel_rfl) rfl ?h_6
   case' h_6 => skip
   case p_6 => refine ⟨fun ha => (ak ha (by kernel_rfl)).elim, ?_⟩ <;> intro ha <;> first | exact ⟨build aa rfl rfl rfl rfl, fun h => nomatch h⟩ | exact (ak ha (by kernel_rfl)).elim
   refine' aT (aG aa rfl rfl rfl rfl rfl rfl rfl rfl rfl) ?p_7 rfl rfl rfl (by kernel_rfl) rfl ?h_7
   case' h_7 => skip
   case p_7 => refine ⟨fun ha => (ak ha (by kernel_rfl)).elim, ?_⟩ <;> intro ha <;> first | exact ⟨aG aa rfl rfl rfl rfl rfl rfl rfl rfl rfl, fun h => nomatch h⟩ | exact (ak ha (by kernel_rfl)).elim
   refine CD.nil ?_ rfl
   refine iL (es2 := [(ek left m0 m1 z).c]) (r := (L ++ [ek left m0 m1 z]).map Pc.c) aa rfl rfl rfl rfl rfl rfl rfl rfl rfl rfl (hZ _ _) (by rw [hZ]; exact bZ _) (by show ((L.map Pc.c).length + 1) * 40 ≤ _; rw [List.length_map]; omega) rfl ?_
   refine pE rfl (WO.nil (a0 (qs (W.region ?_))))
   iterate 2 refine pE rfl ?_
   refine WO.nil ?_
   have hbr := hin
   (have _hb : cX z m0 m1 = true := hbr; refine W.aY [0, 3] ⟨(i + 1, L ++ [ek left m0 m1 z]), ?_⟩ ?_ rfl ?_ ⟨rfl, rfl, rfl, rfl, rfl, rfl, rfl, rfl, rfl, rfl, rfl, rfl, trivial⟩ ?_ trivial rfl)
   · exact ⟨hlt, (by first | (rw [List.length_append]; simp; omega) | omega), (by first | exact hI | (rw [List.append_assoc]; exact hI))⟩
   · dsimp only; omega
   · repeat' first | exact trivial | refine ⟨rfl, ?_⟩ | refine ⟨aE (by assumption) (by assumption), ?_⟩
   repeat' first | exact trivial | refine ⟨rfl, ?_⟩
  have hin : cX z m0 m1 = false := by
   revert h57
   unfold cX
   cases c7 z m0 m1 <;> simp
  rw [if_neg (by simp [hin])] at hI
  refine W.skip (a0 (qs (W.region ?_)))
  iterate 2 refine pE rfl ?_
  refine WO.nil ?_
  have hbr := hin
  (have _hb : cX z m0 m1 = false := hbr; refine W.aY [0, 1] ⟨(i + 1, L), ?_⟩ ?_ rfl ?_ ⟨rfl, rfl, rfl, rfl, rfl, rfl, rfl, rfl, rfl, rfl, rfl, rfl, trivial⟩ ?_ trivial rfl)
  · exact ⟨hlt, (by first | (rw [List.length_append]; simp; omega) | omega), (by first | exact hI | (rw [List.append_assoc]; exact hI))⟩
  · dsimp only; omega
  · repeat' first | exact trivial | refine ⟨rfl, ?_⟩ | refine ⟨aE (by assumption) (by assumption), ?_⟩
  repeat' first | exact trivial | refine ⟨rfl, ?_⟩
 rw [hd] at hI
 simp only [pieces, List.append_nil] at hI
 rw [← hI] at hpos hsrt
 have hL2 : L.length ≤ 20000 := by omega
 have hst : cm bd L = srt := hsrt
 have hsl0 : srt.length = L.length := by rw [← hst]; exact (du bd L).len
 have hkey : ∀ p ∈ J, p.key.length ≤ 16 := by
  have h1 : ∀ p ∈ srt, p.key.length = left.length := fun p hp => by
   have h2 : p ∈ L := by rw [← hst] at hp; exact (du bd L).perm.mem_iff.1 hp
   rw [hI] at h2
   exact jI left m0 m1 a.rows p h2
  intro p hp
  rw [← hJJ] at hp
  have := kA srt [] h1 (fun p hp => nomatch hp) p hp
  omega
 have hJn : J.length ≤ 20000 := by rw [← hJJ]; have := kH srt []; simp at this; omega
 refine W.exit (aN (aR (aO (qs (W.seq ?_)))))
 have hL0 : L = [] := hpos
 subst hL0
 have hs0 : srt = [] := List.length_eq_zero_iff.1 hsl0
 subst hs0
 refine qa 10 rfl rfl rfl rfl ?_
 refine ux 10 rfl rfl ?_
 refine W.region (pE rfl (pu (ae rfl rfl rfl pJ rfl) rfl ?_))
 refine WO.nil (qs ?_)
 iterate 2 refine W.seq ?_
 refine W.region ?_
 iterate 3 refine pE rfl ?_
 refine WO.nil (qs (W.block (W.nk (d := 11) rfl rfl ?_)))
 have hsm : ([] : List Pc).length ≤ maxLen := by simp only [maxLen]; omega
 refine W.aW (ι := {x : Nat × List Pc // match x with | (j, out) => j ≤ ([] : List Pc).length ∧ out.length ≤ j ∧ dn out (([] : List Pc).drop j) = J})
  (fun x => match x.1 with | (j, out) => [(4, .ptr 0 0), (11, .xs 1 (out.map Pc.c)), (71, .d (.v (.int .i64 ((j : Nat) : Int))))]) [(6, _), (69, _), (70, _)]
  (fun x => match x.1 with | (j, out) => [(0, [.d (.v (.slice none 0 0)), .d (.v (.slice none 0 0))])]) [] [1] 2 (fun x => match x.1 with | (j, out) => ([] : List Pc).length - j)
  [0, 3] ⟨(0, []), ?_⟩ rfl ?_ ⟨rfl, rfl, rfl, rfl, rfl, rfl, trivial⟩ ?_ trivial rfl ?_
 · exact ⟨Nat.zero_le _, Nat.zero_le _, hJJ⟩
 · repeat' first | exact trivial | refine ⟨rfl, ?_⟩
 · repeat' first | exact trivial | refine ⟨rfl, ?_⟩
 rintro ⟨⟨j, out⟩, hk, hn2, hR⟩
 show W _ _ _ _ _ ⟨[(4, .ptr 0 0), (11, .xs 1 (out.map Pc.c)), (71, .d (.v (.int .i64 ((j : Nat) : Int)))), (6, _), (69, _), (70, _)], [(0, [.d (.v (.slice none 0 0)), .d (.v (.slice none 0 0))])], [1], 2⟩
 refine W.seq (W.region (pE rfl (WO.nil (qs (W.seq (bg (l := ([] : List Pc)) (k := j) rfl (by simp [Ex.aF, aK]) hk (fun p hx hd hlt => ?_) (fun he hd => ?_)))))))
 ·
  rw [hd] at hR
  simp only [dn] at hR
  have hsub : IntKind.i64.wrap (((out.map Pc.c).length : Int) - 1) = ((out.length : Int) - 1) := by rw [List.length_map, wrap64 (by omega)]
  have hla : ∀ h : decide (0 ≤ (out.length : Int) - 1) = true, 0 < out.length ∧ 0 ≤ (out.length : Int) - 1 ∧ (out.map Pc.c)[((out.length : Int) - 1).toNat]? = some (cz out).c := by
   intro h
   have h0 : 0 < out.length := by simp at h; omega
   refine ⟨h0, by omega, ?_⟩
   rw [show ((out.length : Int) - 1).toNat = out.length - 1 by omega]
   exact de (by omega)
  refine W.skip (qs (W.seq (W.block (W.seq (W.region (pu (indexAddr aa rfl rfl rfl rfl rfl rfl (Int.natCast_nonneg _) (aH hx) rfl) rfl ?_))))))
  refine pE rfl (a9 aa rfl rfl rfl (aQ aa rfl rfl rfl rfl rfl rfl rfl rfl (WO.nil (qs (W.seq (W.region (pE rfl (pu (ua aa rfl rfl rfl rfl) rfl ?_))))))))
  refine pu (bL (ev aa rfl) hsub) rfl ?_
  refine pE rfl (WO.nil (qs (W.seq ?_)))
  apply iX aa; (case hb => rfl); (case hB => kernel_rfl)
  ·
   iterate 3 refine ao (ev aa rfl) rfl ?_
   apply gV; (case hj => rfl); (case hl => rfl)
   ·
    intro g80
    refine aL rfl rfl (ev aa rfl) rfl ?_
    refine aL rfl rfl (ev aa rfl) rfl ?_
    refine aL rfl rfl (fu (l := (cz out).c) aa rfl rfl rfl rfl rfl rfl (hla g80).2.1 (hla g80).2.2 rfl) rfl ?_
    refine aL rfl rfl (dc aa rfl rfl rfl rfl rfl rfl) rfl ?_
    refine aL rfl rfl (jb aa rfl rfl rfl) rfl ?_
    refine aL rfl rfl (ev aa rfl) rfl ?_
    refine aL rfl rfl (ev aa rfl) rfl ?_
    refine aL rfl rfl (ae rfl rfl rfl (mD (cz out).key p.key) rfl) rfl ?_
    iterate 2 refine ao (ev aa rfl) rfl ?_
    apply gV; (case hj => rfl); (case hl => rfl)
    ·
     intro g90
     refine aL rfl rfl (ev aa rfl) rfl ?_
     refine aL rfl rfl (ev aa rfl) rfl ?_
     refine aL rfl rfl (ev aa rfl) rfl ?_
     refine aL rfl rfl (ev aa rfl) rfl ?_
     refine aL rfl rfl (ev aa rfl) rfl ?_
     refine aL rfl rfl (fu (l := (cz out).c) aa rfl rfl rfl rfl rfl rfl (hla g80).2.1 (hla g80).2.2 rfl) rfl ?_
     refine aL rfl rfl (dc aa rfl rfl rfl rfl rfl rfl) rfl ?_
     refine aL rfl rfl (dc aa rfl rfl rfl rfl rfl rfl) rfl ?_
     refine aL rfl rfl (jb aa rfl rfl rfl) rfl ?_
     refine aL rfl rfl (ev aa rfl) rfl ?_
     refine ao (ev aa rfl) rfl ?_
     refine CH.nil ?_
     refine aA rfl rfl rfl
    intro g90
    iterate 10 refine bt rfl rfl rfl rfl ?_
    refine ao (ev aa rfl) rfl ?_
    refine CH.nil ?_
    refine aA rfl rfl rfl
   intro g80
   iterate 8 refine bt rfl rfl rfl rfl ?_
   iterate 2 refine ao (ev aa rfl) rfl ?_
   iterate 10 refine bt rfl rfl rfl rfl ?_
   refine ao (ev aa rfl) rfl ?_
   refine CH.nil ?_
   refine aA rfl rfl rfl
  refine qs (aq rfl (fun h101 => ?_) (fun h101 => ?_))
  ·
   have htp : dp out p = true := by
    revert h101
    unfold dp
    by_cases q : 0 < out.length
    ·
     have q1 : 0 ≤ (out.length : Int) - 1 := by omega
     have q2 : 1 ≤ (out.length : Int) := by omega
     simp [q, q1, q2]
    have q1 : ¬ (0 ≤ (out.length : Int) - 1) := by omega
    have q2 : ¬ (1 ≤ (out.length : Int)) := by omega
    simp [q, q1, q2]
   rw [if_pos htp] at hR
   have h0 : 0 < out.length := by unfold dp at htp; simp at htp; exact htp.1
   have hk0 : 0 ≤ (out.length : Int) - 1 := by omega
   have hat : (out.map Pc.c)[((out.length : Int) - 1).toNat]? = some (cz out).c := by
    rw [show ((out.length : Int) - 1).toNat = out.length - 1 by omega]
    exact de (by omega)
   have hset : (out.map Pc.c).set ((out.length : Int) - 1).toNat (eu (cz out) p).c = (out.set (out.length - 1) (eu (cz out) p)).map Pc.c := by
    rw [show ((out.length : Int) - 1).toNat = out.length - 1 by omega]
    exact gB
   refine W.fB aa [] [] [] [] 12 (by kernel_rfl) (by kernel_rfl) rfl rfl ?_
   refine' aT (ev aa rfl) ?p_8 rfl rfl rfl (by kernel_rfl) rfl ?h_8
   case' h_8 => skip
   case p_8 => refine ⟨fun ha => (ak ha (by kernel_rfl)).elim, ?_⟩ <;> intro ha <;> first | exact ⟨ev aa rfl, fun h => nomatch h⟩ | exact (ak ha (by kernel_rfl)).elim
   refine' aT (ev aa rfl) ?p_9 rfl rfl rfl (by kernel_rfl) rfl ?h_9
   case' h_9 => skip
   case p_9 => refine ⟨fun ha => (ak ha (by kernel_rfl)).elim, ?_⟩ <;> intro ha <;> first | exact ⟨ev aa rfl, fun h => nomatch h⟩ | exact (ak ha (by kernel_rfl)).elim
   refine' aT (ev aa rfl) ?p_10 rfl rfl rfl (by kernel_rfl) rfl ?h_10
   case' h_10 => skip
   case p_10 => refine ⟨fun ha => (ak ha (by kernel_rfl)).elim, ?_⟩ <;> intro ha <;> first | exact ⟨ev aa rfl, fun h => nomatch h⟩ | exact (ak ha (by kernel_rfl)).elim
   refine' aT (ev aa rfl) ?p_11 rfl rfl rfl (by kernel_rfl) rfl ?h_11
   case' h_11 => skip
   case p_11 => refine ⟨fun ha => (ak ha (by kernel_rfl)).elim, ?_⟩ <;> intro ha <;> first | exact ⟨ev aa rfl, fun h => nomatch h⟩ | exact (ak ha (by kernel_rfl)).elim
   refine' aT (fu (l := (cz out).c) aa rfl rfl rfl rfl rfl rfl hk0 hat rfl) ?p_12 rfl rfl rfl (by kernel_rfl) rfl ?h_12
   case' h_12 => skip
   case p_12 => refine ⟨fun ha => (ak ha (by kernel_rfl)).elim, ?_⟩ <;> intro ha <;> first | exact ⟨fu (l := (cz out).c) aa rfl rfl rfl rfl rfl rfl hk0 hat rfl, fun h => nomatch h⟩ | exact (ak ha (by kernel_rfl)).elim
   refine' aT (dc aa rfl rfl rfl rfl rfl rfl) ?p_13 rfl rfl rfl (by kernel_rfl) rfl ?h_13
   case' h_13 => skip
   case p_13 => refine ⟨fun ha => (ak ha (by kernel_rfl)).elim, ?_⟩ <;> intro ha <;> first | exact ⟨dc aa rfl rfl rfl rfl rfl rfl, fun h => nomatch h⟩ | exact (ak ha (by kernel_rfl)).elim
   refine' aT (dc aa rfl rfl rfl rfl rfl rfl) ?p_14 rfl rfl rfl (by kernel_rfl) rfl ?h_14
   case' h_14 => skip
   case p_14 => refine ⟨fun ha => (ak ha (by kernel_rfl)).elim, ?_⟩ <;> intro ha <;> first | exact ⟨dc aa rfl rfl rfl rfl rfl rfl, fun h => nomatch h⟩ | exact (ak ha (by kernel_rfl)).elim
   refine' aT (jb aa rfl rfl rfl) ?p_15 rfl rfl rfl (by kernel_rfl) rfl ?h_15
   case' h_15 => skip
   case p_15 => refine ⟨fun ha => (ak ha (by kernel_rfl)).elim, ?_⟩ <;> intro ha <;> first | exact ⟨jb aa rfl rfl rfl, fun h => nomatch h⟩ | exact (ak ha (by kernel_rfl)).elim
   refine' aT (ev aa rfl) ?p_16 rfl rfl rfl (by kernel_rfl) rfl ?h_16
   case' h_16 => skip
   case p_16 => refine ⟨fun ha => (ak ha (by kernel_rfl)).elim, ?_⟩ <;> intro ha <;> first | exact ⟨ev aa rfl, fun h => nomatch h⟩ | exact (ak ha (by kernel_rfl)).elim
   refine' aT (ev aa rfl) ?p_17 rfl rfl rfl (by kernel_rfl) rfl ?h_17
   case' h_17 => skip
   case p_17 => refine ⟨fun ha => (ak ha (by kernel_rfl)).elim, ?_⟩ <;> intro ha <;> first | exact ⟨ev aa rfl, fun h => nomatch h⟩ | exact (ak ha (by kernel_rfl)).elim
   refine' aT (ev aa rfl) ?p_18 rfl rfl rfl (by kernel_rfl) rfl ?h_18
   case' h_18 => skip
   case p_18 => refine ⟨fun ha => (ak ha (by kernel_rfl)).elim, ?_⟩ <;> intro ha <;> first | exact ⟨ev aa rfl, fun h => nomatch h⟩ | exact ⟨cM aa rfl rfl rfl rfl, fun h => nomatch h⟩ | exact ⟨cK aa rfl rfl rfl rfl rfl, fun h => nomatch h⟩ | exact (ak ha (by kernel_rfl)).elim
   refine' aT (ev aa rfl) ?p_19 rfl rfl rfl (by kernel_rfl) rfl ?h_19
   case' h_19 => skip
   case p_19 => refine ⟨fun ha => (ak ha (by kernel_rfl)).elim, ?_⟩ <;> intro ha <;> first | exact ⟨ev aa rfl, fun h => nomatch h⟩ | exact (ak ha (by kernel_rfl)).elim
   refine CD.nil ?_ rfl
   refine pu (fu (l := (cz out).c) aa rfl rfl rfl rfl rfl rfl hk0 hat rfl) rfl ?_
   refine pu (dc aa rfl rfl rfl rfl rfl rfl) rfl ?_
   refine pu (dc aa rfl rfl rfl rfl rfl rfl) rfl ?_
   refine oM aa 11 rfl rfl rfl rfl hat rfl rfl rfl rfl rfl rfl hset rfl ?_
   refine WO.nil (a0 (qs (W.region ?_)))
   iterate 2 refine pE rfl ?_
   refine WO.nil ?_
   have hbr := htp
   (have _hb : dp out p = true := hbr; refine W.aY [0, 3] ⟨(j + 1, out.set (out.length - 1) (eu (cz out) p)), ?_⟩ ?_ rfl ?_ ⟨rfl, rfl, rfl, rfl, rfl, rfl, trivial⟩ ?_ trivial rfl)
   · exact ⟨hlt, (by first | (rw [List.length_append]; simp; omega) | (rw [List.length_set]; omega)), hR⟩
   · dsimp only; omega
   · repeat' first | exact trivial | refine ⟨rfl, ?_⟩ | refine ⟨aE (by assumption) (by assumption), ?_⟩
   repeat' first | exact trivial | refine ⟨rfl, ?_⟩
  have htp : dp out p = false := by
   revert h101
   unfold dp
   by_cases q : 0 < out.length
   ·
    have q1 : 0 ≤ (out.length : Int) - 1 := by omega
    have q2 : 1 ≤ (out.length : Int) := by omega
    simp [q, q1, q2]
   have q1 : ¬ (0 ≤ (out.length : Int) - 1) := by omega
   have q2 : ¬ (1 ≤ (out.length : Int)) := by omega
   simp [q, q1, q2]
  rw [if_neg (by simp [htp])] at hR
  refine W.region (pE rfl (pE rfl (pu (aG aa rfl rfl rfl rfl rfl rfl rfl rfl rfl) rfl ?_)))
  refine iL (es2 := [p.c]) (r := (out ++ [p]).map Pc.c) aa rfl rfl rfl rfl rfl rfl rfl rfl rfl rfl (hZ _ _) (by rw [hZ]; exact bZ _) (by show ((out.map Pc.c).length + 1) * 40 ≤ _; rw [List.length_map]; omega) rfl ?_
  refine pE rfl (WO.nil (a0 (qs (W.region ?_))))
  iterate 2 refine pE rfl ?_
  refine WO.nil ?_
  have hbr := htp
  (have _hb : dp out p = false := hbr; refine W.aY [0, 3] ⟨(j + 1, out ++ [p]), ?_⟩ ?_ rfl ?_ ⟨rfl, rfl, rfl, rfl, rfl, rfl, trivial⟩ ?_ trivial rfl)
  · exact ⟨hlt, (by first | (rw [List.length_append]; simp; omega) | (rw [List.length_set]; omega)), hR⟩
  · dsimp only; omega
  · repeat' first | exact trivial | refine ⟨rfl, ?_⟩ | refine ⟨aE (by assumption) (by assumption), ?_⟩
  repeat' first | exact trivial | refine ⟨rfl, ?_⟩
 rw [hd] at hR
 simp only [dn] at hR
 refine W.exit (aN (aR (aO (qs (W.seq (qa 11 rfl rfl rfl rfl ?_))))))
 refine ux 11 rfl rfl ?_
 refine W.region (pE rfl (pu (build aa rfl rfl rfl rfl) rfl ?_))
 refine a9 aa rfl rfl rfl (aQ aa rfl rfl rfl rfl rfl rfl rfl rfl (WO.nil (qs ?_)))
 iterate 2 refine W.seq ?_
 refine W.region ?_
 iterate 3 refine pE rfl ?_
 refine WO.nil (qs (W.block (eY 3 1 rfl rfl rfl ?_)))
 refine W.len (t := 124) rfl rfl (fun hlen => ?_)
 try simp only [List.length_map, Ex.aF] at hlen
 refine W.aW (ι := {x : Nat × List (List aD) // match x with | (k, rows) => k ≤ out.length ∧ rows = (out.take k).map c9})
  (fun x => match x.1 with | (k, rows) => [(4, .ptr 0 0), (19, .ptr 1 0), (126, .d (.v (.int .i64 ((k : Nat) : Int))))]) [(124, _), (125, _)]
  (fun x => match x.1 with | (k, rows) => [(0, [.d (.v (.slice none 0 0)), .d (.v (.slice none 0 0))]), (1, [.d (.sl (CT0.1.map Col.c)), .own 2 (rows.map rc)])]) [] [2] 3 (fun x => match x.1 with | (k, rows) => out.length - k)
  [0, 3, 4] ⟨(0, []), ?_⟩ rfl ?_ ⟨rfl, rfl, rfl, rfl, trivial⟩ ?_ trivial rfl ?_
 · exact ⟨Nat.zero_le _, rfl⟩
 · repeat' first | exact trivial | refine ⟨rfl, ?_⟩
 · repeat' first | exact trivial | refine ⟨rfl, ?_⟩
 rintro ⟨⟨k, rows⟩, hk, hW⟩
 show W _ _ _ _ _ ⟨[(4, .ptr 0 0), (19, .ptr 1 0), (126, .d (.v (.int .i64 ((k : Nat) : Int)))), (124, _), (125, _)], [(0, [.d (.v (.slice none 0 0)), .d (.v (.slice none 0 0))]), (1, [.d (.sl (CT0.1.map Col.c)), .own 2 (rows.map rc)])], [2], 3⟩
 refine W.seq (W.region (pE rfl (WO.nil (qs (W.seq (bg (l := out) (k := k) rfl (by simp [Ex.aF, aK]) hk (fun q hx hd hlt => ?_) (fun he hd => ?_)))))))
 ·
  have hq16 : q.key.length ≤ 16 := hkey q (by rw [← hR]; exact List.mem_of_getElem? hx)
  have hrl : rows.length ≤ 20000 := by rw [hW, List.length_map, List.length_take]; rw [← hR] at hJn; omega
  have hrow : q.key ++ [⟨2, q.fr, B #[]⟩, ⟨2, q.to, B #[]⟩] = c9 q := rfl
  refine W.skip (qs (W.seq (W.block (W.seq (W.region (pu (indexAddr aa rfl rfl rfl rfl rfl rfl (Int.natCast_nonneg _) (aH hx) rfl) rfl ?_))))))
  refine pE rfl (a9 aa rfl rfl rfl (aQ aa rfl rfl rfl rfl rfl rfl rfl rfl (WO.nil (qs ?_))))
  refine' W.fB aa [_, _] [[4, 2], [5, 2], [6, 5]] [5, 6, 7] [4, 14] 16 (by kernel_rfl) (by kernel_rfl) rfl rfl ?hL_20
  case' hL_20 => skip
  refine' aT (ev aa rfl) ?p_21 rfl rfl rfl (by kernel_rfl) rfl ?h_21
  case' h_21 => skip
  refine' aT (ev aa rfl) ?p_22 rfl rfl rfl (by kernel_rfl) rfl ?h_22
  case' h_22 => skip
  refine' aT (ev aa rfl) ?p_23 rfl rfl rfl (by kernel_rfl) rfl ?h_23
  case' h_23 => skip
  refine' aT (ev aa rfl) ?p_24 rfl rfl rfl (by kernel_rfl) rfl ?h_24
  case' h_24 => skip
  refine' lX ?x_25 rfl rfl rfl (by kernel_rfl) (fun h => (ak h (by kernel_rfl)).elim) rfl ?h_25
  case x_25 =>
   intro b hb g; cases b
   · exact (ak hb (by kernel_rfl)).elim
   refine fF rfl rfl rfl (kv q.key (by omega)) (by rfl) rfl rfl ?_
   refine WO.nil ?_
   refine' jB rfl ?_ ?_ ?_ ?_
   all_goals try exact rfl
  case' h_25 => skip
  refine' aT (ev aa rfl) ?p_26 rfl rfl rfl (by kernel_rfl) rfl ?h_26
  case' h_26 => skip
  refine' aT (ev aa rfl) ?p_27 rfl rfl rfl (by kernel_rfl) rfl ?h_27
  case' h_27 => skip
  refine' aT (ev aa rfl) ?p_28 rfl rfl rfl (by kernel_rfl) rfl ?h_28
  case' h_28 => skip
  refine' aT (build aa rfl rfl rfl rfl) ?p_29 rfl rfl rfl (by kernel_rfl) rfl ?h_29
  case' h_29 => skip
  refine' aT (ev aa rfl) ?p_30 rfl rfl rfl (by kernel_rfl) rfl ?h_30
  case' h_30 => skip
  refine' aT (ev aa rfl) ?p_31 rfl rfl rfl (by kernel_rfl) rfl ?h_31
  case' h_31 => skip
  refine' aT (ev aa rfl) ?p_32 rfl rfl rfl (by kernel_rfl) rfl ?h_32
  case' h_32 => skip
  refine' aT (build aa rfl rfl rfl rfl) ?p_33 rfl rfl rfl (by kernel_rfl) rfl ?h_33
  case' h_33 => skip
  refine' aT (aG aa rfl rfl rfl rfl rfl rfl rfl rfl rfl) ?p_34 rfl rfl rfl (by kernel_rfl) rfl ?h_34
  case' h_34 => skip
  refine' lX ?x_35 rfl rfl rfl (by kernel_rfl) (fun h => (ak h (by kernel_rfl)).elim) rfl ?h_35
  case x_35 =>
   intro b hb g; cases b
   · exact (ak hb (by kernel_rfl)).elim
   refine fW (fn := aD.c) (l := q.key) (l2 := [⟨2, q.fr, B #[]⟩, ⟨2, q.to, B #[]⟩]) aa rfl rfl rfl rfl rfl rfl rfl rfl rfl rfl (fun _ => rfl) (by show (q.key.length + 2) * 32 ≤ _; omega) ?_
   refine WO.nil ?_
   refine' jB rfl ?_ ?_ ?_ ?_
   all_goals try exact rfl
  case' h_35 => skip
  case p_21 => refine ⟨fun ha => (ak ha (by kernel_rfl)).elim, ?_, fun ha => (ak ha (by kernel_rfl)).elim, ?_, fun ha => (ak ha (by kernel_rfl)).elim, ?_⟩ <;> intro ha <;> first | exact ⟨ev aa rfl, fun h => nomatch h⟩ | exact (ak ha (by kernel_rfl)).elim
  case p_22 => refine ⟨fun ha => (ak ha (by kernel_rfl)).elim, ?_, fun ha => (ak ha (by kernel_rfl)).elim, ?_, fun ha => (ak ha (by kernel_rfl)).elim, ?_⟩ <;> intro ha <;> first | exact ⟨ev aa rfl, fun h => nomatch h⟩ | exact ⟨cM aa rfl rfl rfl rfl, fun h => nomatch h⟩ | exact ⟨cK aa rfl rfl rfl rfl rfl, fun h => nomatch h⟩ | exact (ak ha (by kernel_rfl)).elim
  case p_23 => refine ⟨fun ha => (ak ha (by kernel_rfl)).elim, ?_, fun ha => (ak ha (by kernel_rfl)).elim, ?_, fun ha => (ak ha (by kernel_rfl)).elim, ?_⟩ <;> intro ha <;> first | exact ⟨ev aa rfl, fun h => nomatch h⟩ | exact (ak ha (by kernel_rfl)).elim
  case p_24 => refine ⟨fun ha => (ak ha (by kernel_rfl)).elim, ?_, fun ha => (ak ha (by kernel_rfl)).elim, ?_, fun ha => (ak ha (by kernel_rfl)).elim, ?_⟩ <;> intro ha <;> first | exact ⟨ev aa rfl, fun h => nomatch h⟩ | exact ⟨cM aa rfl rfl rfl rfl, fun h => nomatch h⟩ | exact ⟨cK aa rfl rfl rfl rfl rfl, fun h => nomatch h⟩ | exact (ak ha (by kernel_rfl)).elim
  case p_26 => refine ⟨fun ha => (ak ha (by kernel_rfl)).elim, ?_, fun ha => (ak ha (by kernel_rfl)).elim, ?_, fun ha => (ak ha (by kernel_rfl)).elim, ?_⟩ <;> intro ha <;> first | exact ⟨ev aa rfl, fun h => nomatch h⟩ | exact (ak ha (by kernel_rfl)).elim
  case p_27 => refine ⟨fun ha => (ak ha (by kernel_rfl)).elim, ?_, fun ha => (ak ha (by kernel_rfl)).elim, ?_, fun ha => (ak ha (by kernel_rfl)).elim, ?_⟩ <;> intro ha <;> first | exact ⟨ev aa rfl, fun h => nomatch h⟩ | exact (ak ha (by kernel_rfl)).elim
  case p_28 => refine ⟨fun ha => (ak ha (by kernel_rfl)).elim, ?_, fun ha => (ak ha (by kernel_rfl)).elim, ?_, fun ha => (ak ha (by kernel_rfl)).elim, ?_⟩ <;> intro ha <;> first | exact ⟨ev aa rfl, fun h => nomatch h⟩ | exact ⟨cM aa rfl rfl rfl rfl, fun h => nomatch h⟩ | exact ⟨cK aa rfl rfl rfl rfl rfl, fun h => nomatch h⟩ | exact (ak ha (by kernel_rfl)).elim
  case p_29 => refine ⟨fun ha => (ak ha (by kernel_rfl)).elim, ?_, fun ha => (ak ha (by kernel_rfl)).elim, ?_, fun ha => (ak ha (by kernel_rfl)).elim, ?_⟩ <;> intro ha <;> first | exact ⟨build aa rfl rfl rfl rfl, fun h => nomatch h⟩ | exact (ak ha (by kernel_rfl)).elim
  case p_30 => refine ⟨fun ha => (ak ha (by kernel_rfl)).elim, ?_, fun ha => (ak ha (by kernel_rfl)).elim, ?_, fun ha => (ak ha (by kernel_rfl)).elim, ?_⟩ <;> intro ha <;> first | exact ⟨ev aa rfl, fun h => nomatch h⟩ | exact (ak ha (by kernel_rfl)).elim
  case p_31 => refine ⟨fun ha => (ak ha (by kernel_rfl)).elim, ?_, fun ha => (ak ha (by kernel_rfl)).elim, ?_, fun ha => (ak ha (by kernel_rfl)).elim, ?_⟩ <;> intro ha <;> first | exact ⟨ev aa rfl, fun h => nomatch h⟩ | exact (ak ha (by kernel_rfl)).elim
  case p_32 => refine ⟨fun ha => (ak ha (by kernel_rfl)).elim, ?_, fun ha => (ak ha (by kernel_rfl)).elim, ?_, fun ha => (ak ha (by kernel_rfl)).elim, ?_⟩ <;> intro ha <;> first | exact ⟨ev aa rfl, fun h => nomatch h⟩ | exact ⟨cM aa rfl rfl rfl rfl, fun h => nomatch h⟩ | exact ⟨cK aa rfl rfl rfl rfl rfl, fun h => nomatch h⟩ | exact (ak ha (by kernel_rfl)).elim
  case p_33 => refine ⟨fun ha => (ak ha (by kernel_rfl)).elim, ?_, fun ha => (ak ha (by kernel_rfl)).elim, ?_, fun ha => (ak ha (by kernel_rfl)).elim, ?_⟩ <;> intro ha <;> first | exact ⟨build aa rfl rfl rfl rfl, fun h => nomatch h⟩ | exact (ak ha (by kernel_rfl)).elim
  case p_34 => refine ⟨fun ha => (ak ha (by kernel_rfl)).elim, ?_, fun ha => (ak ha (by kernel_rfl)).elim, ?_, fun ha => (ak ha (by kernel_rfl)).elim, ?_⟩ <;> intro ha <;> first | exact ⟨aG aa rfl rfl rfl rfl rfl rfl rfl rfl rfl, fun h => nomatch h⟩ | exact (ak ha (by kernel_rfl)).elim
  refine' aT (aG aa rfl rfl rfl rfl rfl rfl rfl rfl rfl) ?p_36 rfl rfl rfl (by kernel_rfl) rfl ?h_36
  case' h_36 => skip
  case p_36 => refine ⟨fun ha => (ak ha (by kernel_rfl)).elim, ?_, fun ha => (ak ha (by kernel_rfl)).elim, ?_, fun ha => (ak ha (by kernel_rfl)).elim, ?_⟩ <;> intro ha <;> first | exact ⟨aG aa rfl rfl rfl rfl rfl rfl rfl rfl rfl, fun h => nomatch h⟩ | exact (ak ha (by kernel_rfl)).elim
  refine CD.nil ?_ rfl
  refine ck (fn := rc) (a := c9 q) aa rfl rfl rfl rfl rfl rfl rfl rfl rfl rfl (fun _ => rfl) (by show (rows.length + 1) * 24 ≤ _; omega) ?_
  refine pE rfl (aQ aa rfl rfl rfl rfl rfl rfl rfl rfl (WO.nil (a0 (qs (W.region ?_)))))
  iterate 2 refine pE rfl ?_
  refine WO.nil (W.aY [0, 1, 6] ⟨(k + 1, rows ++ [c9 q]), ?_⟩ ?_ rfl ?_ ⟨rfl, rfl, rfl, rfl, trivial⟩ ?_ trivial rfl)
  · exact ⟨hlt, by rw [hW, List.take_add_one, hx]; simp⟩
  · dsimp only; omega
  · repeat' first | exact trivial | refine ⟨rfl, ?_⟩ | refine ⟨aE (by assumption) (by assumption), ?_⟩
  repeat' first | exact trivial | refine ⟨rfl, ?_⟩
 have hg : aX a on = (⟨CT0.1, rows⟩, 0) := by
  rw [hgo, hW, ← hR, List.take_of_length_le (by have := congrArg List.length hd; simp at this; omega)]
 refine W.exit (aN (aR (aO (qs (W.seq (W.region (pE rfl (aQ aa rfl rfl rfl rfl rfl rfl rfl rfl (pE rfl (WO.nil (qs ?_)))))))))))
 try refine cC 1 0 rfl rfl rfl ?_
 try refine cC 1 1 rfl rfl rfl ?_
 refine W.ret (QV.ar aa trivial rfl ?_)
 (rw [hg]; rfl)
theorem kN (a : bj) (on : List ByteArray) (hon : on.length ≤ 400) : aw Try.prog 12 [.ag a.c, .d (.sl (on.map sc))]
  (.tup [.ag (aX a on).1.c, .d (.v (.int .i64 (aX a on).2))]) 0 := by
 rcases Nat.eq_zero_or_pos (pieces (be a on) (bq a.ab aJ) (bq a.ab br) a.rows).length with h | h
 · exact rG a on hon (List.length_eq_zero_iff.1 h)
 exact rZ a on hon h
end Go.Proofs.Ytjenenllmjlimaa
namespace Go.Proofs.Ytjenenllmjlimaa
open Go.Ab Go.Tb
set_option maxRecDepth 10000
attribute [local irreducible] W WO Pu QS QB QL QF QV bO CH QE
theorem cq (n : Int) : aw Try.prog 20 [.d (.v (.int .i64 n))] (.ag (cQ n).c) 0 := by
 refine aw.fa aa (n := 5) (rs := [.cell 2 38]) Try.func20 (by kernel_rfl) rfl Try.ntmps20 Try.results20 rfl fun C hC hG => ?_
 refine W.seq (W.region (a9 aa rfl rfl rfl (WO.nil (qs (W.seq (W.region (pE rfl (pu (build aa rfl rfl rfl rfl) rfl ?_))))))))
 refine aQ aa rfl rfl rfl rfl rfl rfl rfl rfl (WO.nil (qs (W.ret (QV.ar aa trivial rfl ?_))))
 rfl
theorem jR (s : ByteArray) : aw Try.prog 19 [.d (.v (.string s))] (.ag (nu s).c) 0 := by
 refine aw.fa aa (n := 5) (rs := [.cell 2 38]) Try.func19 (by kernel_rfl) rfl Try.ntmps19 Try.results19 rfl fun C hC hG => ?_
 refine W.seq (W.region (a9 aa rfl rfl rfl (WO.nil (qs (W.seq (W.region (pE rfl (pu (build aa rfl rfl rfl rfl) rfl ?_))))))))
 refine aQ aa rfl rfl rfl rfl rfl rfl rfl rfl (WO.nil (qs (W.ret (QV.ar aa trivial rfl ?_))))
 rfl
theorem dY (l : List Int) (h : l.length ≤ 100000) : aw Try.prog 21 [.d (.sl (l.map ic))] (.d (.sl ((l.map cQ).map aD.c))) 0 := by
 have hlm : l.length ≤ maxLen := by simp only [maxLen]; omega
 refine aw.a8 (n := 20) (ts := [2]) Try.func21 (by kernel_rfl) rfl Try.ntmps21 Try.results21 rfl rfl fun C hC hG => ?_
 refine W.seq (W.region (pE rfl (WO.nil (qs (W.seq (W.region (pE rfl (WO.nil (qs ?_)))))))))
 iterate 2 refine W.seq ?_
 refine W.region (pE rfl (WO.nil (qs (W.block (aU (d := 3) rfl rfl ?_)))))
 refine W.aW (ι := {x : Nat × List aD // match x with | (k, out) => k ≤ l.length ∧ out = (l.take k).map cQ})
  (fun x => match x.1 with | (k, out) => [(3, .own 0 (out.map aD.c)), (4, .d (.v (.int .i64 ((k : Nat) : Int))))]) [(0, _)]
  (fun x => match x.1 with | (k, out) => []) [] [0] 1 (fun x => match x.1 with | (k, out) => l.length - k)
  [0] ⟨(0, []), ?_⟩ rfl ?_ ⟨rfl, rfl, trivial⟩ ?_ trivial rfl ?_
 · exact ⟨Nat.zero_le _, rfl⟩
 · repeat' first | exact trivial | refine ⟨rfl, ?_⟩
 · repeat' exact trivial
 rintro ⟨⟨k, out⟩, hk, hI⟩
 show W _ _ _ _ _ ⟨[(3, .own 0 (out.map aD.c)), (4, .d (.v (.int .i64 ((k : Nat) : Int)))), (0, _)], [], [0], 1⟩
 iterate 2 refine W.seq ?_
 refine W.region ?_
 iterate 4 refine pE rfl ?_
 refine WO.nil (qs (bg (l := l) (k := k) rfl (by simp [Ex.aF, aK]) hk (fun s hx hd hlt => ?_) (fun he hd => ?_)))
 ·
  have hol : out.length ≤ k := by rw [hI]; simp; omega
  refine W.skip (qs (W.seq (W.block (W.region ?_))))
  iterate 3 refine pE rfl ?_
  refine pu (indexAddr aa rfl rfl rfl rfl rfl rfl (Int.natCast_nonneg _) (aH (by assumption)) rfl) rfl ?_
  refine pE rfl (pu (ae rfl rfl rfl ((cq _)) rfl) rfl ?_)
  refine pu (aG aa rfl rfl rfl rfl rfl rfl rfl rfl rfl) rfl ?_
  refine ck (fn := aD.c) (a := cQ s) aa rfl rfl rfl rfl rfl rfl rfl rfl rfl rfl (fun _ => rfl) (by show (out.length + 1) * 32 ≤ _; omega) ?_
  refine pE rfl (WO.nil (a0 (qs (W.region ?_))))
  iterate 3 refine pE rfl ?_
  refine WO.nil (W.aY [1] ⟨(k + 1, out ++ [cQ s]), ?_⟩ ?_ rfl ?_ ⟨rfl, rfl, trivial⟩ ?_ trivial rfl)
  · exact ⟨hlt, by rw [hI, List.take_add_one, hx]; simp⟩
  · dsimp only; omega
  · repeat' first | exact trivial | refine ⟨rfl, ?_⟩ | refine ⟨aE (by assumption) (by assumption), ?_⟩
  repeat' exact trivial
 have hfin : out = l.map cQ := by rw [hI, List.take_of_length_le (by have := congrArg List.length hd; simp at this; omega)]
 refine W.exit (aN (aR (aO (qs (W.seq (W.region ?_))))))
 iterate 2 refine pE rfl ?_
 refine WO.nil (qs (W.ret (QF.ar trivial rfl ?_)))
 simp only [norm, az]; rw [hfin]; rfl
theorem j8 (l : List ByteArray) (h : l.length ≤ 100000) : aw Try.prog 18 [.d (.sl (l.map sc))] (.d (.sl ((l.map fk).map Col.c))) 0 := by
 have hlm : l.length ≤ maxLen := by simp only [maxLen]; omega
 refine aw.a8 (n := 28) (ts := [2]) Try.func18 (by kernel_rfl) rfl Try.ntmps18 Try.results18 rfl rfl fun C hC hG => ?_
 refine W.seq (W.region (pE rfl (WO.nil (qs (W.seq (W.region (pE rfl (WO.nil (qs ?_)))))))))
 iterate 2 refine W.seq ?_
 refine W.region (pE rfl (WO.nil (qs (W.block (aU (d := 3) rfl rfl ?_)))))
 refine W.aW (ι := {x : Nat × List Col // match x with | (k, out) => k ≤ l.length ∧ out = (l.take k).map fk})
  (fun x => match x.1 with | (k, out) => [(3, .own 0 (out.map Col.c)), (4, .d (.v (.int .i64 ((k : Nat) : Int))))]) [(0, _)]
  (fun x => match x.1 with | (k, out) => []) [] [0] 1 (fun x => match x.1 with | (k, out) => l.length - k)
  [0] ⟨(0, []), ?_⟩ rfl ?_ ⟨rfl, rfl, trivial⟩ ?_ trivial rfl ?_
 · exact ⟨Nat.zero_le _, rfl⟩
 · repeat' first | exact trivial | refine ⟨rfl, ?_⟩
 · repeat' exact trivial
 rintro ⟨⟨k, out⟩, hk, hI⟩
 show W _ _ _ _ _ ⟨[(3, .own 0 (out.map Col.c)), (4, .d (.v (.int .i64 ((k : Nat) : Int)))), (0, _)], [], [0], 1⟩
 iterate 2 refine W.seq ?_
 refine W.region ?_
 iterate 4 refine pE rfl ?_
 refine WO.nil (qs (bg (l := l) (k := k) rfl (by simp [Ex.aF, aK]) hk (fun s hx hd hlt => ?_) (fun he hd => ?_)))
 ·
  have hol : out.length ≤ k := by rw [hI]; simp; omega
  refine W.skip (qs (W.seq (W.block (W.seq (W.region ?_)))))
  iterate 2 refine pE rfl ?_
  refine pu (indexAddr aa rfl rfl rfl rfl rfl rfl (Int.natCast_nonneg _) (aH (by assumption)) rfl) rfl ?_
  refine pE rfl (pu (build aa rfl rfl rfl rfl) rfl ?_)
  refine a9 aa rfl rfl rfl (aQ aa rfl rfl rfl rfl rfl rfl rfl rfl (WO.nil (qs ?_)))
  iterate 2 refine W.seq ?_
  refine W.region ?_
  iterate 2 refine pE rfl ?_
  refine pu (indexAddr aa rfl rfl rfl rfl rfl rfl (Int.natCast_nonneg _) (aH (by assumption)) rfl) rfl ?_
  refine pE rfl (pE rfl (WO.nil (qs (aq rfl (fun h21 => ?_) (fun h21 => ?_)))))
  ·
   have hs : s = B #[107] := by simpa using h21
   have hlc : fk s = ⟨s, 3⟩ := by unfold fk; rw [if_pos hs]
   refine W.region (pE rfl (aQ aa rfl rfl rfl rfl rfl rfl rfl rfl (WO.nil (qs (W.region (pE rfl (pE rfl (pu (aG aa rfl rfl rfl rfl rfl rfl rfl rfl rfl) rfl ?_))))))))
   refine ck (fn := Col.c) (a := fk s) aa rfl rfl (by rw [hlc]; rfl) rfl rfl rfl rfl rfl rfl rfl (fun _ => rfl) (by show (out.length + 1) * 24 ≤ _; omega) ?_
   refine pE rfl (WO.nil (a0 (qs (W.region ?_))))
   iterate 3 refine pE rfl ?_
   refine WO.nil (W.aY [2] ⟨(k + 1, out ++ [fk s]), ?_⟩ ?_ rfl ?_ ⟨rfl, rfl, trivial⟩ ?_ trivial rfl)
   · exact ⟨hlt, by rw [hI, List.take_add_one, hx]; simp⟩
   · dsimp only; omega
   · repeat' first | exact trivial | refine ⟨rfl, ?_⟩ | refine ⟨aE (by assumption) (by assumption), ?_⟩
   repeat' exact trivial
  have hs : ¬ s = B #[107] := by simpa using h21
  have hlc : fk s = ⟨s, 2⟩ := by unfold fk; rw [if_neg hs]
  refine W.skip (qs (W.region (pE rfl (pE rfl (pu (aG aa rfl rfl rfl rfl rfl rfl rfl rfl rfl) rfl ?_)))))
  refine ck (fn := Col.c) (a := fk s) aa rfl rfl (by rw [hlc]; rfl) rfl rfl rfl rfl rfl rfl rfl (fun _ => rfl) (by show (out.length + 1) * 24 ≤ _; omega) ?_
  refine pE rfl (WO.nil (a0 (qs (W.region ?_))))
  iterate 3 refine pE rfl ?_
  refine WO.nil (W.aY [2] ⟨(k + 1, out ++ [fk s]), ?_⟩ ?_ rfl ?_ ⟨rfl, rfl, trivial⟩ ?_ trivial rfl)
  · exact ⟨hlt, by rw [hI, List.take_add_one, hx]; simp⟩
  · dsimp only; omega
  · repeat' first | exact trivial | refine ⟨rfl, ?_⟩ | refine ⟨aE (by assumption) (by assumption), ?_⟩
  repeat' exact trivial
 have hfin : out = l.map fk := by rw [hI, List.take_of_length_le (by have := congrArg List.length hd; simp at this; omega)]
 refine W.exit (aN (aR (aO (qs (W.seq (W.region ?_))))))
 iterate 2 refine pE rfl ?_
 refine WO.nil (qs (W.ret (QF.ar trivial rfl ?_)))
 simp only [norm, az]; rw [hfin]; rfl
theorem u7 (a b : List aD) : aw Try.prog 50 [.d (.sl (a.map aD.c)), .d (.sl (b.map aD.c))] (.d (.v (.bool (decide (a = b))))) 0 := by
 refine aw.a8 (n := 26) (ts := [4]) Try.func50 (by kernel_rfl) rfl Try.ntmps50 Try.results50 rfl rfl fun C hC hG => ?_
 refine W.seq (W.region (pE rfl (WO.nil (qs ?_))))
 iterate 2 refine W.seq ?_
 refine W.region ?_
 iterate 5 refine pE rfl ?_
 refine WO.nil (qs (aq rfl (fun h10 => ?_) (fun h10 => ?_)))
 ·
  have hg : decide (a = b) = false := decide_eq_false (by rintro rfl; simp at h10)
  refine W.seq (W.region (pE rfl (WO.nil (qs (W.ret (an (QF.ar trivial rfl ?_)))))))
  rw [hg]; rfl
 have hl2 : a.length = b.length := by simp at h10; omega
 refine W.skip (qs ?_)
 iterate 2 refine W.seq ?_
 refine W.region (pE rfl (WO.nil (qs (W.block (W.len (t := 0) rfl rfl (fun hlen => ?_))))))
 try simp only [List.length_map, Ex.aF] at hlen
 refine W.aW (ι := {x : Nat // match x with | k => k ≤ a.length ∧ (a.drop k = b.drop k ↔ a = b)})
  (fun x => match x.1 with | k => [(5, .d (.v (.int .i64 ((k : Nat) : Int))))]) [(0, _), (1, _)]
  (fun x => match x.1 with | k => []) [] [] 0 (fun x => match x.1 with | k => a.length - k)
  [] ⟨0, ?_⟩ rfl ?_ ⟨rfl, rfl, rfl, rfl, trivial⟩ ?_ trivial rfl ?_
 · exact ⟨Nat.zero_le _, by simp⟩
 · repeat' first | exact trivial | refine ⟨rfl, ?_⟩
 · repeat' exact trivial
 rintro ⟨k, hk, hI⟩
 show W _ _ _ _ _ ⟨[(5, .d (.v (.int .i64 ((k : Nat) : Int)))), (0, _), (1, _)], [], [], 0⟩
 iterate 2 refine W.seq ?_
 refine W.region ?_
 iterate 4 refine pE rfl ?_
 refine WO.nil (qs (bg (l := a) (k := k) rfl (by simp [Ex.aF, aK]) hk (fun x hx hd hlt => ?_) (fun he hd => ?_)))
 ·
  obtain ⟨y, hy⟩ : ∃ y, b[k]? = some y := ⟨b[k]'(by omega), by simp⟩
  have hd2 : b.drop k = y :: b.drop (k + 1) := by
   have hlt2 : k < b.length := by omega
   have := List.drop_eq_getElem_cons hlt2
   rw [this, (List.getElem?_eq_some_iff.1 hy).2]
  rw [hd, hd2] at hI
  refine W.skip (qs (W.seq (W.block (W.seq (W.bE aa (by kernel_rfl) ?_)))))
  iterate 2 refine ao (ev aa rfl) rfl ?_
  refine ao (indexAddr aa rfl rfl rfl rfl rfl rfl (Int.natCast_nonneg _) (aH hx) rfl) rfl ?_
  refine ao (ev aa rfl) rfl ?_
  iterate 2 refine ao (ev aa rfl) rfl ?_
  refine ao (indexAddr (l := y.c) aa rfl rfl rfl rfl rfl rfl (Int.natCast_nonneg _) (aH hy) rfl) rfl ?_
  refine ao (ev aa rfl) rfl ?_
  refine ao (ev aa rfl) rfl ?_
  refine CH.nil ?_
  refine qs (aq rfl (fun h25 => ?_) (fun h25 => ?_))
  ·
   have hxy : x ≠ y := by rintro rfl; simp at h25
   have hg : decide (a = b) = false := decide_eq_false (fun q => by have := hI.2 q; simp at this; exact hxy this.1)
   refine W.seq (W.region (pE rfl (WO.nil (qs (W.ret (au (an (bw (au (an (QF.ar trivial rfl ?_)))))))))))
   rw [hg]; rfl
  have hxy : x = y := by
   have := kl (a := x) (b := y)
   exact of_decide_eq_true (by rw [← this]; simpa using h25)
  have hn : a.drop (k + 1) = b.drop (k + 1) ↔ a = b := by rw [← hI, hxy]; simp
  refine W.skip (a0 (qs (W.region ?_)))
  iterate 3 refine pE rfl ?_
  refine WO.nil (W.aY [] ⟨k + 1, ?_⟩ ?_ rfl ?_ ⟨rfl, rfl, rfl, rfl, trivial⟩ ?_ trivial rfl)
  · exact ⟨hlt, hn⟩
  · dsimp only; omega
  · repeat' first | exact trivial | refine ⟨aE (by assumption) (by assumption), ?_⟩
  repeat' exact trivial
 have hd2 : b.drop k = [] := List.drop_eq_nil_of_le (by have := congrArg List.length hd; simp at this; omega)
 rw [hd, hd2] at hI
 have hg : decide (a = b) = true := decide_eq_true (hI.1 rfl)
 refine W.exit (aN (aR (aO (qs (W.seq (W.region (pE rfl (WO.nil (qs (W.ret (QF.ar trivial rfl ?_)))))))))))
 rw [hg]; rfl
theorem uo (a b : List aD) : aw Try.prog 36 [.d (.sl (a.map aD.c)), .d (.sl (b.map aD.c))] (.d (.v (.bool (decide (a = b))))) 0 := by
 refine aw.a8 (n := 8) (ts := [4]) Try.func36 (by kernel_rfl) rfl Try.ntmps36 Try.results36 rfl rfl fun C hC hG => ?_
 refine W.seq (W.region (pE rfl (WO.nil (qs (W.seq (W.region ?_))))))
 iterate 2 refine pE rfl ?_
 refine pu (ae rfl rfl rfl (u7 a b) rfl) rfl ?_
 refine pE rfl (WO.nil (qs (W.ret (QF.ar trivial rfl ?_))))
 rfl
theorem qq (t : bj) : aw Try.prog 17 [.ag t.c] (.d (.v (.bool (jX t)))) 0 := by
 refine aw.a8 (n := 36) (ts := [2]) Try.func17 (by kernel_rfl) rfl Try.ntmps17 Try.results17 rfl rfl fun C hC hG => ?_
 refine W.seq (W.region (bM rfl rfl rfl (pE rfl (WO.nil (qs (W.seq (W.region (pE rfl (pE rfl ?_)))))))))
 iterate 2 refine pE rfl ?_
 refine WO.nil (qs ?_)
 iterate 2 refine W.seq ?_
 refine W.region (pE rfl (WO.nil (qs (W.block (l5 (g := 0) (j := 1) rfl rfl (fun hlen => ?_))))))
 rw [List.length_map] at hlen
 refine W.aW (ι := {x : Nat × Int // match x with | (k, n) => k ≤ t.rows.length ∧ jT (t.rows.drop k) n = jT t.rows (t.ab.length : Int)})
  (fun x => match x.1 with | (k, n) => [(1, .ptr 0 0), (3, .d (.v (.int .i64 (n)))), (4, .d (.v (.int .i64 ((k : Nat) : Int))))]) []
  (fun x => match x.1 with | (k, n) => [(0, t.c.map A.d)]) [] [] 1 (fun x => match x.1 with | (k, n) => t.rows.length - k)
  [0] ⟨(0, ((t.ab.map Col.c).length : Int)), ?_⟩ rfl ?_ trivial ?_ trivial rfl ?_
 · exact ⟨Nat.zero_le _, by rw [List.length_map]; rfl⟩
 · repeat' first | exact trivial | refine ⟨rfl, ?_⟩
 · repeat' first | exact trivial | refine ⟨rfl, ?_⟩
 rintro ⟨⟨k, n⟩, hk, hI⟩
 show W _ _ _ _ _ ⟨[(1, .ptr 0 0), (3, .d (.v (.int .i64 (n)))), (4, .d (.v (.int .i64 ((k : Nat) : Int))))], [(0, t.c.map A.d)], [], 1⟩
 iterate 2 refine W.seq ?_
 apply aI; (case hb => rfl)
 ·
  iterate 2 refine pE rfl ?_
  refine pE rfl ?_
  iterate 3 refine pE rfl ?_
  apply aC; (case hj => rfl); (case hl => rfl)
  ·
   refine ah rfl rfl (pE rfl (ah rfl rfl ?_))
   iterate 2 refine pE rfl ?_
   refine WO.nil (aA rfl rfl rfl)
  iterate 2 refine ay rfl rfl rfl rfl ?_
  refine pE rfl (WO.nil (aA rfl rfl rfl))
 refine qs (aq rfl (fun h16 => ?_) (fun h16 => ?_))
 ·
  have hlt : k < t.rows.length := by
   revert h16
   by_cases q : (k : Int) < (t.rows.length : Int)
   · intro _; omega
   simp [q]
  have hn6 : n ≤ 600 := by
   revert h16
   by_cases q : n ≤ 600
   · intro _; exact q
   simp [q]
  obtain ⟨x, hx⟩ : ∃ x, t.rows[k]? = some x := ⟨t.rows[k], by simp [hlt]⟩
  have hd : t.rows.drop k = x :: t.rows.drop (k + 1) := by
   have := List.drop_eq_getElem_cons hlt
   rw [this, (List.getElem?_eq_some_iff.1 hx).2]
  rw [hd] at hI
  simp only [jT] at hI
  rw [if_pos hn6] at hI
  refine W.skip (qs (W.seq (W.block (W.region ?_))))
  iterate 3 refine pE rfl ?_
  refine pE rfl (pE rfl (pu (indexAddr aa rfl rfl rfl rfl rfl rfl (Int.natCast_nonneg _) (aH hx) rfl) rfl ?_))
  refine pE rfl ?_
  iterate 3 refine pE rfl ?_
  refine WO.nil (a0 (qs (W.region ?_)))
  iterate 3 refine pE rfl ?_
  refine WO.nil (W.aY [0] ⟨(k + 1, IntKind.i64.wrap (IntKind.i64.wrap (n + 1) + ((x.map aD.c).length : Int))), ?_⟩ ?_ rfl ?_ trivial ?_ trivial rfl)
  · exact ⟨hlt, by rw [List.length_map]; exact hI⟩
  · dsimp only; omega
  · repeat' first | exact trivial | refine ⟨rfl, ?_⟩ | refine ⟨aE (by assumption) (by assumption), ?_⟩
  repeat' first | exact trivial | refine ⟨rfl, ?_⟩
 have hfin : jT t.rows (t.ab.length : Int) = n := by
  rw [← hI]
  cases hdd : t.rows.drop k with
  | nil => rfl
  | cons x r =>
   have hlt : k < t.rows.length := by have := congrArg List.length hdd; simp at this; omega
   have q : (k : Int) < (t.rows.length : Int) := by omega
   have q2 : ¬ n ≤ 600 := by
    intro q2
    revert h16
    simp [q, q2]
   simp only [jT]
   rw [if_neg q2]
 refine W.exit (aN (aR (aO (qs (W.seq ?_)))))
 apply aI; (case hb => rfl)
 ·
  iterate 3 refine pE rfl ?_
  apply aC; (case hj => rfl); (case hl => rfl)
  ·
   refine ah rfl rfl (pE rfl (ah rfl rfl (pE rfl (ah rfl rfl (pE rfl (ah rfl rfl ?_))))))
   iterate 3 refine pE rfl ?_
   refine WO.nil (aA rfl rfl rfl)
  iterate 4 refine ay rfl rfl rfl rfl ?_
  iterate 2 refine pE rfl ?_
  refine WO.nil (aA rfl rfl rfl)
 refine qs (W.ret (QF.ar trivial rfl ?_))
 simp only [norm, az]; unfold jX; rw [hfin]; first | rfl | (simp; done) | skip
end Go.Proofs.Ytjenenllmjlimaa
namespace Go.Proofs.Ytjenenllmjlimaa
open Go.Ab Go.Tb
set_option maxRecDepth 10000
attribute [local irreducible] W WO Pu QS QB QL QF QV bO CH QE
theorem wE (a b : bj) (on : List ByteArray) : aw Try.prog 6 [.ag a.c, .ag b.c, .d (.sl (on.map sc))] (.d (.v (.bool (pk a b on)))) 0 := by
 refine aw.a8 (n := 18) (ts := [6]) Try.func6 (by kernel_rfl) rfl Try.ntmps6 Try.results6 rfl rfl fun C hC hG => ?_
 refine W.seq (W.region (bM rfl rfl rfl (bM rfl rfl rfl (pE rfl (WO.nil (qs (W.seq ?_)))))))
 apply aI; (case hb => rfl)
 ·
  refine pE rfl (pu (ae rfl rfl rfl (qq a) rfl) rfl ?_)
  refine pE rfl ?_
  apply aC; (case hj => rfl); (case hl => rfl)
  ·
   refine ah rfl rfl (pE rfl (ah rfl rfl (pu (ae rfl rfl rfl (qq b) rfl) rfl ?_)))
   iterate 2 refine pE rfl ?_
   apply aC; (case hj => rfl); (case hl => rfl)
   ·
    refine ah rfl rfl (pE rfl (ah rfl rfl (pE rfl (ah rfl rfl ?_))))
    iterate 3 refine pE rfl ?_
    refine WO.nil (aA rfl rfl rfl)
   iterate 3 refine ay rfl rfl rfl rfl ?_
   iterate 2 refine pE rfl ?_
   refine WO.nil (aA rfl rfl rfl)
  iterate 2 refine ay rfl rfl rfl rfl ?_
  iterate 2 refine pE rfl ?_
  iterate 3 refine ay rfl rfl rfl rfl ?_
  iterate 2 refine pE rfl ?_
  refine WO.nil (aA rfl rfl rfl)
 refine qs (W.ret (QF.ar trivial rfl ?_))
 simp only [norm, az]; unfold pk; rw [List.length_map]; cases jX a <;> cases jX b <;> rfl
theorem uH {a b : Col} : (decide (a.name = b.name) && decide (a.type = b.type)) = decide (a = b) := by
 obtain ⟨x, y⟩ := a
 obtain ⟨x', y'⟩ := b
 simp only [Col.mk.injEq]
 by_cases h1 : x = x' <;> by_cases h2 : y = y' <;> simp [h1, h2]
theorem rK (a b : bj) : aw Try.prog 13 [.ag a.c, .ag b.c] (.d (.v (.bool (decide (a = b))))) 0 := by
 refine aw.a8 (n := 60) (ts := [4]) Try.func13 (by kernel_rfl) rfl Try.ntmps13 Try.results13 rfl rfl fun C hC hG => ?_
 refine W.seq (W.region (bM rfl rfl rfl (bM rfl rfl rfl (pE rfl (WO.nil (qs ?_))))))
 iterate 2 refine W.seq ?_
 apply aI; (case hb => rfl)
 ·
  refine pE rfl (pE rfl ?_)
  iterate 2 refine pE rfl ?_
  refine pE rfl ?_
  iterate 3 refine pE rfl ?_
  apply aC; (case hj => rfl); (case hl => rfl)
  ·
   iterate 7 refine ay rfl rfl rfl rfl ?_
   refine pE rfl (WO.nil (aA rfl rfl rfl))
  refine ah rfl rfl (pE rfl (ah rfl rfl (pE rfl (ah rfl rfl (pE rfl (ah rfl rfl (pE rfl (ah rfl rfl (pE rfl (ah rfl rfl (pE rfl (ah rfl rfl ?_))))))))))))
  iterate 2 refine pE rfl ?_
  refine WO.nil (aA rfl rfl rfl)
 refine qs (aq rfl (fun h22 => ?_) (fun h22 => ?_))
 ·
  have hg : decide (a = b) = false := decide_eq_false (by rintro rfl; simp at h22)
  refine W.seq (W.region (pE rfl (WO.nil (qs (W.ret (an (QF.ar trivial rfl ?_)))))))
  rw [hg]; rfl
 have hl2 : a.ab.length = b.ab.length ∧ a.rows.length = b.rows.length := by
  revert h22
  by_cases q : (a.ab.length : Int) = (b.ab.length : Int)
  ·
   simp only [List.length_map, q, decide_true, Bool.not_true, cond_false]
   intro h
   simp at h
   omega
  simp [q]
 refine W.skip (qs ?_)
 iterate 2 refine W.seq ?_
 refine W.region (pE rfl (WO.nil (qs (W.block (l5 (g := 0) (j := 0) rfl rfl (fun hlen0 => ?_))))))
 rw [List.length_map] at hlen0
 refine l5 (g := 0) (j := 1) rfl rfl (fun hlen1 => ?_)
 rw [List.length_map] at hlen1
 refine W.aW (ι := {x : Nat // match x with | k => k ≤ a.ab.length ∧ (a.ab.drop k = b.ab.drop k ↔ a.ab = b.ab)})
  (fun x => match x.1 with | k => [(2, .ptr 0 0), (3, .ptr 1 0), (5, .d (.v (.int .i64 ((k : Nat) : Int))))]) []
  (fun x => match x.1 with | k => [(0, a.c.map A.d), (1, b.c.map A.d)]) [] [] 2 (fun x => match x.1 with | k => a.ab.length - k)
  [0, 1] ⟨0, ?_⟩ rfl ?_ trivial ?_ trivial rfl ?_
 · exact ⟨Nat.zero_le _, by simp⟩
 · repeat' first | exact trivial | refine ⟨rfl, ?_⟩
 · repeat' first | exact trivial | refine ⟨rfl, ?_⟩
 rintro ⟨k, hk, hI⟩
 show W _ _ _ _ _ ⟨[(2, .ptr 0 0), (3, .ptr 1 0), (5, .d (.v (.int .i64 ((k : Nat) : Int))))], [(0, a.c.map A.d), (1, b.c.map A.d)], [], 2⟩
 iterate 2 refine W.seq ?_
 refine W.region ?_
 iterate 2 refine pE rfl ?_
 refine pE rfl ?_
 iterate 2 refine pE rfl ?_
 refine WO.nil (qs (bg (l := a.ab) (k := k) rfl (by simp [Ex.aF, aK]) hk (fun x hx hd hlt => ?_) (fun he hd => ?_)))
 ·
  obtain ⟨y, hy⟩ : ∃ y, b.ab[k]? = some y := ⟨b.ab[k]'(by omega), by simp⟩
  have hd2 : b.ab.drop k = y :: b.ab.drop (k + 1) := by
   have hlt2 : k < b.ab.length := by omega
   have := List.drop_eq_getElem_cons hlt2
   rw [this, (List.getElem?_eq_some_iff.1 hy).2]
  rw [hd, hd2] at hI
  refine W.skip (qs (W.seq (W.block (W.seq (W.bE aa (by kernel_rfl) ?_)))))
  refine ao (ev aa rfl) rfl ?_
  refine ao (ev aa rfl) rfl ?_
  refine ao (ev aa rfl) rfl ?_
  refine ao (indexAddr aa rfl rfl rfl rfl rfl rfl (Int.natCast_nonneg _) (aH hx) rfl) rfl ?_
  refine ao (ev aa rfl) rfl ?_
  refine ao (ev aa rfl) rfl ?_
  refine ao (ev aa rfl) rfl ?_
  refine ao (ev aa rfl) rfl ?_
  refine ao (indexAddr (l := y.c) aa rfl rfl rfl rfl rfl rfl (Int.natCast_nonneg _) (aH hy) rfl) rfl ?_
  refine ao (ev aa rfl) rfl ?_
  refine ao (ev aa rfl) rfl ?_
  refine CH.nil ?_
  refine qs (aq rfl (fun h40 => ?_) (fun h40 => ?_))
  ·
   have hxy : x ≠ y := by rintro rfl; simp at h40
   have hg : decide (a = b) = false := decide_eq_false (fun q => by have := hI.2 (by rw [q]); simp at this; exact hxy this.1)
   refine W.seq (W.region (pE rfl (WO.nil (qs (W.ret (au (an (bw (au (an (QF.ar trivial rfl ?_)))))))))))
   rw [hg]; rfl
  have hxy : x = y := by
   have := uH (a := x) (b := y)
   exact of_decide_eq_true (by rw [← this]; simpa using h40)
  have hn : a.ab.drop (k + 1) = b.ab.drop (k + 1) ↔ a.ab = b.ab := by rw [← hI, hxy]; simp
  refine W.skip (a0 (qs (W.region ?_)))
  iterate 3 refine pE rfl ?_
  refine WO.nil (W.aY [0, 1] ⟨k + 1, ?_⟩ ?_ rfl ?_ trivial ?_ trivial rfl)
  · exact ⟨hlt, hn⟩
  · dsimp only; omega
  · repeat' first | exact trivial | refine ⟨rfl, ?_⟩ | refine ⟨aE (by assumption) (by assumption), ?_⟩
  repeat' first | exact trivial | refine ⟨rfl, ?_⟩
 have hd2 : b.ab.drop k = [] := List.drop_eq_nil_of_le (by have := congrArg List.length hd; simp at this; omega)
 rw [hd, hd2] at hI
 have hce : a.ab = b.ab := hI.1 rfl
 refine W.exit (aN (aR (aO (qs ?_))))
 iterate 2 refine W.seq ?_
 refine W.region (pE rfl (WO.nil (qs (W.block ?_))))
 refine W.aW (ι := {x : Nat // match x with | k => k ≤ a.rows.length ∧ (a.rows.drop k = b.rows.drop k ↔ a.rows = b.rows)})
  (fun x => match x.1 with | k => [(2, .ptr 0 0), (3, .ptr 1 0), (6, .d (.v (.int .i64 ((k : Nat) : Int))))]) []
  (fun x => match x.1 with | k => [(0, a.c.map A.d), (1, b.c.map A.d)]) [] [] 2 (fun x => match x.1 with | k => a.rows.length - k)
  [0, 1] ⟨0, ?_⟩ rfl ?_ trivial ?_ trivial rfl ?_
 · exact ⟨Nat.zero_le _, by simp⟩
 · repeat' first | exact trivial | refine ⟨rfl, ?_⟩
 · repeat' first | exact trivial | refine ⟨rfl, ?_⟩
 rintro ⟨k, hk, hR⟩
 show W _ _ _ _ _ ⟨[(2, .ptr 0 0), (3, .ptr 1 0), (6, .d (.v (.int .i64 ((k : Nat) : Int))))], [(0, a.c.map A.d), (1, b.c.map A.d)], [], 2⟩
 iterate 2 refine W.seq ?_
 refine W.region ?_
 iterate 2 refine pE rfl ?_
 refine pE rfl ?_
 iterate 2 refine pE rfl ?_
 refine WO.nil (qs (bg (l := a.rows) (k := k) rfl (by simp [Ex.aF, aK]) hk (fun x hx hd hlt => ?_) (fun he hd => ?_)))
 ·
  obtain ⟨y, hy⟩ : ∃ y, b.rows[k]? = some y := ⟨b.rows[k]'(by omega), by simp⟩
  have hd2 : b.rows.drop k = y :: b.rows.drop (k + 1) := by
   have hlt2 : k < b.rows.length := by omega
   have := List.drop_eq_getElem_cons hlt2
   rw [this, (List.getElem?_eq_some_iff.1 hy).2]
  rw [hd, hd2] at hR
  refine W.skip (qs (W.seq (W.block (W.seq (W.bE aa (by kernel_rfl) ?_)))))
  refine ao (ev aa rfl) rfl ?_
  refine ao (ev aa rfl) rfl ?_
  refine ao (ev aa rfl) rfl ?_
  refine ao (indexAddr aa rfl rfl rfl rfl rfl rfl (Int.natCast_nonneg _) (aH hx) rfl) rfl ?_
  refine ao (ev aa rfl) rfl ?_
  refine ao (ev aa rfl) rfl ?_
  refine ao (ev aa rfl) rfl ?_
  refine ao (ev aa rfl) rfl ?_
  refine ao (indexAddr (l := rc y) aa rfl rfl rfl rfl rfl rfl (Int.natCast_nonneg _) (aH hy) rfl) rfl ?_
  refine ao (ev aa rfl) rfl ?_
  refine ao (ae rfl rfl rfl (uo x y) rfl) rfl ?_
  refine ao (ev aa rfl) rfl ?_
  refine CH.nil ?_
  refine qs (aq rfl (fun h59 => ?_) (fun h59 => ?_))
  ·
   have hxy : x ≠ y := by simpa using h59
   have hg : decide (a = b) = false := decide_eq_false (fun q => by have := hR.2 (by rw [q]); simp at this; exact hxy this.1)
   refine W.seq (W.region (pE rfl (WO.nil (qs (W.ret (au (an (bw (au (an (QF.ar trivial rfl ?_)))))))))))
   rw [hg]; rfl
  have hxy : x = y := by simpa using h59
  have hn : a.rows.drop (k + 1) = b.rows.drop (k + 1) ↔ a.rows = b.rows := by rw [← hR, hxy]; simp
  refine W.skip (a0 (qs (W.region ?_)))
  iterate 3 refine pE rfl ?_
  refine WO.nil (W.aY [0, 1] ⟨k + 1, ?_⟩ ?_ rfl ?_ trivial ?_ trivial rfl)
  · exact ⟨hlt, hn⟩
  · dsimp only; omega
  · repeat' first | exact trivial | refine ⟨rfl, ?_⟩ | refine ⟨aE (by assumption) (by assumption), ?_⟩
  repeat' first | exact trivial | refine ⟨rfl, ?_⟩
 have hd2 : b.rows.drop k = [] := List.drop_eq_nil_of_le (by have := congrArg List.length hd; simp at this; omega)
 rw [hd, hd2] at hR
 have hg : decide (a = b) = true := decide_eq_true (by cases a; cases b; simp only [bj.mk.injEq]; exact ⟨hce, hR.1 rfl⟩)
 refine W.exit (aN (aR (aO (qs (W.seq (W.region (pE rfl (WO.nil (qs (W.ret (QF.ar trivial rfl ?_)))))))))))
 rw [hg]; rfl
def wK : ByteArray := B #[107]
def wV : ByteArray := B #[118]
def tA : bj := ⟨[wK, aJ, br].map fk, [[nu (B #[120]), cQ 0, cQ 10], [nu (B #[121]), cQ 0, cQ 10]]⟩
def tB : bj := ⟨[wK, aJ, br, wV].map fk, [[nu (B #[120]), cQ 5, cQ 20, cQ 1], [nu (B #[120]), cQ 10, cQ 12, cQ 2]]⟩
def tW : bj := ⟨[wK, aJ, br, wV].map fk, [[nu (B #[120]), cQ 5, cQ 10, cQ 1]]⟩
def tC : bj := ⟨[aJ].map fk, [[7].map cQ, [2].map cQ]⟩
def tD : bj := ⟨[aJ, wV].map fk, [[3, 1].map cQ, [5, 2].map cQ, [5, 3].map cQ, [9, 4].map cQ]⟩
def tN : bj := ⟨[aJ, wV].map fk, [[7, 3].map cQ, [cQ 2, fg]]⟩
def tS : bj := ⟨[aJ, br].map fk, [[0, 3].map cQ, [7, 9].map cQ, [8, 8].map cQ, [3, 5].map cQ]⟩
def tU : bj := ⟨[aJ, br].map fk, [[0, 5].map cQ, [7, 9].map cQ]⟩
set_option maxRecDepth 100000 in
theorem yH : eH tA tB [wK] = (tW, 0) := by decide +kernel
set_option maxRecDepth 100000 in
theorem yM : eH tA tB [] = (ff, 4) := by decide +kernel
set_option maxRecDepth 100000 in
theorem yE : fU tC tD [] = (tN, 0) := by decide +kernel
set_option maxRecDepth 100000 in
theorem yC : aX tS [] = (tU, 0) := by decide +kernel
end Go.Proofs.Ytjenenllmjlimaa
namespace Go.Proofs.Ytjenenllmjlimaa
open Go.Ab Go.Tb
set_option maxRecDepth 10000
attribute [local irreducible] W WO Pu QS QB QL QF QV bO CH QE
theorem ma : aw Try.prog 7 [] (.d (.v (.bool true))) 0 := by
 have hov1 : aw Try.prog 8 [.ag tA.c, .ag tB.c, .d (.sl ([wK].map sc))] (.tup [.ag tW.c, .d (.v (.int .i64 0))]) 0 := by have := pq tA tB [wK] (by decide); rw [yH] at this; exact this
 have hov2 : aw Try.prog 8 [.ag tA.c, .ag tB.c, .d (.sl (([] : List ByteArray).map sc))] (.tup [.ag ff.c, .d (.v (.int .i64 4))]) 0 := by have := pq tA tB [] (by decide); rw [yM] at this; exact this
 have hne : aw Try.prog 11 [.ag tC.c, .ag tD.c, .d (.sl (([] : List ByteArray).map sc))] (.tup [.ag tN.c, .d (.v (.int .i64 0))]) 0 := by have := tP tC tD [] (by decide); rw [yE] at this; exact this
 have hco : aw Try.prog 12 [.ag tS.c, .d (.sl (([] : List ByteArray).map sc))] (.tup [.ag tU.c, .d (.v (.int .i64 0))]) 0 := by have := kN tS [] (by decide); rw [yC] at this; exact this
 have hs : ∀ t : bj, aw Try.prog 13 [.ag t.c, .ag t.c] (.d (.v (.bool true))) 0 := fun t => by have := rK t t; rw [decide_eq_true (rfl : t = t)] at this; exact this
 refine aw.a8 (n := 154) (ts := [0]) Try.func7 (by kernel_rfl) rfl Try.ntmps7 Try.results7 rfl rfl fun C hC hG => ?_
 refine W.seq (W.region (pE rfl (WO.nil (qs (W.seq (W.region (pu (aG aa rfl rfl rfl rfl rfl rfl rfl rfl rfl) rfl ?_)))))))
 refine pu (ae rfl rfl rfl (j8 [wK, aJ, br] (by decide)) rfl) rfl ?_
 refine pu (ae rfl rfl rfl ((jR _)) rfl) rfl ?_
 refine pu (ae rfl rfl rfl ((cq _)) rfl) rfl ?_
 refine pu (ae rfl rfl rfl ((cq _)) rfl) rfl ?_
 refine pu (aG aa rfl rfl rfl rfl rfl rfl rfl rfl rfl) rfl ?_
 refine pu (ae rfl rfl rfl ((jR _)) rfl) rfl ?_
 refine pu (ae rfl rfl rfl ((cq _)) rfl) rfl ?_
 refine pu (ae rfl rfl rfl ((cq _)) rfl) rfl ?_
 refine pu (aG aa rfl rfl rfl rfl rfl rfl rfl rfl rfl) rfl ?_
 refine pu (aG aa rfl rfl rfl rfl rfl rfl rfl rfl rfl) rfl ?_
 refine pu (build aa rfl rfl rfl rfl) rfl ?_
 refine a9 aa rfl rfl rfl (aQ aa rfl rfl rfl rfl rfl rfl rfl rfl (WO.nil (qs (W.seq (W.region (pu (aG aa rfl rfl rfl rfl rfl rfl rfl rfl rfl) rfl ?_))))))
 refine pu (ae rfl rfl rfl (j8 [wK, aJ, br, wV] (by decide)) rfl) rfl ?_
 refine pu (ae rfl rfl rfl ((jR _)) rfl) rfl ?_
 refine pu (ae rfl rfl rfl ((cq _)) rfl) rfl ?_
 refine pu (ae rfl rfl rfl ((cq _)) rfl) rfl ?_
 refine pu (ae rfl rfl rfl ((cq _)) rfl) rfl ?_
 refine pu (aG aa rfl rfl rfl rfl rfl rfl rfl rfl rfl) rfl ?_
 refine pu (ae rfl rfl rfl ((jR _)) rfl) rfl ?_
 refine pu (ae rfl rfl rfl ((cq _)) rfl) rfl ?_
 refine pu (ae rfl rfl rfl ((cq _)) rfl) rfl ?_
 refine pu (ae rfl rfl rfl ((cq _)) rfl) rfl ?_
 refine pu (aG aa rfl rfl rfl rfl rfl rfl rfl rfl rfl) rfl ?_
 refine pu (aG aa rfl rfl rfl rfl rfl rfl rfl rfl rfl) rfl ?_
 refine pu (build aa rfl rfl rfl rfl) rfl ?_
 refine a9 aa rfl rfl rfl (aQ aa rfl rfl rfl rfl rfl rfl rfl rfl (WO.nil (qs (W.seq (W.region (pE rfl (pE rfl (pu (aG aa rfl rfl rfl rfl rfl rfl rfl rfl rfl) rfl ?_))))))))
 refine pu (ae rfl rfl rfl hov1 rfl) rfl ?_
 iterate 3 refine pE rfl ?_
 refine a9 aa rfl rfl rfl (aQ aa rfl rfl rfl rfl rfl rfl rfl rfl (pE rfl (WO.nil (qs (W.seq (W.region (pE rfl (pE rfl (pu (qb rfl rfl rfl hov2 rfl) rfl ?_)))))))))
 iterate 3 refine pE rfl ?_
 refine a9 aa rfl rfl rfl (aQ aa rfl rfl rfl rfl rfl rfl rfl rfl (pE rfl (WO.nil (qs (W.seq (W.eW aa 10 1 (by kernel_rfl) rfl rfl ?_))))))
 refine aM rfl (ev aa rfl) rfl ?_
 refine aM rfl (ev aa rfl) rfl ?_
 refine aM rfl (ae rfl rfl rfl ((jR _)) rfl) rfl ?_
 refine aM rfl (ae rfl rfl rfl ((cq _)) rfl) rfl ?_
 refine aM rfl (ae rfl rfl rfl ((cq _)) rfl) rfl ?_
 refine aM rfl (ae rfl rfl rfl ((cq _)) rfl) rfl ?_
 refine aM rfl (aG aa rfl rfl rfl rfl rfl rfl rfl rfl rfl) rfl ?_
 refine aM rfl (aG aa rfl rfl rfl rfl rfl rfl rfl rfl rfl) rfl ?_
 refine aM rfl (build aa rfl rfl rfl rfl) rfl ?_
 refine ey 0 rfl rfl rfl rfl rfl rfl ?_
 refine CE.nil ?_
 refine aQ aa rfl rfl rfl rfl rfl rfl rfl rfl (WO.nil (qs (W.seq (W.region (pu (aG aa rfl rfl rfl rfl rfl rfl rfl rfl rfl) rfl ?_)))))
 refine pu (ae rfl rfl rfl (j8 [aJ] (by decide)) rfl) rfl ?_
 refine pu (aG aa rfl rfl rfl rfl rfl rfl rfl rfl rfl) rfl ?_
 refine pu (ae rfl rfl rfl (dY [7] (by decide)) rfl) rfl ?_
 refine pu (aG aa rfl rfl rfl rfl rfl rfl rfl rfl rfl) rfl ?_
 refine pu (ae rfl rfl rfl (dY [2] (by decide)) rfl) rfl ?_
 refine pu (aG aa rfl rfl rfl rfl rfl rfl rfl rfl rfl) rfl ?_
 refine pu (build aa rfl rfl rfl rfl) rfl ?_
 refine a9 aa rfl rfl rfl (aQ aa rfl rfl rfl rfl rfl rfl rfl rfl (WO.nil (qs (W.seq (W.region (pu (aG aa rfl rfl rfl rfl rfl rfl rfl rfl rfl) rfl ?_))))))
 refine pu (ae rfl rfl rfl (j8 [aJ, wV] (by decide)) rfl) rfl ?_
 refine pu (aG aa rfl rfl rfl rfl rfl rfl rfl rfl rfl) rfl ?_
 refine pu (ae rfl rfl rfl (dY [3, 1] (by decide)) rfl) rfl ?_
 refine pu (aG aa rfl rfl rfl rfl rfl rfl rfl rfl rfl) rfl ?_
 refine pu (ae rfl rfl rfl (dY [5, 2] (by decide)) rfl) rfl ?_
 refine pu (aG aa rfl rfl rfl rfl rfl rfl rfl rfl rfl) rfl ?_
 refine pu (ae rfl rfl rfl (dY [5, 3] (by decide)) rfl) rfl ?_
 refine pu (aG aa rfl rfl rfl rfl rfl rfl rfl rfl rfl) rfl ?_
 refine pu (ae rfl rfl rfl (dY [9, 4] (by decide)) rfl) rfl ?_
 refine pu (aG aa rfl rfl rfl rfl rfl rfl rfl rfl rfl) rfl ?_
 refine pu (build aa rfl rfl rfl rfl) rfl ?_
 refine a9 aa rfl rfl rfl (aQ aa rfl rfl rfl rfl rfl rfl rfl rfl (WO.nil (qs (W.seq (W.region (pE rfl (pE rfl (pu (qb rfl rfl rfl hne rfl) rfl ?_))))))))
 iterate 3 refine pE rfl ?_
 refine a9 aa rfl rfl rfl (aQ aa rfl rfl rfl rfl rfl rfl rfl rfl (pE rfl (WO.nil (qs (W.seq (W.eW aa 10 1 (by kernel_rfl) rfl rfl ?_))))))
 refine aM rfl (ev aa rfl) rfl ?_
 refine aM rfl (ev aa rfl) rfl ?_
 refine aM rfl (aG aa rfl rfl rfl rfl rfl rfl rfl rfl rfl) rfl ?_
 refine aM rfl (ae rfl rfl rfl (dY [7, 3] (by decide)) rfl) rfl ?_
 refine aM rfl (ae rfl rfl rfl ((cq _)) rfl) rfl ?_
 refine aM rfl (build aa rfl rfl rfl rfl) rfl ?_
 refine aM rfl (aG aa rfl rfl rfl rfl rfl rfl rfl rfl rfl) rfl ?_
 refine aM rfl (aG aa rfl rfl rfl rfl rfl rfl rfl rfl rfl) rfl ?_
 refine aM rfl (build aa rfl rfl rfl rfl) rfl ?_
 refine ey 0 rfl rfl rfl rfl rfl rfl ?_
 refine CE.nil ?_
 refine aQ aa rfl rfl rfl rfl rfl rfl rfl rfl (WO.nil (qs (W.seq (W.region (pu (aG aa rfl rfl rfl rfl rfl rfl rfl rfl rfl) rfl ?_)))))
 refine pu (ae rfl rfl rfl (j8 [aJ, br] (by decide)) rfl) rfl ?_
 refine pu (aG aa rfl rfl rfl rfl rfl rfl rfl rfl rfl) rfl ?_
 refine pu (ae rfl rfl rfl (dY [0, 3] (by decide)) rfl) rfl ?_
 refine pu (aG aa rfl rfl rfl rfl rfl rfl rfl rfl rfl) rfl ?_
 refine pu (ae rfl rfl rfl (dY [7, 9] (by decide)) rfl) rfl ?_
 refine pu (aG aa rfl rfl rfl rfl rfl rfl rfl rfl rfl) rfl ?_
 refine pu (ae rfl rfl rfl (dY [8, 8] (by decide)) rfl) rfl ?_
 refine pu (aG aa rfl rfl rfl rfl rfl rfl rfl rfl rfl) rfl ?_
 refine pu (ae rfl rfl rfl (dY [3, 5] (by decide)) rfl) rfl ?_
 refine pu (aG aa rfl rfl rfl rfl rfl rfl rfl rfl rfl) rfl ?_
 refine pu (build aa rfl rfl rfl rfl) rfl ?_
 refine a9 aa rfl rfl rfl (aQ aa rfl rfl rfl rfl rfl rfl rfl rfl (WO.nil (qs (W.seq (W.region (pE rfl (pu (qb rfl rfl rfl hco rfl) rfl ?_)))))))
 iterate 3 refine pE rfl ?_
 refine a9 aa rfl rfl rfl (aQ aa rfl rfl rfl rfl rfl rfl rfl rfl (pE rfl (WO.nil (qs (W.seq (W.eW aa 9 1 (by kernel_rfl) rfl rfl ?_))))))
 refine aM rfl (ev aa rfl) rfl ?_
 refine aM rfl (ev aa rfl) rfl ?_
 refine aM rfl (aG aa rfl rfl rfl rfl rfl rfl rfl rfl rfl) rfl ?_
 refine aM rfl (ae rfl rfl rfl (dY [0, 5] (by decide)) rfl) rfl ?_
 refine aM rfl (aG aa rfl rfl rfl rfl rfl rfl rfl rfl rfl) rfl ?_
 refine aM rfl (ae rfl rfl rfl (dY [7, 9] (by decide)) rfl) rfl ?_
 refine aM rfl (aG aa rfl rfl rfl rfl rfl rfl rfl rfl rfl) rfl ?_
 refine aM rfl (build aa rfl rfl rfl rfl) rfl ?_
 refine ey 0 rfl rfl rfl rfl rfl rfl ?_
 refine CE.nil ?_
 refine aQ aa rfl rfl rfl rfl rfl rfl rfl rfl (WO.nil (qs (W.seq ?_)))
 apply aI; (case hb => rfl)
 ·
  refine pE rfl (pE rfl (pu (ae rfl rfl rfl (hs tW) rfl) rfl ?_))
  refine pE rfl ?_
  apply aC; (case hj => rfl); (case hl => rfl)
  ·
   refine ah rfl rfl (pE rfl (ah rfl rfl ?_))
   iterate 3 refine pE rfl ?_
   apply aC; (case hj => rfl); (case hl => rfl)
   ·
    refine ah rfl rfl (pE rfl (ah rfl rfl ?_))
    iterate 3 refine pE rfl ?_
    apply aC; (case hj => rfl); (case hl => rfl)
    ·
     refine ah rfl rfl (pE rfl (ah rfl rfl (pE rfl (ah rfl rfl (pu (ae rfl rfl rfl (hs tN) rfl) rfl ?_)))))
     iterate 2 refine pE rfl ?_
     apply aC; (case hj => rfl); (case hl => rfl)
     ·
      refine ah rfl rfl (pE rfl (ah rfl rfl ?_))
      iterate 3 refine pE rfl ?_
      apply aC; (case hj => rfl); (case hl => rfl)
      ·
       refine ah rfl rfl (pE rfl (ah rfl rfl (pE rfl (ah rfl rfl (pu (ae rfl rfl rfl (hs tU) rfl) rfl ?_)))))
       iterate 2 refine pE rfl ?_
       apply aC; (case hj => rfl); (case hl => rfl)
       ·
        refine ah rfl rfl (pE rfl (ah rfl rfl ?_))
        iterate 3 refine pE rfl ?_
        refine WO.nil (aA rfl rfl rfl)
       iterate 2 refine ay rfl rfl rfl rfl ?_
       iterate 2 refine pE rfl ?_
       refine WO.nil (aA rfl rfl rfl)
      iterate 3 refine ay rfl rfl rfl rfl ?_
      iterate 2 refine pE rfl ?_
      iterate 2 refine ay rfl rfl rfl rfl ?_
      iterate 2 refine pE rfl ?_
      refine WO.nil (aA rfl rfl rfl)
     iterate 2 refine ay rfl rfl rfl rfl ?_
     iterate 2 refine pE rfl ?_
     iterate 3 refine ay rfl rfl rfl rfl ?_
     iterate 2 refine pE rfl ?_
     iterate 2 refine ay rfl rfl rfl rfl ?_
     iterate 2 refine pE rfl ?_
     refine WO.nil (aA rfl rfl rfl)
    iterate 3 refine ay rfl rfl rfl rfl ?_
    iterate 2 refine pE rfl ?_
    iterate 2 refine ay rfl rfl rfl rfl ?_
    iterate 2 refine pE rfl ?_
    iterate 3 refine ay rfl rfl rfl rfl ?_
    iterate 2 refine pE rfl ?_
    iterate 2 refine ay rfl rfl rfl rfl ?_
    iterate 2 refine pE rfl ?_
    refine WO.nil (aA rfl rfl rfl)
   iterate 2 refine ay rfl rfl rfl rfl ?_
   iterate 2 refine pE rfl ?_
   iterate 3 refine ay rfl rfl rfl rfl ?_
   iterate 2 refine pE rfl ?_
   iterate 2 refine ay rfl rfl rfl rfl ?_
   iterate 2 refine pE rfl ?_
   iterate 3 refine ay rfl rfl rfl rfl ?_
   iterate 2 refine pE rfl ?_
   iterate 2 refine ay rfl rfl rfl rfl ?_
   iterate 2 refine pE rfl ?_
   refine WO.nil (aA rfl rfl rfl)
  iterate 2 refine ay rfl rfl rfl rfl ?_
  iterate 2 refine pE rfl ?_
  iterate 2 refine ay rfl rfl rfl rfl ?_
  iterate 2 refine pE rfl ?_
  iterate 3 refine ay rfl rfl rfl rfl ?_
  iterate 2 refine pE rfl ?_
  iterate 2 refine ay rfl rfl rfl rfl ?_
  iterate 2 refine pE rfl ?_
  iterate 3 refine ay rfl rfl rfl rfl ?_
  iterate 2 refine pE rfl ?_
  iterate 2 refine ay rfl rfl rfl rfl ?_
  iterate 2 refine pE rfl ?_
  refine WO.nil (aA rfl rfl rfl)
 refine qs (W.ret (QF.ar trivial rfl ?_))
 rfl
end Go.Proofs.Ytjenenllmjlimaa
namespace Go.Proofs.Ytjenenllmjlimaa
open Go.Ab Go.Tb
set_option maxRecDepth 10000
attribute [local irreducible] W WO Pu QS QB QL QF QV bO CH QE
theorem jz (a b : List aD) : aw Try.prog 15 [.d (.sl (a.map aD.c)), .d (.sl (b.map aD.c))] (.d (.v (.int .i64 (fc a b)))) 0 := by
 refine aw.a8 (n := 31) (ts := [4]) Try.func15 (by kernel_rfl) rfl Try.ntmps15 Try.results15 rfl rfl fun C hC hG => ?_
 refine W.seq (W.region (pE rfl (WO.nil (qs ?_))))
 iterate 2 refine W.seq ?_
 refine W.region (pE rfl (WO.nil (qs (W.block (W.len (t := 1) rfl rfl (fun hlenb => ?_))))))
 simp only [List.length_map] at hlenb
 refine W.len (t := 0) rfl rfl (fun hlen => ?_)
 try simp only [List.length_map, Ex.aF] at hlen
 refine W.aW (ι := {x : Nat // match x with | k => k ≤ a.length ∧ k ≤ b.length ∧ fc (a.drop k) (b.drop k) = fc a b})
  (fun x => match x.1 with | k => [(5, .d (.v (.int .i64 ((k : Nat) : Int))))]) [(0, _), (1, _)]
  (fun x => match x.1 with | k => []) [] [] 0 (fun x => match x.1 with | k => a.length - k)
  [] ⟨0, ?_⟩ rfl ?_ ⟨rfl, rfl, rfl, rfl, trivial⟩ ?_ trivial rfl ?_
 · exact ⟨Nat.zero_le _, Nat.zero_le _, rfl⟩
 · repeat' first | exact trivial | refine ⟨rfl, ?_⟩
 · repeat' exact trivial
 rintro ⟨k, hk, hkb, hI⟩
 show W _ _ _ _ _ ⟨[(5, .d (.v (.int .i64 ((k : Nat) : Int)))), (0, _), (1, _)], [], [], 0⟩
 iterate 2 refine W.seq ?_
 apply aI; (case hb => rfl)
 ·
  iterate 5 refine pE rfl ?_
  apply aC; (case hj => rfl); (case hl => rfl)
  ·
   refine ah rfl rfl (pE rfl (ah rfl rfl (pE rfl (ah rfl rfl (pE rfl (ah rfl rfl ?_))))))
   iterate 2 refine pE rfl ?_
   refine WO.nil (aA rfl rfl rfl)
  iterate 4 refine ay rfl rfl rfl rfl ?_
  refine pE rfl (WO.nil (aA rfl rfl rfl))
 refine qs (aq rfl (fun h16 => ?_) (fun h16 => ?_))
 ·
  obtain ⟨hlt, hltb⟩ : k < a.length ∧ k < b.length := by
   revert h16
   by_cases q1 : (k : Int) < (a.length : Int) <;> by_cases q2 : (k : Int) < (b.length : Int) <;> simp [q1, q2] <;> omega
  obtain ⟨x, hx⟩ : ∃ x, a[k]? = some x := ⟨a[k], by simp [hlt]⟩
  obtain ⟨y, hy⟩ : ∃ y, b[k]? = some y := ⟨b[k], by simp [hltb]⟩
  rw [List.drop_eq_getElem_cons hlt, List.drop_eq_getElem_cons hltb, (List.getElem?_eq_some_iff.1 hx).2, (List.getElem?_eq_some_iff.1 hy).2] at hI
  simp only [fc] at hI
  refine W.skip (qs (W.seq (W.block (W.seq (W.bE aa (by kernel_rfl) ?_)))))
  iterate 2 refine ao (ev aa rfl) rfl ?_
  refine ao (indexAddr (l := x.c) aa rfl rfl rfl rfl rfl rfl (Int.natCast_nonneg _) (aH hx) rfl) rfl ?_
  refine ao (ev aa rfl) rfl ?_
  iterate 2 refine ao (ev aa rfl) rfl ?_
  refine ao (indexAddr (l := y.c) aa rfl rfl rfl rfl rfl rfl (Int.natCast_nonneg _) (aH hy) rfl) rfl ?_
  refine ao (ev aa rfl) rfl ?_
  refine ao (ae rfl rfl rfl (uT x y) rfl) rfl ?_
  refine ao (ev aa rfl) rfl ?_
  refine CH.nil ?_
  refine qs (W.seq (W.region ?_))
  iterate 2 refine pE rfl ?_
  refine WO.nil (qs (aq rfl (fun h29 => ?_) (fun h29 => ?_)))
  ·
   have hq : cR x y ≠ 0 := by simpa using h29
   rw [if_pos hq] at hI
   refine W.seq (W.region ?_)
   iterate 2 refine pE rfl ?_
   refine WO.nil (qs (W.ret (au (an (bw (au (an (QF.ar trivial rfl ?_))))))))
   rw [← hI]; rfl
  have hq : cR x y = 0 := by simpa using h29
  rw [if_neg (by simp [hq])] at hI
  refine W.skip (a0 (qs (W.region ?_)))
  iterate 3 refine pE rfl ?_
  refine WO.nil (W.aY [] ⟨k + 1, ?_⟩ ?_ rfl ?_ ⟨rfl, rfl, rfl, rfl, trivial⟩ ?_ trivial rfl)
  · exact ⟨hlt, hltb, hI⟩
  · dsimp only; omega
  · repeat' first | exact trivial | refine ⟨aE (by assumption) (by assumption), ?_⟩
  repeat' exact trivial
 have hge : a.length ≤ k ∨ b.length ≤ k := by
  revert h16
  by_cases q1 : (k : Int) < (a.length : Int) <;> by_cases q2 : (k : Int) < (b.length : Int) <;> simp [q1, q2] <;> omega
 have hg : fc a b = 0 := by
  rw [← hI]
  rcases hge with q | q
  · rw [List.drop_eq_nil_of_le q]; rfl
  rw [List.drop_eq_nil_of_le q]; cases a.drop k <;> rfl
 refine W.exit (aN (aR (aO (qs (W.seq (W.region (pE rfl (WO.nil (qs (W.ret (QF.ar trivial rfl ?_)))))))))))
 rw [hg]; rfl
theorem tF (t : bj) {s : ByteArray} {i : Nat} (h : cP t.ab s = some i) : aw Try.prog 30 [.ag t.c, .d (.v (.string s))] (.d (.v (.int .i64 (i : Int)))) 0 := by
 have h0 := nf t s
 have h2 : (t.ab.findIdx? fun x => decide (x.name = s)) = some i := h
 rw [h2] at h0; exact h0
theorem uK (t : bj) (l : List aD) (on : List ByteArray) (m0 m1 : Nat) (hon : on.length ≤ 400) (hks : ∀ s ∈ on, ∃ i, cP t.ab s = some i ∧ i < l.length) (h0 : cP t.ab aJ = some m0) (h1 : cP t.ab br = some m1) (hi : m0 < l.length) (hj : m1 < l.length) :
  aw Try.prog 14 [.ag t.c, .d (.sl (l.map aD.c)), .d (.sl (on.map sc))] (.tup [.d (.sl ((cW (on.map (bq t.ab)) m0 m1 l).map aD.c)), .ag [ci (fm m0 m1 l), ci (dM m0 m1 l)], .d (.v (.bool (cX l m0 m1)))]) 0 := by
 have hzi : (l.map aD.c)[((m0 : Nat) : Int).toNat]? = some (bb l m0).c := aH (gk hi)
 have hzj : (l.map aD.c)[((m1 : Nat) : Int).toNat]? = some (bb l m1).c := aH (gk hj)
 have hom : on.length ≤ maxLen := by simp only [maxLen]; omega
 refine aw.fa aa (n := 114) (rs := [.tmp 6, .cell 7 42, .tmp 8]) Try.func14 (by kernel_rfl) rfl Try.ntmps14 Try.results14 rfl fun C hC hG => ?_
 refine W.seq (W.region (bM rfl rfl rfl (pE rfl (a9 aa rfl rfl rfl (pE rfl (WO.nil (qs (W.seq (W.region (pE rfl (WO.nil (qs ?_))))))))))))
 iterate 2 refine W.seq ?_
 refine W.region (pE rfl (WO.nil (qs (W.block (aU (d := 9) rfl rfl ?_)))))
 refine W.aW (ι := {x : Nat × List aD // match x with | (k, out) => k ≤ on.length ∧ out = bA l ((on.take k).map (bq t.ab))})
  (fun x => match x.1 with | (k, out) => [(3, .ptr 0 0), (7, .ptr 1 0), (9, .own 2 (out.map aD.c)), (10, .d (.v (.int .i64 ((k : Nat) : Int))))]) [(1, _), (2, _)]
  (fun x => match x.1 with | (k, out) => [(0, t.c.map A.d), (1, [.d (.v (.int .i64 0)), .d (.v (.int .i64 0))])]) [] [2] 3 (fun x => match x.1 with | (k, out) => on.length - k)
  [0, 1, 2] ⟨(0, []), ?_⟩ rfl ?_ ⟨rfl, rfl, rfl, rfl, trivial⟩ ?_ trivial rfl ?_
 · exact ⟨Nat.zero_le _, rfl⟩
 · repeat' first | exact trivial | refine ⟨rfl, ?_⟩
 · repeat' first | exact trivial | refine ⟨rfl, ?_⟩
 rintro ⟨⟨k, out⟩, hk, hI⟩
 show W _ _ _ _ _ ⟨[(3, .ptr 0 0), (7, .ptr 1 0), (9, .own 2 (out.map aD.c)), (10, .d (.v (.int .i64 ((k : Nat) : Int)))), (1, _), (2, _)], [(0, t.c.map A.d), (1, [.d (.v (.int .i64 0)), .d (.v (.int .i64 0))])], [2], 3⟩
 iterate 2 refine W.seq ?_
 refine W.region ?_
 iterate 4 refine pE rfl ?_
 refine WO.nil (qs (bg (l := on) (k := k) rfl (by simp [Ex.aF, aK]) hk (fun s hx hd hlt => ?_) (fun he hd => ?_)))
 ·
  obtain ⟨i, hi1, hi2⟩ := hks s (List.mem_of_getElem? hx)
  have htc := tF t hi1
  have hv : (l.map aD.c)[((i : Nat) : Int).toNat]? = some (bb l i).c := aH (gk hi2)
  have hol : out.length ≤ k := by rw [hI]; unfold bA; simp; omega
  refine W.skip (qs (W.seq (W.block (W.seq (W.bE aa (by kernel_rfl) ?_)))))
  refine ao (ev aa rfl) rfl ?_
  iterate 2 refine ao (ev aa rfl) rfl ?_
  refine ao (indexAddr aa rfl rfl rfl rfl rfl rfl (Int.natCast_nonneg _) (aH hx) rfl) rfl ?_
  refine ao (ev aa rfl) rfl ?_
  refine ao (ae rfl rfl rfl htc rfl) rfl ?_
  refine ao (ev aa rfl) rfl ?_
  refine CH.nil ?_
  refine qs ?_
  iterate 2 refine W.seq ?_
  apply aI; (case hb => rfl)
  ·
   iterate 3 refine pE rfl ?_
   apply aC; (case hj => rfl); (case hl => rfl)
   ·
    iterate 4 refine ay rfl rfl rfl rfl ?_
    refine pE rfl (WO.nil (aA rfl rfl rfl))
   refine ah rfl rfl (pE rfl (ah rfl rfl (pE rfl (ah rfl rfl (pE rfl (ah rfl rfl ?_))))))
   iterate 2 refine pE rfl ?_
   refine WO.nil (aA rfl rfl rfl)
  refine qs (aq rfl (fun h33 => ?_) (fun h33 => ?_))
  ·
   exfalso
   revert h33
   simp
   omega
  refine W.skip (qs (W.region ?_))
  iterate 3 refine pE rfl ?_
  refine pu (indexAddr (l := (bb l i).c) aa rfl rfl rfl rfl rfl rfl (Int.natCast_nonneg _) hv rfl) rfl ?_
  refine pE rfl (pu (aG aa rfl rfl rfl rfl rfl rfl rfl rfl rfl) rfl ?_)
  refine ck (fn := aD.c) (a := bb l i) aa rfl rfl rfl rfl rfl rfl rfl rfl rfl rfl (fun _ => rfl) (by show (out.length + 1) * 32 ≤ _; omega) ?_
  refine pE rfl (WO.nil (a0 (qs (W.region ?_))))
  iterate 3 refine pE rfl ?_
  refine WO.nil (W.aY [0, 1, 3] ⟨(k + 1, out ++ [bb l i]), ?_⟩ ?_ rfl ?_ ⟨rfl, rfl, rfl, rfl, trivial⟩ ?_ trivial rfl)
  · exact ⟨hlt, by rw [hI]; unfold bA; rw [List.take_add_one, hx]; simp [bY hi1]⟩
  · dsimp only; omega
  · repeat' first | exact trivial | refine ⟨rfl, ?_⟩ | refine ⟨aE (by assumption) (by assumption), ?_⟩
  repeat' first | exact trivial | refine ⟨rfl, ?_⟩
 have hfin : out = bA l (on.map (bq t.ab)) := by rw [hI, List.take_of_length_le (by have := congrArg List.length hd; simp at this; omega)]
 refine W.exit (aN (aR (aO (qs (W.seq (W.bE aa (by kernel_rfl) ?_))))))
 refine ao (ev aa rfl) rfl ?_
 refine ao (ae rfl rfl rfl (tF t h0) rfl) rfl ?_
 refine ao (ev aa rfl) rfl ?_
 refine ao (ae rfl rfl rfl (tF t h1) rfl) rfl ?_
 iterate 2 refine ao (ev aa rfl) rfl ?_
 refine CH.nil ?_
 refine qs ?_
 iterate 2 refine W.seq ?_
 apply iX aa; (case hb => rfl); (case hB => kernel_rfl)
 ·
  iterate 3 refine ao (ev aa rfl) rfl ?_
  apply fI; (case hj => rfl); (case hl => rfl)
  ·
   iterate 2 refine bt rfl rfl rfl rfl ?_
   iterate 2 refine ao (ev aa rfl) rfl ?_
   iterate 4 refine bt rfl rfl rfl rfl ?_
   iterate 2 refine ao (ev aa rfl) rfl ?_
   iterate 4 refine bt rfl rfl rfl rfl ?_
   iterate 2 refine ao (ev aa rfl) rfl ?_
   iterate 6 refine bt rfl rfl rfl rfl ?_
   iterate 2 refine ao (ev aa rfl) rfl ?_
   iterate 6 refine bt rfl rfl rfl rfl ?_
   iterate 2 refine ao (ev aa rfl) rfl ?_
   iterate 6 refine bt rfl rfl rfl rfl ?_
   iterate 2 refine ao (ev aa rfl) rfl ?_
   iterate 11 refine bt rfl rfl rfl rfl ?_
   refine ao (ev aa rfl) rfl ?_
   refine CH.nil ?_
   refine aA rfl rfl rfl
  refine aL rfl rfl (ev aa rfl) rfl ?_
  refine aL rfl rfl (ev aa rfl) rfl ?_
  iterate 2 refine ao (ev aa rfl) rfl ?_
  apply fI; (case hj => rfl); (case hl => rfl)
  ·
   iterate 4 refine bt rfl rfl rfl rfl ?_
   iterate 2 refine ao (ev aa rfl) rfl ?_
   iterate 4 refine bt rfl rfl rfl rfl ?_
   iterate 2 refine ao (ev aa rfl) rfl ?_
   iterate 6 refine bt rfl rfl rfl rfl ?_
   iterate 2 refine ao (ev aa rfl) rfl ?_
   iterate 6 refine bt rfl rfl rfl rfl ?_
   iterate 2 refine ao (ev aa rfl) rfl ?_
   iterate 6 refine bt rfl rfl rfl rfl ?_
   iterate 2 refine ao (ev aa rfl) rfl ?_
   iterate 11 refine bt rfl rfl rfl rfl ?_
   refine ao (ev aa rfl) rfl ?_
   refine CH.nil ?_
   refine aA rfl rfl rfl
  refine aL rfl rfl (ev aa rfl) rfl ?_
  refine aL rfl rfl (ev aa rfl) rfl ?_
  refine aL rfl rfl (ev aa rfl) rfl ?_
  refine aL rfl rfl (ev aa rfl) rfl ?_
  iterate 2 refine ao (ev aa rfl) rfl ?_
  apply fI; (case hj => rfl); (case hl => rfl)
  ·
   iterate 4 refine bt rfl rfl rfl rfl ?_
   iterate 2 refine ao (ev aa rfl) rfl ?_
   iterate 6 refine bt rfl rfl rfl rfl ?_
   iterate 2 refine ao (ev aa rfl) rfl ?_
   iterate 6 refine bt rfl rfl rfl rfl ?_
   iterate 2 refine ao (ev aa rfl) rfl ?_
   iterate 6 refine bt rfl rfl rfl rfl ?_
   iterate 2 refine ao (ev aa rfl) rfl ?_
   iterate 11 refine bt rfl rfl rfl rfl ?_
   refine ao (ev aa rfl) rfl ?_
   refine CH.nil ?_
   refine aA rfl rfl rfl
  refine aL rfl rfl (ev aa rfl) rfl ?_
  refine aL rfl rfl (ev aa rfl) rfl ?_
  refine aL rfl rfl (ev aa rfl) rfl ?_
  refine aL rfl rfl (ev aa rfl) rfl ?_
  iterate 2 refine ao (ev aa rfl) rfl ?_
  apply fI; (case hj => rfl); (case hl => rfl)
  ·
   iterate 6 refine bt rfl rfl rfl rfl ?_
   iterate 2 refine ao (ev aa rfl) rfl ?_
   iterate 6 refine bt rfl rfl rfl rfl ?_
   iterate 2 refine ao (ev aa rfl) rfl ?_
   iterate 6 refine bt rfl rfl rfl rfl ?_
   iterate 2 refine ao (ev aa rfl) rfl ?_
   iterate 11 refine bt rfl rfl rfl rfl ?_
   refine ao (ev aa rfl) rfl ?_
   refine CH.nil ?_
   refine aA rfl rfl rfl
  refine aL rfl rfl (ev aa rfl) rfl ?_
  refine aL rfl rfl (ev aa rfl) rfl ?_
  refine aL rfl rfl (indexAddr (l := (bb l m0).c) aa rfl rfl rfl rfl rfl rfl (Int.natCast_nonneg _) hzi rfl) rfl ?_
  refine aL rfl rfl (ev aa rfl) rfl ?_
  refine aL rfl rfl (ev aa rfl) rfl ?_
  refine aL rfl rfl (ev aa rfl) rfl ?_
  iterate 2 refine ao (ev aa rfl) rfl ?_
  apply fI; (case hj => rfl); (case hl => rfl)
  ·
   iterate 6 refine bt rfl rfl rfl rfl ?_
   iterate 2 refine ao (ev aa rfl) rfl ?_
   iterate 6 refine bt rfl rfl rfl rfl ?_
   iterate 2 refine ao (ev aa rfl) rfl ?_
   iterate 11 refine bt rfl rfl rfl rfl ?_
   refine ao (ev aa rfl) rfl ?_
   refine CH.nil ?_
   refine aA rfl rfl rfl
  refine aL rfl rfl (ev aa rfl) rfl ?_
  refine aL rfl rfl (ev aa rfl) rfl ?_
  refine aL rfl rfl (indexAddr (l := (bb l m1).c) aa rfl rfl rfl rfl rfl rfl (Int.natCast_nonneg _) hzj rfl) rfl ?_
  refine aL rfl rfl (ev aa rfl) rfl ?_
  refine aL rfl rfl (ev aa rfl) rfl ?_
  refine aL rfl rfl (ev aa rfl) rfl ?_
  iterate 2 refine ao (ev aa rfl) rfl ?_
  apply fI; (case hj => rfl); (case hl => rfl)
  ·
   iterate 6 refine bt rfl rfl rfl rfl ?_
   iterate 2 refine ao (ev aa rfl) rfl ?_
   iterate 11 refine bt rfl rfl rfl rfl ?_
   refine ao (ev aa rfl) rfl ?_
   refine CH.nil ?_
   refine aA rfl rfl rfl
  refine aL rfl rfl (ev aa rfl) rfl ?_
  refine aL rfl rfl (ev aa rfl) rfl ?_
  refine aL rfl rfl (indexAddr (l := (bb l m0).c) aa rfl rfl rfl rfl rfl rfl (Int.natCast_nonneg _) hzi rfl) rfl ?_
  refine aL rfl rfl (ev aa rfl) rfl ?_
  refine aL rfl rfl (ev aa rfl) rfl ?_
  refine aL rfl rfl (ev aa rfl) rfl ?_
  iterate 2 refine ao (ev aa rfl) rfl ?_
  apply fI; (case hj => rfl); (case hl => rfl)
  ·
   iterate 11 refine bt rfl rfl rfl rfl ?_
   refine ao (ev aa rfl) rfl ?_
   refine CH.nil ?_
   refine aA rfl rfl rfl
  refine aL rfl rfl (ev aa rfl) rfl ?_
  refine aL rfl rfl (ev aa rfl) rfl ?_
  refine aL rfl rfl (indexAddr (l := (bb l m0).c) aa rfl rfl rfl rfl rfl rfl (Int.natCast_nonneg _) hzi rfl) rfl ?_
  refine aL rfl rfl (ev aa rfl) rfl ?_
  refine aL rfl rfl (ev aa rfl) rfl ?_
  refine aL rfl rfl (ev aa rfl) rfl ?_
  refine aL rfl rfl (ev aa rfl) rfl ?_
  refine aL rfl rfl (indexAddr (l := (bb l m1).c) aa rfl rfl rfl rfl rfl rfl (Int.natCast_nonneg _) hzj rfl) rfl ?_
  refine aL rfl rfl (ev aa rfl) rfl ?_
  refine aL rfl rfl (ev aa rfl) rfl ?_
  refine aL rfl rfl (ev aa rfl) rfl ?_
  refine ao (ev aa rfl) rfl ?_
  refine CH.nil ?_
  refine aA rfl rfl rfl
 refine qs (aq rfl (fun h100 => ?_) (fun h100 => ?_))
 ·
  have hin : cX l m0 m1 = false := by
   revert h100
   unfold cX c7
   by_cases q1 : (bb l m0).kind = 2 <;> by_cases q2 : (bb l m1).kind = 2 <;> by_cases q3 : (bb l m0).n < (bb l m1).n <;> by_cases q4 : 0 ≤ (bb l m0).n <;> simp [q1, q2, q3, q4] <;> omega
  have hK : cW (on.map (bq t.ab)) m0 m1 l = [] := by unfold cW; rw [if_neg (by simp [hin])]
  have hS : fm m0 m1 l = 0 := by unfold fm; rw [if_neg (by simp [hin])]
  have hS2 : dM m0 m1 l = 0 := by unfold dM; rw [if_neg (by simp [hin])]
  refine W.seq (W.region (pu (build aa rfl rfl rfl rfl) rfl ?_))
  refine pE rfl (aQ aa rfl rfl rfl rfl rfl rfl rfl rfl (pE rfl (WO.nil (qs ?_))))
  try refine aU (d := 6) rfl rfl ?_
  refine W.ret (an (QV.ar aa trivial rfl ?_))
  simp only [norm, az]; rw [hK, hS, hS2, hin]; rfl
 have hin : cX l m0 m1 = true := by
  revert h100
  unfold cX c7
  by_cases q1 : (bb l m0).kind = 2 <;> by_cases q2 : (bb l m1).kind = 2 <;> by_cases q3 : (bb l m0).n < (bb l m1).n <;> by_cases q4 : 0 ≤ (bb l m0).n <;> simp [q1, q2, q3, q4] <;> omega
 have hK : cW (on.map (bq t.ab)) m0 m1 l = bA l (on.map (bq t.ab)) := by unfold cW; rw [if_pos hin]
 have hS : fm m0 m1 l = (bb l m0).n := by unfold fm; rw [if_pos hin]
 have hS2 : dM m0 m1 l = (bb l m1).n := by unfold dM; rw [if_pos hin]
 refine W.skip (qs (W.seq (W.eW aa 13 0 (by kernel_rfl) rfl rfl ?_)))
 refine aM rfl (ev aa rfl) rfl ?_
 refine aM rfl (ev aa rfl) rfl ?_
 refine aM rfl (ev aa rfl) rfl ?_
 refine aM rfl (indexAddr (l := (bb l m0).c) aa rfl rfl rfl rfl rfl rfl (Int.natCast_nonneg _) hzi rfl) rfl ?_
 refine aM rfl (ev aa rfl) rfl ?_
 refine aM rfl (ev aa rfl) rfl ?_
 refine aM rfl (ev aa rfl) rfl ?_
 refine aM rfl (ev aa rfl) rfl ?_
 refine aM rfl (indexAddr (l := (bb l m1).c) aa rfl rfl rfl rfl rfl rfl (Int.natCast_nonneg _) hzj rfl) rfl ?_
 refine aM rfl (ev aa rfl) rfl ?_
 refine aM rfl (ev aa rfl) rfl ?_
 refine aM rfl (build aa rfl rfl rfl rfl) rfl ?_
 refine aM rfl (ev aa rfl) rfl ?_
 refine CE.nil ?_
 refine aQ aa rfl rfl rfl rfl rfl rfl rfl rfl (pE rfl (WO.nil (qs ?_)))
 try refine aU (d := 6) rfl rfl ?_
 refine W.ret (QV.ar aa trivial rfl ?_)
 simp only [norm, az]; rw [hK, hS, hS2, hin, hfin]; rfl
end Go.Proofs.Ytjenenllmjlimaa
namespace Go.Proofs.Ytjenenllmjlimaa
open Go.Ab Go.Tb
set_option maxRecDepth 10000
attribute [local irreducible] W WO Pu QS QB QL QF QV bO CH QE
theorem lj {t : bj} {on : List ByteArray} (h : kX t on) {z : List aD} (hz : z ∈ t.rows) :
  aw Try.prog 14 [.ag t.c, .d (.sl (z.map aD.c)), .d (.sl (on.map sc))] (.tup [.d (.sl ((cW (be t on) (bh t) (bk t) z).map aD.c)), .ag [ci (fm (bh t) (bk t) z), ci (dM (bh t) (bk t) z)], .d (.v (.bool (cX z (bh t) (bk t))))]) 0 := by
 have hr := (fH h.ga z hz).1
 obtain ⟨i0, c0, p0, q0, t0⟩ := eI h.fr
 obtain ⟨i1, c1, p1, q1, t1⟩ := eI h.to
 have e0 : bh t = i0 := bY p0
 have e1 : bk t = i1 := bY p1
 have hl := h.nd.2.1
 rw [e0, e1]
 exact uK t z on i0 i1 (by omega) (fun s hs => by
  obtain ⟨c, hc⟩ := h.tk s hs
  obtain ⟨i, g1, g2, _⟩ := e5 hc
  exact ⟨i, g1, by rw [hr]; exact (List.getElem?_eq_some_iff.1 g2).1⟩) p0 p1 (by rw [hr]; exact (List.getElem?_eq_some_iff.1 q0).1) (by rw [hr]; exact (List.getElem?_eq_some_iff.1 q1).1)
theorem vL (a : bj) (on : List ByteArray) (key : List aD) (lo hi : Int) (h : kX a on) (hle : lo ≤ hi)
  (hup : ∀ z ∈ a.rows, ∀ p, lo ≤ p → p ≤ hi → gv a on key z p = true → dM (bh a) (bk a) z ≤ hi) (hgap : ∀ p, lo ≤ p → p < hi → ∃ z ∈ a.rows, gv a on key z p = true) :
  aw Try.prog 16 [.ag a.c, .d (.sl (on.map sc)), .d (.sl (key.map aD.c)), .d (.v (.int .i64 lo)), .d (.v (.int .i64 hi))] (.d (.v (.int .i64 hi))) 0 := by
 have hsm := dw h.ga
 have ham : a.rows.length ≤ maxLen := by simp only [maxLen]; omega
 refine aw.a8 (n := 63) (ts := [10]) Try.func16 (by kernel_rfl) rfl Try.ntmps16 Try.results16 rfl rfl fun C hC hG => ?_
 refine W.seq (W.region (bM rfl rfl rfl (pE rfl (WO.nil (qs ?_)))))
 iterate 2 refine W.seq ?_
 refine W.region (pE rfl (WO.nil (qs (W.block ?_))))
 refine W.aW (ι := {x : Int × Bool // match x with | (p, b) => lo ≤ p ∧ p ≤ hi ∧ (b = false → p = hi)})
  (fun x => match x.1 with | (p, b) => [(3, .d (.v (.int .i64 (p)))), (5, .ptr 0 0), (11, .d (.v (.bool b)))]) [(1, _), (2, _), (4, _)]
  (fun x => match x.1 with | (p, b) => [(0, a.c.map A.d)]) [] [] 1 (fun x => match x.1 with | (p, b) => (hi - p).toNat + (if b = true then 1 else 0))
  [0] ⟨(lo, true), ?_⟩ rfl ?_ ⟨rfl, rfl, rfl, rfl, rfl, rfl, trivial⟩ ?_ trivial rfl ?_
 · exact ⟨Int.le_refl _, hle, fun q => nomatch q⟩
 · repeat' first | exact trivial | refine ⟨rfl, ?_⟩
 · repeat' first | exact trivial | refine ⟨rfl, ?_⟩
 rintro ⟨⟨p, b⟩, hlo, hhi, hb⟩
 show W _ _ _ _ _ ⟨[(3, .d (.v (.int .i64 (p)))), (5, .ptr 0 0), (11, .d (.v (.bool b))), (1, _), (2, _), (4, _)], [(0, a.c.map A.d)], [], 1⟩
 iterate 2 refine W.seq ?_
 apply aI; (case hb => rfl)
 ·
  iterate 2 refine pE rfl ?_
  apply aC; (case hj => rfl); (case hl => rfl)
  ·
   refine ah rfl rfl (pE rfl (ah rfl rfl (pE rfl (ah rfl rfl ?_))))
   iterate 2 refine pE rfl ?_
   refine WO.nil (aA rfl rfl rfl)
  iterate 3 refine ay rfl rfl rfl rfl ?_
  refine pE rfl (WO.nil (aA rfl rfl rfl))
 refine qs (aq rfl (fun h21 => ?_) (fun h21 => ?_))
 ·
  have hc : b = true ∧ p < hi := by
   revert h21
   by_cases q : p < hi <;> cases b <;> simp [q]
  refine W.skip (qs (W.block (W.seq (W.region (pE rfl (WO.nil (qs (W.seq (W.region (pE rfl (WO.nil (qs (W.block ?_)))))))))))))
  refine W.aW (ι := {x : Nat × Int × Bool // match x with | (i, y, c) => i ≤ a.rows.length ∧ p ≤ y ∧ y ≤ hi ∧ (c = true → p < y) ∧ (c = false → y = p ∧ ∀ z ∈ a.rows.take i, gv a on key z p = false)})
   (fun x => match x.1 with | (i, y, c) => [(3, .d (.v (.int .i64 (y)))), (5, .ptr 0 0), (11, .d (.v (.bool c))), (12, .d (.v (.int .i64 ((i : Nat) : Int))))]) [(1, _), (2, _), (4, _)]
   (fun x => match x.1 with | (i, y, c) => [(0, a.c.map A.d)]) [] [] 1 (fun x => match x.1 with | (i, y, c) => a.rows.length - i)
   [0] ⟨(0, p, false), ?_⟩ rfl ?_ ⟨rfl, rfl, rfl, rfl, rfl, rfl, trivial⟩ ?_ trivial rfl ?_
  · exact ⟨Nat.zero_le _, Int.le_refl _, hhi, (fun q => nomatch q), fun _ => ⟨rfl, fun z hz => by simp at hz⟩⟩
  · repeat' first | exact trivial | refine ⟨rfl, ?_⟩
  · repeat' first | exact trivial | refine ⟨rfl, ?_⟩
  rintro ⟨⟨i, y, c⟩, hk, hpy, hyh, hct, hcf⟩
  show W _ _ _ _ _ ⟨[(3, .d (.v (.int .i64 (y)))), (5, .ptr 0 0), (11, .d (.v (.bool c))), (12, .d (.v (.int .i64 ((i : Nat) : Int)))), (1, _), (2, _), (4, _)], [(0, a.c.map A.d)], [], 1⟩
  iterate 2 refine W.seq ?_
  refine W.region ?_
  iterate 2 refine pE rfl ?_
  refine pE rfl ?_
  iterate 2 refine pE rfl ?_
  refine WO.nil (qs (bg (l := a.rows) (k := i) rfl (by simp [Ex.aF, aK]) hk (fun z hx hd hlt => ?_) (fun he hd => ?_)))
  ·
   have hzm := List.mem_of_getElem? hx
   have hv := lj h hzm
   refine W.skip (qs (W.seq (W.block (W.seq (W.eW aa 15 1 (by kernel_rfl) rfl rfl ?_)))))
   refine aM rfl (ev aa rfl) rfl ?_
   refine aM rfl (ev aa rfl) rfl ?_
   refine aM rfl (ev aa rfl) rfl ?_
   refine aM rfl (ev aa rfl) rfl ?_
   refine aM rfl (indexAddr aa rfl rfl rfl rfl rfl rfl (Int.natCast_nonneg _) (aH hx) rfl) rfl ?_
   refine aM rfl (ev aa rfl) rfl ?_
   refine aM rfl (ev aa rfl) rfl ?_
   refine aM rfl (ae rfl rfl rfl hv rfl) rfl ?_
   refine aM rfl (ev aa rfl) rfl ?_
   refine aM rfl (ev aa rfl) rfl ?_
   refine aM rfl (ev aa rfl) rfl ?_
   refine aM rfl (ev aa rfl) rfl ?_
   refine ey 0 rfl rfl rfl rfl rfl rfl ?_
   refine aM rfl (ev aa rfl) rfl ?_
   refine iS 12 0 rfl rfl rfl rfl rfl rfl rfl rfl rfl rfl rfl rfl ?_
   refine CE.nil ?_
   refine pE rfl (WO.nil (qs (W.seq ?_)))
   apply aI; (case hb => rfl)
   ·
    iterate 2 refine pE rfl ?_
    apply aC; (case hj => rfl); (case hl => rfl)
    ·
     refine ah rfl rfl (pE rfl (ah rfl rfl (pE rfl (ah rfl rfl (pu (ae rfl rfl rfl (jz key (cW (be a on) (bh a) (bk a) z)) rfl) rfl ?_)))))
     refine ah rfl rfl ?_
     iterate 3 refine pE rfl ?_
     apply aC; (case hj => rfl); (case hl => rfl)
     ·
      refine ah rfl rfl (pE rfl (ah rfl rfl (pE rfl (ah rfl rfl (pE rfl (ah rfl rfl ?_))))))
      iterate 3 refine pE rfl ?_
      apply aC; (case hj => rfl); (case hl => rfl)
      ·
       refine ah rfl rfl (pE rfl (ah rfl rfl (pE rfl (ah rfl rfl (pE rfl (ah rfl rfl ?_))))))
       iterate 2 refine pE rfl ?_
       refine WO.nil (aA rfl rfl rfl)
      iterate 4 refine ay rfl rfl rfl rfl ?_
      refine pE rfl (WO.nil (aA rfl rfl rfl))
     iterate 4 refine ay rfl rfl rfl rfl ?_
     iterate 2 refine pE rfl ?_
     iterate 4 refine ay rfl rfl rfl rfl ?_
     refine pE rfl (WO.nil (aA rfl rfl rfl))
    iterate 4 refine ay rfl rfl rfl rfl ?_
    iterate 2 refine pE rfl ?_
    iterate 4 refine ay rfl rfl rfl rfl ?_
    iterate 2 refine pE rfl ?_
    iterate 4 refine ay rfl rfl rfl rfl ?_
    refine pE rfl (WO.nil (aA rfl rfl rfl))
   refine qs (aq rfl (fun h59 => ?_) (fun h59 => ?_))
   ·
    have hh : gv a on key z y = true := by
     revert h59
     unfold gv
     cases cX z (bh a) (bk a) <;> by_cases q1 : fc key (cW (be a on) (bh a) (bk a) z) = 0 <;> by_cases q2 : fm (bh a) (bk a) z ≤ y <;> by_cases q3 : y < dM (bh a) (bk a) z <;> simp [q1, q2, q3]
    have hto := hup z hzm y (by omega) hyh hh
    have hys : y < dM (bh a) (bk a) z := by
     unfold gv at hh
     simp only [Bool.and_eq_true, decide_eq_true_eq] at hh
     exact hh.2.2.2
    have hnx : p ≤ dM (bh a) (bk a) z ∧ dM (bh a) (bk a) z ≤ hi ∧ (true = true → p < dM (bh a) (bk a) z) ∧ (true = false → dM (bh a) (bk a) z = p ∧ ∀ z ∈ a.rows.take (i + 1), gv a on key z p = false) := ⟨by omega, hto, fun _ => by omega, fun q => nomatch q⟩
    refine W.seq (W.region (pE rfl (pE rfl (pE rfl (WO.nil (qs (W.region (pE rfl (WO.nil (a0 (qs (W.region ?_))))))))))))
    iterate 3 refine pE rfl ?_
    refine WO.nil ?_
    have hbr := hh
    (have _hb : gv a on key z y = true := hbr; refine W.aY [0] ⟨(i + 1, dM (bh a) (bk a) z, true), ?_⟩ ?_ rfl ?_ ⟨rfl, rfl, rfl, rfl, rfl, rfl, trivial⟩ ?_ trivial rfl)
    · exact ⟨hlt, hnx⟩
    · dsimp only; omega
    · repeat' first | exact trivial | refine ⟨rfl, ?_⟩ | refine ⟨aE (by assumption) (by assumption), ?_⟩
    repeat' first | exact trivial | refine ⟨rfl, ?_⟩
   have hh : gv a on key z y = false := by
    revert h59
    unfold gv
    cases cX z (bh a) (bk a) <;> by_cases q1 : fc key (cW (be a on) (bh a) (bk a) z) = 0 <;> by_cases q2 : fm (bh a) (bk a) z ≤ y <;> by_cases q3 : y < dM (bh a) (bk a) z <;> simp [q1, q2, q3]
   have hnx : p ≤ y ∧ y ≤ hi ∧ (c = true → p < y) ∧ (c = false → y = p ∧ ∀ z ∈ a.rows.take (i + 1), gv a on key z p = false) := ⟨hpy, hyh, hct, fun q => by
    obtain ⟨e, hno⟩ := hcf q
    refine ⟨e, fun w hw => ?_⟩
    rw [List.take_add_one, hx] at hw
    rcases List.mem_append.1 hw with hw | hw
    · exact hno w hw
    simp at hw; subst hw; rw [← e]; exact hh⟩
   refine W.skip (a0 (qs (W.region ?_)))
   iterate 3 refine pE rfl ?_
   refine WO.nil ?_
   have hbr := hh
   (have _hb : gv a on key z y = false := hbr; refine W.aY [0] ⟨(i + 1, y, c), ?_⟩ ?_ rfl ?_ ⟨rfl, rfl, rfl, rfl, rfl, rfl, trivial⟩ ?_ trivial rfl)
   · exact ⟨hlt, hnx⟩
   · dsimp only; omega
   · repeat' first | exact trivial | refine ⟨rfl, ?_⟩ | refine ⟨aE (by assumption) (by assumption), ?_⟩
   repeat' first | exact trivial | refine ⟨rfl, ?_⟩
  have hall : c = false → p = hi := fun q => by
   obtain ⟨_, hno⟩ := hcf q
   rw [List.take_of_length_le (by have := congrArg List.length hd; simp at this; omega)] at hno
   rcases Int.lt_or_le p hi with hlt | hge
   ·
    obtain ⟨z, hz, hh⟩ := hgap p hlo hlt
    rw [hno z hz] at hh; cases hh
   omega
  have hmeas : (hi - y).toNat + (if c = true then 1 else 0) < (hi - p).toNat + (if b = true then 1 else 0) := by
   rw [if_pos hc.1]
   cases c with
   | true => have := hct rfl; rw [if_pos rfl]; omega
   | false => have := (hcf rfl).1; rw [if_neg (by simp)]; omega
  refine W.exit (aN (aR (aO (a0 (W.aY [0] ⟨(y, c), ?_⟩ ?_ rfl ?_ ⟨rfl, rfl, rfl, rfl, rfl, rfl, trivial⟩ ?_ trivial rfl)))))
  · exact ⟨by omega, hyh, fun q => by have := hall q; have := (hcf q).1; omega⟩
  · exact hmeas
  · repeat' first | exact trivial | refine ⟨rfl, ?_⟩
  repeat' first | exact trivial | refine ⟨rfl, ?_⟩
 have hfin : p = hi := by
  revert h21
  by_cases q : p < hi
  ·
   cases b with
   | true => simp [q]
   | false => intro _; exact hb rfl
  intro _; omega
 refine W.exit (aN (aR (aO (qs (W.seq (W.region ?_))))))
 iterate 2 refine pE rfl ?_
 refine WO.nil (qs (W.ret (QF.ar trivial rfl ?_)))
 rw [hfin]; rfl
end Go.Proofs.Ytjenenllmjlimaa
namespace Go.Proofs.Ytjenenllmjlimaa
open Go.Ab Go.Tb
set_option maxRecDepth 10000
attribute [local irreducible] W WO Pu QS QB QL QF QV bO CH QE
theorem uU (a : bj) (on : List ByteArray) : aw Try.prog 5 [.ag a.c, .d (.sl (on.map sc))] (.d (.v (.bool true))) 0 := by
 have hs : ∀ t : bj, aw Try.prog 13 [.ag t.c, .ag t.c] (.d (.v (.bool true))) 0 := fun t => by have := rK t t; rw [decide_eq_true (rfl : t = t)] at this; exact this
 obtain ⟨T0, hT0⟩ : ∃ t, aX a on = t := ⟨_, rfl⟩
 refine aw.a8 (n := 193) (ts := [4]) Try.func5 (by kernel_rfl) rfl Try.ntmps5 Try.results5 rfl rfl fun C hC hG => ?_
 refine W.seq (W.region (bM rfl rfl rfl (pE rfl (WO.nil (qs ?_)))))
 iterate 2 refine W.seq ?_
 refine W.region (pE rfl (pu (build aa rfl rfl rfl rfl) rfl ?_))
 try refine xo 27 rfl rfl rfl ?_
 refine pE rfl (pu (ae rfl rfl rfl (wE a ff on) rfl) rfl ?_)
 refine pE rfl (WO.nil (qs (aq rfl (fun h30 => ?_) (fun h30 => ?_))))
 ·
  refine W.seq (W.region (pu (ae rfl rfl rfl ma rfl) rfl ?_))
  refine pE rfl (WO.nil (qs (W.ret (an (QF.ar trivial rfl ?_)))))
  rfl
 have hfew : pk a ff on = true := by simpa using h30
 have hon := (vO hfew).1
 have hco := kN a on (by omega)
 rw [hT0] at hco
 refine W.skip (qs (W.seq (W.region (pE rfl (pE rfl (pu (ae rfl rfl rfl hco rfl) rfl ?_))))))
 iterate 3 refine pE rfl ?_
 refine a9 aa rfl rfl rfl (aQ aa rfl rfl rfl rfl rfl rfl rfl rfl (pE rfl (WO.nil (qs ?_))))
 iterate 2 refine W.seq ?_
 refine W.region ?_
 iterate 2 refine pE rfl ?_
 refine WO.nil (qs (aq rfl (fun h39 => ?_) (fun h39 => ?_)))
 ·
  have he : T0.2 ≠ 0 := by simpa using h39
  have hz : T0.1 = ff := by
   rw [← hT0] at he ⊢
   unfold aX at he ⊢
   split
   · rfl
   rename_i q; rw [if_neg q] at he; exact absurd rfl he
  rw [hz]
  refine W.seq ?_
  apply aI; (case hb => rfl)
  ·
   refine pE rfl (pE rfl ?_)
   iterate 3 refine pE rfl ?_
   apply aC; (case hj => rfl); (case hl => rfl)
   ·
    refine ah rfl rfl (pu (ae rfl rfl rfl ma rfl) rfl ?_)
    iterate 2 refine pE rfl ?_
    refine WO.nil (aA rfl rfl rfl)
   refine ay rfl rfl rfl rfl ?_
   iterate 2 refine pE rfl ?_
   refine WO.nil (aA rfl rfl rfl)
  refine qs (W.ret (an (QF.ar trivial rfl ?_)))
  rfl
 have he : T0.2 = 0 := by simpa using h39
 have hu := (xb (a := a) (on := on) (by rw [hT0]; exact he)).yR
 rw [hT0] at hu
 have hco2 := kN T0.1 on (by omega)
 rw [hu.again] at hco2
 have haz := dw hu.ca.ga
 have htz := dw hu.ct.ga
 have ham : a.rows.length ≤ maxLen := by simp only [maxLen]; omega
 have htm : T0.1.rows.length ≤ maxLen := by simp only [maxLen]; omega
 refine W.skip (qs (W.seq (W.region (pE rfl (pE rfl (pu (ae rfl rfl rfl hco2 rfl) rfl ?_))))))
 iterate 3 refine pE rfl ?_
 refine a9 aa rfl rfl rfl (aQ aa rfl rfl rfl rfl rfl rfl rfl rfl (pE rfl (WO.nil (qs ?_))))
 iterate 2 refine W.seq ?_
 apply aI; (case hb => rfl)
 ·
  iterate 3 refine pE rfl ?_
  apply aC; (case hj => rfl); (case hl => rfl)
  ·
   iterate 4 refine ay rfl rfl rfl rfl ?_
   refine pE rfl (WO.nil (aA rfl rfl rfl))
  refine ah rfl rfl (pE rfl (ah rfl rfl (pE rfl (ah rfl rfl (pu (ae rfl rfl rfl (hs T0.1) rfl) rfl ?_)))))
  refine ah rfl rfl ?_
  iterate 2 refine pE rfl ?_
  refine WO.nil (aA rfl rfl rfl)
 refine qs (aq rfl (fun h60 => ?_) (fun h60 => ?_))
 ·
  exfalso
  revert h60
  simp
 refine W.skip (qs ?_)
 iterate 2 refine W.seq ?_
 refine W.region (pE rfl (WO.nil (qs (W.block ?_))))
 refine W.aW (ι := {x : Nat // match x with | i => i ≤ a.rows.length})
  (fun x => match x.1 with | i => [(2, .ptr 0 0), (5, .ptr 1 0), (9, .d (.v (.int .i64 ((i : Nat) : Int))))]) [(1, _)]
  (fun x => match x.1 with | i => [(0, a.c.map A.d), (1, T0.1.c.map A.d)]) [] [] 2 (fun x => match x.1 with | i => a.rows.length - i)
  [0, 1] ⟨0, ?_⟩ rfl ?_ ⟨rfl, rfl, trivial⟩ ?_ trivial rfl ?_
 · exact Nat.zero_le _
 · repeat' first | exact trivial | refine ⟨rfl, ?_⟩
 · repeat' first | exact trivial | refine ⟨rfl, ?_⟩
 rintro ⟨i, hk⟩
 show W _ _ _ _ _ ⟨[(2, .ptr 0 0), (5, .ptr 1 0), (9, .d (.v (.int .i64 ((i : Nat) : Int)))), (1, _)], [(0, a.c.map A.d), (1, T0.1.c.map A.d)], [], 2⟩
 iterate 2 refine W.seq ?_
 refine W.region ?_
 iterate 2 refine pE rfl ?_
 refine pE rfl ?_
 iterate 2 refine pE rfl ?_
 refine WO.nil (qs (bg (l := a.rows) (k := i) rfl (by simp [Ex.aF, aK]) hk (fun z hx hd hlt => ?_) (fun he hd => ?_)))
 ·
  have hzm := List.mem_of_getElem? hx
  have hv := lj hu.ca hzm
  have hx0 := hx
  have hlt0 : i < a.rows.length := hlt
  refine W.skip (qs (W.seq (W.block (W.seq (W.eW aa 15 1 (by kernel_rfl) rfl rfl ?_)))))
  refine aM rfl (ev aa rfl) rfl ?_
  refine aM rfl (ev aa rfl) rfl ?_
  refine aM rfl (ev aa rfl) rfl ?_
  refine aM rfl (ev aa rfl) rfl ?_
  refine aM rfl (indexAddr aa rfl rfl rfl rfl rfl rfl (Int.natCast_nonneg _) (aH hx) rfl) rfl ?_
  refine aM rfl (ev aa rfl) rfl ?_
  refine aM rfl (ev aa rfl) rfl ?_
  refine aM rfl (ae rfl rfl rfl hv rfl) rfl ?_
  refine aM rfl (ev aa rfl) rfl ?_
  refine aM rfl (ev aa rfl) rfl ?_
  refine aM rfl (ev aa rfl) rfl ?_
  refine aM rfl (ev aa rfl) rfl ?_
  refine ey 0 rfl rfl rfl rfl rfl rfl ?_
  refine aM rfl (ev aa rfl) rfl ?_
  refine iS 12 0 rfl rfl rfl rfl rfl rfl rfl rfl rfl rfl rfl rfl ?_
  refine CE.nil ?_
  refine pE rfl (WO.nil (qs ?_))
  iterate 2 refine W.seq ?_
  refine W.region ?_
  iterate 2 refine pE rfl ?_
  refine WO.nil (qs (aq rfl (fun h81 => ?_) (fun h81 => ?_)))
  ·
   refine W.exit (aN (aO (qs (W.region ?_))))
   iterate 3 refine pE rfl ?_
   refine WO.nil (W.aY [0, 1] ⟨i + 1, ?_⟩ ?_ rfl ?_ ⟨rfl, rfl, trivial⟩ ?_ trivial rfl)
   · exact hlt0
   · dsimp only; omega
   · repeat' first | exact trivial | refine ⟨rfl, ?_⟩ | refine ⟨aE (by assumption) (by assumption), ?_⟩
   repeat' first | exact trivial | refine ⟨rfl, ?_⟩
  have hin : cX z (bh a) (bk a) = true := by simpa using h81
  refine W.skip (qs (W.seq (W.region (pE rfl (WO.nil (qs ?_))))))
  iterate 2 refine W.seq ?_
  refine W.region (pE rfl (WO.nil (qs (W.block ?_))))
  refine W.aW (ι := {x : Nat × Bool // match x with | (k, c) => k ≤ T0.1.rows.length ∧ c = (T0.1.rows.take k).any (qn a T0.1 on z)})
   (fun x => match x.1 with | (k, c) => [(2, .ptr 0 0), (5, .ptr 1 0), (9, .d (.v (.int .i64 ((i : Nat) : Int)))), (11, .ptr 2 0), (13, .d (.v (.bool c))), (14, .d (.v (.int .i64 ((k : Nat) : Int))))]) [(1, _), (10, _)]
   (fun x => match x.1 with | (k, c) => [(0, a.c.map A.d), (1, T0.1.c.map A.d), (2, [.d (ci (fm (bh a) (bk a) z)), .d (ci (dM (bh a) (bk a) z))])]) [] [] 3 (fun x => match x.1 with | (k, c) => T0.1.rows.length - k)
   [0, 1, 2] ⟨(0, false), ?_⟩ rfl ?_ ⟨rfl, rfl, rfl, rfl, trivial⟩ ?_ trivial rfl ?_
  · exact ⟨Nat.zero_le _, rfl⟩
  · repeat' first | exact trivial | refine ⟨rfl, ?_⟩
  · repeat' first | exact trivial | refine ⟨rfl, ?_⟩
  rintro ⟨⟨k, c⟩, hk, hc⟩
  show W _ _ _ _ _ ⟨[(2, .ptr 0 0), (5, .ptr 1 0), (9, .d (.v (.int .i64 ((i : Nat) : Int)))), (11, .ptr 2 0), (13, .d (.v (.bool c))), (14, .d (.v (.int .i64 ((k : Nat) : Int)))), (1, _), (10, _)], [(0, a.c.map A.d), (1, T0.1.c.map A.d), (2, [.d (ci (fm (bh a) (bk a) z)), .d (ci (dM (bh a) (bk a) z))])], [], 3⟩
  iterate 2 refine W.seq ?_
  refine W.region ?_
  iterate 2 refine pE rfl ?_
  refine pE rfl ?_
  iterate 2 refine pE rfl ?_
  refine WO.nil (qs (bg (l := T0.1.rows) (k := k) rfl (by simp [Ex.aF, aK]) hk (fun w hx hd hlt => ?_) (fun he hd => ?_)))
  ·
   have hwm := List.mem_of_getElem? hx
   have hvw := lj hu.ct hwm
   have hstep : (T0.1.rows.take (k + 1)).any (qn a T0.1 on z) = (c || qn a T0.1 on z w) := by rw [List.take_add_one, hx, hc, List.any_append]; simp
   have hbb : (bif c then true else bif cX w (bh T0.1) (bk T0.1) then bif decide (fc (cW (be a on) (bh a) (bk a) z) (cW (be T0.1 on) (bh T0.1) (bk T0.1) w) = 0) then bif decide (fm (bh T0.1) (bk T0.1) w ≤ fm (bh a) (bk a) z) then decide (dM (bh a) (bk a) z ≤ dM (bh T0.1) (bk T0.1) w) else false else false else false) = (c || qn a T0.1 on z w) := by
    unfold qn
    cases c <;> cases cX w (bh T0.1) (bk T0.1) <;> cases decide (fc (cW (be a on) (bh a) (bk a) z) (cW (be T0.1 on) (bh T0.1) (bk T0.1) w) = 0) <;> cases decide (fm (bh T0.1) (bk T0.1) w ≤ fm (bh a) (bk a) z) <;> cases decide (dM (bh a) (bk a) z ≤ dM (bh T0.1) (bk T0.1) w) <;> rfl
   refine W.skip (qs (W.seq (W.block (W.seq (W.eW aa 15 1 (by kernel_rfl) rfl rfl ?_)))))
   refine aM rfl (ev aa rfl) rfl ?_
   refine aM rfl (ev aa rfl) rfl ?_
   refine aM rfl (ev aa rfl) rfl ?_
   refine aM rfl (ev aa rfl) rfl ?_
   refine aM rfl (indexAddr aa rfl rfl rfl rfl rfl rfl (Int.natCast_nonneg _) (aH hx) rfl) rfl ?_
   refine aM rfl (ev aa rfl) rfl ?_
   refine aM rfl (ev aa rfl) rfl ?_
   refine aM rfl (ae rfl rfl rfl hvw rfl) rfl ?_
   refine aM rfl (ev aa rfl) rfl ?_
   refine aM rfl (ev aa rfl) rfl ?_
   refine aM rfl (ev aa rfl) rfl ?_
   refine aM rfl (ev aa rfl) rfl ?_
   refine ey 0 rfl rfl rfl rfl rfl rfl ?_
   refine aM rfl (ev aa rfl) rfl ?_
   refine iS 12 0 rfl rfl rfl rfl rfl rfl rfl rfl rfl rfl rfl rfl ?_
   refine CE.nil ?_
   refine pE rfl (WO.nil (qs ?_))
   apply aI; (case hb => rfl)
   ·
    iterate 2 refine pE rfl ?_
    apply aC; (case hj => rfl); (case hl => rfl)
    ·
     iterate 2 refine ay rfl rfl rfl rfl ?_
     iterate 4 refine gK rfl rfl rfl ?_
     iterate 2 refine ay rfl rfl rfl rfl ?_
     iterate 5 refine gK rfl rfl rfl ?_
     iterate 2 refine ay rfl rfl rfl rfl ?_
     iterate 5 refine gK rfl rfl rfl ?_
     refine ay rfl rfl rfl rfl ?_
     iterate 2 refine pE rfl ?_
     refine WO.nil (aA rfl rfl rfl)
    refine ah rfl rfl (pE rfl (ah rfl rfl (pE rfl ?_)))
    apply aC; (case hj => rfl); (case hl => rfl)
    ·
     refine ah rfl rfl (pE rfl (ah rfl rfl (pE rfl (ah rfl rfl (pu (ae rfl rfl rfl (jz (cW (be a on) (bh a) (bk a) z) (cW (be T0.1 on) (bh T0.1) (bk T0.1) w)) rfl) rfl ?_)))))
     refine ah rfl rfl (pE rfl (ah rfl rfl (pE rfl (ah rfl rfl (pE rfl ?_)))))
     apply aC; (case hj => rfl); (case hl => rfl)
     ·
      refine ah rfl rfl (pE rfl (ah rfl rfl (pE rfl (ah rfl rfl (pE rfl (ah rfl rfl (pE rfl (ah rfl rfl (pE rfl (ah rfl rfl (pE rfl (ah rfl rfl (pE rfl ?_)))))))))))))
      apply aC; (case hj => rfl); (case hl => rfl)
      ·
       refine ah rfl rfl (pE rfl (ah rfl rfl (pE rfl (ah rfl rfl (pE rfl (ah rfl rfl (pE rfl (ah rfl rfl (pE rfl (ah rfl rfl ?_))))))))))
       iterate 3 refine pE rfl ?_
       refine WO.nil (aA rfl rfl rfl)
      iterate 5 refine ay rfl rfl rfl rfl ?_
      refine ah rfl rfl ?_
      iterate 3 refine pE rfl ?_
      refine WO.nil (aA rfl rfl rfl)
     iterate 5 refine ay rfl rfl rfl rfl ?_
     refine ah rfl rfl (pE rfl (ah rfl rfl (pE rfl ?_)))
     iterate 5 refine ay rfl rfl rfl rfl ?_
     refine ah rfl rfl ?_
     iterate 3 refine pE rfl ?_
     refine WO.nil (aA rfl rfl rfl)
    iterate 4 refine ay rfl rfl rfl rfl ?_
    refine ah rfl rfl (pE rfl (ah rfl rfl (pE rfl ?_)))
    iterate 5 refine ay rfl rfl rfl rfl ?_
    refine ah rfl rfl (pE rfl (ah rfl rfl (pE rfl ?_)))
    iterate 5 refine ay rfl rfl rfl rfl ?_
    refine ah rfl rfl ?_
    iterate 3 refine pE rfl ?_
    refine WO.nil (aA rfl rfl rfl)
   refine a0 (qs (W.region ?_))
   iterate 3 refine pE rfl ?_
   refine WO.nil (W.aY [0, 1, 2] ⟨(k + 1, c || qn a T0.1 on z w), ?_⟩ ?_ rfl ?_ ⟨rfl, rfl, rfl, rfl, trivial⟩ ?_ trivial rfl)
   · exact ⟨hlt, hstep.symm⟩
   · dsimp only; omega
   · repeat' first | exact trivial | refine ⟨rfl, ?_⟩ | refine ⟨aE (by assumption) (by assumption), ?_⟩ | refine ⟨congrArg (fun b => some (A.d (D.v (Value.bool b)))) hbb, ?_⟩
   repeat' first | exact trivial | refine ⟨rfl, ?_⟩
  have hct : c = true := by
   rw [hc, List.take_of_length_le (by have := congrArg List.length hd; simp at this; omega)]
   obtain ⟨w, hw, hb⟩ := hu.cover z hzm hin
   exact List.any_eq_true.2 ⟨w, hw, hb⟩
  refine W.exit (aN (aR (aO (qs (W.seq (W.region ?_))))))
  iterate 2 refine pE rfl ?_
  refine WO.nil (qs (aq rfl (fun h126 => ?_) (fun h126 => ?_)))
  ·
   exfalso
   revert h126
   simp [hct]
  refine W.skip (a0 (qs (W.region ?_)))
  iterate 3 refine pE rfl ?_
  refine WO.nil (W.aY [0, 1] ⟨i + 1, ?_⟩ ?_ rfl ?_ ⟨rfl, rfl, trivial⟩ ?_ trivial rfl)
  · exact hlt0
  · dsimp only; omega
  · repeat' first | exact trivial | refine ⟨rfl, ?_⟩ | refine ⟨aE (by assumption) (by assumption), ?_⟩
  repeat' first | exact trivial | refine ⟨rfl, ?_⟩
 refine W.exit (aN (aR (aO (qs ?_))))
 iterate 2 refine W.seq ?_
 refine W.region (pE rfl (WO.nil (qs (W.block ?_))))
 refine W.aW (ι := {x : Nat // match x with | k => k ≤ T0.1.rows.length})
  (fun x => match x.1 with | k => [(2, .ptr 0 0), (5, .ptr 1 0), (18, .d (.v (.int .i64 ((k : Nat) : Int))))]) [(1, _)]
  (fun x => match x.1 with | k => [(0, a.c.map A.d), (1, T0.1.c.map A.d)]) [] [] 2 (fun x => match x.1 with | k => T0.1.rows.length - k)
  [0, 1] ⟨0, ?_⟩ rfl ?_ ⟨rfl, rfl, trivial⟩ ?_ trivial rfl ?_
 · exact Nat.zero_le _
 · repeat' first | exact trivial | refine ⟨rfl, ?_⟩
 · repeat' first | exact trivial | refine ⟨rfl, ?_⟩
 rintro ⟨k, hk⟩
 show W _ _ _ _ _ ⟨[(2, .ptr 0 0), (5, .ptr 1 0), (18, .d (.v (.int .i64 ((k : Nat) : Int)))), (1, _)], [(0, a.c.map A.d), (1, T0.1.c.map A.d)], [], 2⟩
 iterate 2 refine W.seq ?_
 refine W.region ?_
 iterate 2 refine pE rfl ?_
 refine pE rfl ?_
 iterate 2 refine pE rfl ?_
 refine WO.nil (qs (bg (l := T0.1.rows) (k := k) rfl (by simp [Ex.aF, aK]) hk (fun w hx hd hlt => ?_) (fun he hd => ?_)))
 ·
  have hwm := List.mem_of_getElem? hx
  have hvw := lj hu.ct hwm
  have hiw := hu.isIn w hwm
  rw [hiw] at hvw
  have hre := vL a on (cW (be T0.1 on) (bh T0.1) (bk T0.1) w) (fm (bh T0.1) (bk T0.1) w) (dM (bh T0.1) (bk T0.1) w) hu.ca (hu.le w hwm) (hu.up w hwm) (hu.gap w hwm)
  refine W.skip (qs (W.seq (W.block (W.seq (W.eW aa 15 1 (by kernel_rfl) rfl rfl ?_)))))
  refine aM rfl (ev aa rfl) rfl ?_
  refine aM rfl (ev aa rfl) rfl ?_
  refine aM rfl (ev aa rfl) rfl ?_
  refine aM rfl (ev aa rfl) rfl ?_
  refine aM rfl (indexAddr aa rfl rfl rfl rfl rfl rfl (Int.natCast_nonneg _) (aH hx) rfl) rfl ?_
  refine aM rfl (ev aa rfl) rfl ?_
  refine aM rfl (ev aa rfl) rfl ?_
  refine aM rfl (ae rfl rfl rfl hvw rfl) rfl ?_
  refine aM rfl (ev aa rfl) rfl ?_
  refine aM rfl (ev aa rfl) rfl ?_
  refine aM rfl (ev aa rfl) rfl ?_
  refine aM rfl (ev aa rfl) rfl ?_
  refine ey 0 rfl rfl rfl rfl rfl rfl ?_
  refine aM rfl (ev aa rfl) rfl ?_
  refine iS 12 0 rfl rfl rfl rfl rfl rfl rfl rfl rfl rfl rfl rfl ?_
  refine CE.nil ?_
  refine pE rfl (WO.nil (qs ?_))
  iterate 2 refine W.seq ?_
  apply iX aa; (case hb => rfl); (case hB => kernel_rfl)
  ·
   iterate 3 refine ao (ev aa rfl) rfl ?_
   apply fI; (case hj => rfl); (case hl => rfl)
   ·
    iterate 11 refine bt rfl rfl rfl rfl ?_
    refine ao (ev aa rfl) rfl ?_
    refine CH.nil ?_
    refine aA rfl rfl rfl
   refine aL rfl rfl (ev aa rfl) rfl ?_
   refine aL rfl rfl (ev aa rfl) rfl ?_
   refine aL rfl rfl (ev aa rfl) rfl ?_
   refine aL rfl rfl (ev aa rfl) rfl ?_
   refine aL rfl rfl (ev aa rfl) rfl ?_
   refine aL rfl rfl (ev aa rfl) rfl ?_
   refine aL rfl rfl (ev aa rfl) rfl ?_
   refine aL rfl rfl (ae rfl rfl rfl hre rfl) rfl ?_
   refine aL rfl rfl (ev aa rfl) rfl ?_
   refine aL rfl rfl (ev aa rfl) rfl ?_
   refine aL rfl rfl (ev aa rfl) rfl ?_
   refine ao (ev aa rfl) rfl ?_
   refine CH.nil ?_
   refine aA rfl rfl rfl
  refine qs (aq rfl (fun h160 => ?_) (fun h160 => ?_))
  ·
   exfalso
   revert h160
   simp
  refine W.skip (qs ?_)
  iterate 2 refine W.seq ?_
  refine W.region ?_
  iterate 2 refine pE rfl ?_
  refine WO.nil (qs (aq rfl (fun h162 => ?_) (fun h162 => ?_)))
  ·
   refine W.exit (aN (aO (qs (W.region ?_))))
   iterate 3 refine pE rfl ?_
   refine WO.nil (W.aY [0, 1] ⟨k + 1, ?_⟩ ?_ rfl ?_ ⟨rfl, rfl, trivial⟩ ?_ trivial rfl)
   · exact hlt
   · dsimp only; omega
   · repeat' first | exact trivial | refine ⟨rfl, ?_⟩ | refine ⟨aE (by assumption) (by assumption), ?_⟩
   repeat' first | exact trivial | refine ⟨rfl, ?_⟩
  have hk0 : k ≠ 0 := by
   intro q
   revert h162
   simp [q]
  obtain ⟨j, hj⟩ : ∃ j, k = j + 1 := ⟨k - 1, by omega⟩
  obtain ⟨v, hvj⟩ : ∃ v, T0.1.rows[j]? = some v := ⟨T0.1.rows[j]'(by omega), by simp⟩
  have hvm := List.mem_of_getElem? hvj
  have hvv := lj hu.ct hvm
  rw [hu.isIn v hvm] at hvv
  have hse := hu.sep j v w hvj (by rw [← hj]; exact hx)
  have hsub : IntKind.i64.wrap ((k : Int) - 1) = ((j : Nat) : Int) := by rw [wrap64 (by omega)]; omega
  refine W.skip (qs (W.seq (W.eW aa 16 1 (by kernel_rfl) rfl rfl ?_)))
  refine aM rfl (ev aa rfl) rfl ?_
  refine aM rfl (ev aa rfl) rfl ?_
  refine aM rfl (ev aa rfl) rfl ?_
  refine aM rfl (ev aa rfl) rfl ?_
  refine aM rfl (bL (ev aa rfl) hsub) rfl ?_
  refine aM rfl (indexAddr aa rfl rfl rfl rfl rfl rfl (Int.natCast_nonneg _) (aH hvj) rfl) rfl ?_
  refine aM rfl (ev aa rfl) rfl ?_
  refine aM rfl (ev aa rfl) rfl ?_
  refine aM rfl (ae rfl rfl rfl hvv rfl) rfl ?_
  refine aM rfl (ev aa rfl) rfl ?_
  refine aM rfl (ev aa rfl) rfl ?_
  refine aM rfl (ev aa rfl) rfl ?_
  refine aM rfl (ev aa rfl) rfl ?_
  refine ey 0 rfl rfl rfl rfl rfl rfl ?_
  refine aM rfl (ev aa rfl) rfl ?_
  refine iS 13 0 rfl rfl rfl rfl rfl rfl rfl rfl rfl rfl rfl rfl ?_
  refine CE.nil ?_
  refine pE rfl (WO.nil (qs (W.seq (W.region ?_))))
  iterate 2 refine pE rfl ?_
  refine pu (ae rfl rfl rfl (jz (cW (be T0.1 on) (bh T0.1) (bk T0.1) v) (cW (be T0.1 on) (bh T0.1) (bk T0.1) w)) rfl) rfl ?_
  refine pE rfl (WO.nil (qs (W.seq ?_)))
  apply aI; (case hb => rfl)
  ·
   iterate 3 refine pE rfl ?_
   apply aC; (case hj => rfl); (case hl => rfl)
   ·
    iterate 3 refine ay rfl rfl rfl rfl ?_
    iterate 5 refine gK rfl rfl rfl ?_
    refine ay rfl rfl rfl rfl (pE rfl (WO.nil (aA rfl rfl rfl)))
   refine ah rfl rfl (pE rfl (ah rfl rfl (pE rfl (ah rfl rfl (pE rfl ?_)))))
   apply aC; (case hj => rfl); (case hl => rfl)
   ·
    refine ah rfl rfl (pE rfl (ah rfl rfl (pE rfl (ah rfl rfl (pE rfl (ah rfl rfl (pE rfl (ah rfl rfl (pE rfl (ah rfl rfl ?_))))))))))
    iterate 2 refine pE rfl ?_
    refine WO.nil (aA rfl rfl rfl)
   iterate 5 refine ay rfl rfl rfl rfl ?_
   refine ah rfl rfl ?_
   iterate 2 refine pE rfl ?_
   refine WO.nil (aA rfl rfl rfl)
  refine qs (aq rfl (fun h191 => ?_) (fun h191 => ?_))
  ·
   exfalso
   revert h191
   by_cases q : fc (cW (be T0.1 on) (bh T0.1) (bk T0.1) v) (cW (be T0.1 on) (bh T0.1) (bk T0.1) w) = 0
   ·
    have := hse.2 q
    simp [q]
    omega
   have := hse.1
   simp [q]
   omega
  refine W.skip (a0 (qs (W.region ?_)))
  iterate 3 refine pE rfl ?_
  refine WO.nil (W.aY [0, 1] ⟨k + 1, ?_⟩ ?_ rfl ?_ ⟨rfl, rfl, trivial⟩ ?_ trivial rfl)
  · exact hlt
  · dsimp only; omega
  · repeat' first | exact trivial | refine ⟨rfl, ?_⟩ | refine ⟨aE (by assumption) (by assumption), ?_⟩
  repeat' first | exact trivial | refine ⟨rfl, ?_⟩
 refine W.exit (aN (aR (aO (qs (W.seq (W.region (pu (ae rfl rfl rfl ma rfl) rfl ?_)))))))
 refine pE rfl (WO.nil (qs (W.ret (QF.ar trivial rfl ?_))))
 rfl
end Go.Proofs.Ytjenenllmjlimaa
