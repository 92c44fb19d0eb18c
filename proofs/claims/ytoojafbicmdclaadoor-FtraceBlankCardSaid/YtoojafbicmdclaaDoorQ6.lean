import Derived.Test.YtoojafbicmdclaaDoorQ5
namespace Go.Proofs.YtoojafbicmdclaaDoor
open Go.Ab Go.Tb
set_option maxRecDepth 10000
attribute [local irreducible] W WO Pu QS QB QL QF QV QV1 CH QE
theorem logE_small {acc : List (Int × Ev)} (h : acc.length ≤ 1000) : SmallL (logE acc).1 := by
 by_cases q : (logE acc).2 = 0
 ·
  have e : (logE acc).1 = _ := ofF_ok q
  have hk := KeyOk.adds acc key0
  have ht : totN (addsF ([], []) acc).2 ≤ 0 + acc.length := totN_adds acc ([], [])
  have hl := totN_len hk.2.2
  have hl2 : (addsF ([], []) acc).1.length = (addsF ([], []) acc).2.length := by rw [← hk.1, List.length_map]
  rw [e]
  refine ⟨by simp; omega, by show dom0.length ≤ 1000; decide, by simp; omega, fun p hp => ?_⟩
  obtain ⟨x, hx, rfl⟩ := List.mem_map.1 hp
  have := totN_mem hx
  show x.2.length ≤ 1000
  omega
 ·
  have e : (logE acc).1 = log0 := ofF_err q
  rw [e]
  exact ⟨by decide, by decide, by decide, fun p hp => by cases hp⟩
theorem imp_small {s : ByteArray} (hs : s.size ≤ 2000) : SmallL (impF s).l := by
 have h0 : SmallL log0 := ⟨by decide, by decide, by decide, fun p hp => by cases hp⟩
 unfold impF
 split
 · exact h0
 ·
  split
  · exact h0
  ·
   refine logE_small ?_
   have := (linesF_ok (cutB s 10) 0 [] (by simp)).2
   have h2 := evsN_le hs
   simp at this
   omega
theorem nl_size (s : ByteArray) : (s ++ B #[10]).size = s.size + 1 := by
 rw [ByteArray.size_append]; rfl
theorem fblank_fn (s : ByteArray) (i : Int) : Does Tryd.prog 4 [.d (.v (.string s)), .d (.v (.int .i64 i))] (.d (.v (.bool true))) 0 := by
 have hbl : (bys s).length = s.size := Array.length_toList
 obtain ⟨b, hb⟩ : ∃ b, 0 ≤ i → i < s.size → (bys s)[i.toNat]? = some b := by
  by_cases q : 0 ≤ i ∧ i < s.size
  · exact ⟨(bys s)[i.toNat]'(by omega), fun _ _ => by simp⟩
  · exact ⟨0, fun h1 h2 => absurd ⟨h1, h2⟩ q⟩
 refine Does.of_W (n := 79) (ts := [4]) Tryd.func4 (by kernel_rfl) rfl Tryd.ntmps4 Tryd.results4 rfl rfl fun C hC hG => ?_
 refine W.seq (W.region ?_)
 refine pE rfl ?_
 refine WO.nil (qs ?_)
 iterate 2 refine W.seq ?_
 refine W.region ?_
 iterate 3 refine pE rfl ?_
 refine WO.nil (qs ?_)
 refine condK rfl (fun h16 => ?_) (fun h16 => ?_)
 ·
  refine W.seq (W.region ?_)
  refine pu (puCall rfl rfl rfl (lives_fn ..) rfl) rfl ?_
  refine pE rfl ?_
  refine WO.nil (qs (W.ret (qsRet ?_)))
  refine QF.ret0 trivial rfl ?_
  rfl
 ·
  have hs : s.size ≤ 1500 := by simp at h16; omega
  have hi1 := import_fn s (evsN_le (by omega))
  have hi2 := import_fn (s ++ B #[10]) (evsN_le (by rw [nl_size]; omega))
  have hsm := imp_small (s := s) (by omega)
  have h12 := imp_blank (s := s) (t := s ++ B #[10]) (a := cutB s 10) (b := []) (by omega) (by rw [nl_size]; omega) (by simp) (cut_end s)
  have h13 : ∀ k : Nat, (bys s)[k]? = some 10 → (impF s).l = (impF (s.extract 0 k ++ B #[10] ++ s.extract k s.size)).l ∧ (impF s).e = (impF (s.extract 0 k ++ B #[10] ++ s.extract k s.size)).e := fun k hk => by
   obtain ⟨a, c, e1, e2⟩ := cut_mid hk
   refine imp_blank (by omega) ?_ e1 e2
   rw [ByteArray.size_append, ByteArray.size_append, ByteArray.size_extract, ByteArray.size_extract, show (B #[10]).size = 1 from rfl]
   omega
  rw [← h12.1, ← h12.2] at hi2
  generalize (impF (s ++ B #[10])).n = n2 at hi2
  obtain ⟨R, hR⟩ : ∃ R, R = impF s := ⟨_, rfl⟩
  rw [← hR] at hi1 hi2 hsm h13
  clear h12 hR
  refine W.skip (qs (W.seq (W.region ?_)))
  refine pE rfl ?_
  refine pu (puCall rfl rfl rfl hi1 rfl) rfl ?_
  iterate 4 refine pE rfl ?_
  refine allocR tab rfl rfl rfl ?_
  refine storeR tab rfl rfl rfl rfl rfl rfl rfl rfl ?_
  iterate 2 refine pE rfl ?_
  refine WO.nil (qs (W.seq (W.region ?_)))
  refine pE rfl ?_
  refine pu (strAdd (p := s) (q := B #[10]) rfl rfl (by rw [show (B #[10]).size = 1 from rfl]; omega)) rfl ?_
  refine pu (puCall rfl rfl rfl hi2 rfl) rfl ?_
  iterate 4 refine pE rfl ?_
  refine allocR tab rfl rfl rfl ?_
  refine storeR tab rfl rfl rfl rfl rfl rfl rfl rfl ?_
  iterate 2 refine pE rfl ?_
  refine WO.nil (qs ?_)
  iterate 2 refine W.seq ?_
  apply regionB; (case hb => rfl)
  ·
   first | refine pE rfl ?_ | refine pR rfl rfl rfl rfl rfl ?_ | refine pB rfl rfl rfl rfl rfl rfl ?_
   first | refine pE rfl ?_ | refine pR rfl rfl rfl rfl rfl ?_ | refine pB rfl rfl rfl rfl rfl rfl ?_
   refine pu (puCall rfl rfl rfl (rsameL_fn R.l hsm) rfl) rfl ?_
   iterate 2 refine pE rfl ?_
   apply splitH; (case hj => rfl); (case hl => rfl)
   ·
    intro g35
    iterate 3 refine skipT rfl rfl rfl rfl ?_
    refine pE rfl ?_
    refine WO.nil ?_
    refine qv1 rfl rfl rfl
   ·
    intro g35
    refine goG rfl rfl ?_
    refine pE rfl ?_
    refine goG rfl rfl ?_
    refine pE rfl ?_
    refine goG rfl rfl ?_
    iterate 2 refine pE rfl ?_
    refine WO.nil ?_
    refine qv1 rfl rfl rfl
  refine qs ?_
  refine condK rfl (fun h39 => ?_) (fun h39 => ?_)
  ·
   exfalso; simp at h39
  ·
   refine W.skip (qs ?_)
   iterate 2 refine W.seq ?_
   apply regionB; (case hb => rfl)
   ·
    iterate 3 refine pE rfl ?_
    apply splitH; (case hj => rfl); (case hl => rfl)
    ·
     intro g42
     iterate 4 refine skipT rfl rfl rfl rfl ?_
     iterate 2 refine pE rfl ?_
     iterate 4 refine skipT rfl rfl rfl rfl ?_
     refine pE rfl ?_
     refine WO.nil ?_
     refine qv1 rfl rfl rfl
    ·
     intro g42
     refine goG rfl rfl ?_
     refine pE rfl ?_
     refine goG rfl rfl ?_
     refine pE rfl ?_
     refine goG rfl rfl ?_
     refine pE rfl ?_
     refine goG rfl rfl ?_
     iterate 3 refine pE rfl ?_
     apply splitH; (case hj => rfl); (case hl => rfl)
     ·
      intro g48
      iterate 4 refine skipT rfl rfl rfl rfl ?_
      refine pE rfl ?_
      refine WO.nil ?_
      refine qv1 rfl rfl rfl
     ·
      intro g48
      refine goG rfl rfl ?_
      refine pE rfl ?_
      refine goG rfl rfl ?_
      refine pE rfl ?_
      refine goG rfl rfl ?_
      refine pu (indexStr tab rfl rfl rfl rfl (by simp at g42; omega) (byteList (hb (by simp at g42; omega) (by simp at g42 g48; omega)))) rfl ?_
      refine goG rfl rfl ?_
      iterate 2 refine pE rfl ?_
      refine WO.nil ?_
      refine qv1 rfl rfl rfl
   refine qs ?_
   refine condK rfl (fun h53 => ?_) (fun h53 => ?_)
   ·
    refine W.seq (W.region ?_)
    refine pu (puCall rfl rfl rfl (lives_fn ..) rfl) rfl ?_
    refine pE rfl ?_
    refine WO.nil (qs (W.ret (qsRet ?_)))
    refine QF.ret0 trivial rfl ?_
    rfl
   ·
    have hq : 0 ≤ i ∧ i < s.size := by
     by_cases q1 : i < 0
     · simp [q1] at h53
     ·
      by_cases q2 : (s.size : Int) ≤ i
      · simp [q1, q2] at h53
      · omega
    have hb := hb hq.1 hq.2
    have hb10 : b = 10 := by
     have q1 : ¬ i < 0 := by omega
     have q2 : ¬ (s.size : Int) ≤ i := by omega
     simp [q1, q2] at h53
     exact UInt8.toNat_inj.1 (by show b.toNat = 10; omega)
    subst hb10
    obtain ⟨k, rfl⟩ : ∃ k : Nat, i = (k : Int) := ⟨i.toNat, by omega⟩
    have hkb : (bys s)[k]? = some 10 := hb
    have hkl : k < s.size := by omega
    have hsz3 : (s.extract 0 k ++ B #[10] ++ s.extract k s.size).size = s.size + 1 := by
     rw [ByteArray.size_append, ByteArray.size_append, ByteArray.size_extract, ByteArray.size_extract, show (B #[10]).size = 1 from rfl]
     omega
    have hi3 := import_fn (s.extract 0 k ++ B #[10] ++ s.extract k s.size) (evsN_le (by omega))
    have h3 := h13 k hkb
    rw [← h3.1, ← h3.2] at hi3
    generalize (impF (s.extract 0 k ++ B #[10] ++ s.extract k s.size)).n = n3 at hi3
    clear h13
    refine W.skip (qs (W.seq ?_))
    refine W.regionE tab 16 1 (by kernel_rfl) rfl rfl ?_
    refine cePu rfl (ev tab rfl) rfl ?_
    refine cePu rfl (ev tab rfl) rfl ?_
    refine cePu rfl (strTo (s := s) (h := (k : Int)) tab rfl rfl rfl rfl (Int.natCast_nonneg _) (by omega)) rfl ?_
    refine cePu rfl (strAdd (p := s.extract 0 k) (q := B #[10]) rfl rfl (by rw [ByteArray.size_extract, show (B #[10]).size = 1 from rfl]; omega)) rfl ?_
    refine cePu rfl (ev tab rfl) rfl ?_
    refine cePu rfl (ev tab rfl) rfl ?_
    refine cePu rfl (strFrom (s := s) (l := (k : Int)) tab rfl rfl rfl rfl (Int.natCast_nonneg _) (by omega)) rfl ?_
    refine cePu rfl (strAdd (p := s.extract 0 k ++ B #[10]) (q := s.extract k s.size) rfl rfl (by rw [ByteArray.size_append, ByteArray.size_extract, ByteArray.size_extract, show (B #[10]).size = 1 from rfl]; omega)) rfl ?_
    refine cePu rfl (puCall rfl rfl rfl hi3 rfl) rfl ?_
    refine cePu rfl (ev tab rfl) rfl ?_
    refine cePu rfl (ev tab rfl) rfl ?_
    refine cePu rfl (ev tab rfl) rfl ?_
    refine cePu rfl (ev tab rfl) rfl ?_
    refine ceAlloc 0 rfl rfl rfl rfl rfl rfl ?_
    refine ceStore 13 0 rfl rfl rfl rfl rfl rfl rfl rfl rfl rfl rfl rfl ?_
    refine cePu rfl (ev tab rfl) rfl ?_
    refine CE.nil ?_
    refine pE rfl ?_
    refine WO.nil (qs (W.seq ?_))
    apply regionB; (case hb => rfl)
    ·
     first | refine pE rfl ?_ | refine pR rfl rfl rfl rfl rfl ?_ | refine pB rfl rfl rfl rfl rfl rfl ?_
     first | refine pE rfl ?_ | refine pR rfl rfl rfl rfl rfl ?_ | refine pB rfl rfl rfl rfl rfl rfl ?_
     refine pu (puCall rfl rfl rfl (rsameL_fn R.l hsm) rfl) rfl ?_
     refine pE rfl ?_
     apply splitH; (case hj => rfl); (case hl => rfl)
     ·
      intro g71
      refine goG rfl rfl ?_
      refine pE rfl ?_
      refine goG rfl rfl ?_
      refine pE rfl ?_
      refine goG rfl rfl ?_
      iterate 3 refine pE rfl ?_
      apply splitH; (case hj => rfl); (case hl => rfl)
      ·
       intro g76
       refine goG rfl rfl ?_
       refine pu (puCall rfl rfl rfl (lives_fn ..) rfl) rfl ?_
       iterate 2 refine pE rfl ?_
       refine WO.nil ?_
       refine qv1 rfl rfl rfl
      ·
       intro g76
       refine skipT rfl rfl rfl rfl ?_
       iterate 2 refine pE rfl ?_
       refine WO.nil ?_
       refine qv1 rfl rfl rfl
     ·
      intro g71
      iterate 3 refine skipT rfl rfl rfl rfl ?_
      iterate 2 refine pE rfl ?_
      refine skipT rfl rfl rfl rfl ?_
      iterate 2 refine pE rfl ?_
      refine WO.nil ?_
      refine qv1 rfl rfl rfl
    refine qs (W.ret ?_)
    refine QF.ret0 trivial rfl ?_
    simp [norm, oneA, boolA]
end Go.Proofs.YtoojafbicmdclaaDoor
