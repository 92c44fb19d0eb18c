import Derived.Test.YtllkpgnpioojjaaDoorQ2
import Derived.Recover
import Derived.Laws.Slices
import Derived.Laws.BytesString
import Derived.Laws.Cells
namespace Go.Tb
open Go.Ab
/-! positions -/
def Bd {α : Type} (l : List UInt8) (i : Nat) : PE α → Prop
  | .ok _ j => i < j ∧ j ≤ l.length
  | .no a _ => i ≤ a ∧ a ≤ l.length
theorem takeJ_bd {l : List UInt8} {c : UInt8} {i : Nat} (h : i ≤ l.length) : Bd l i (takeJ l c i) := by
  unfold takeJ
  split
  · rename_i q; exact ⟨Nat.lt_succ_self _, q.1⟩
  · exact ⟨Nat.le_refl _, h⟩
theorem wordJ_bd {l : List UInt8} : ∀ {x : List UInt8} {i : Nat}, i ≤ l.length → (match wordJ l x i with | .ok _ j => j = i + x.length ∧ j ≤ l.length | .no a _ => i ≤ a ∧ a ≤ l.length)
  | [], i, h => ⟨rfl, h⟩
  | c :: x, i, h => by
    simp only [wordJ]
    have h1 := takeJ_bd (c := c) h
    cases ht : takeJ l c i with
    | no a w => rw [ht] at h1; exact h1
    | ok u j =>
      have hj : j = i + 1 ∧ i < l.length := by
        unfold takeJ at ht
        split at ht
        · rename_i q; injection ht with _ h2; exact ⟨h2.symm, q.1⟩
        · cases ht
      have ih := wordJ_bd (l := l) (x := x) (i := j) (by omega)
      dsimp only
      revert ih
      cases wordJ l x j with
      | ok _ j2 => rintro ⟨h2, h3⟩; exact ⟨by simp only [List.length_cons]; omega, h3⟩
      | no a w => rintro ⟨h2, h3⟩; exact ⟨by omega, h3⟩
theorem wordJ_no {l : List UInt8} : ∀ {x : List UInt8} {i a : Nat} {w : Int}, wordJ l x i = .no a w → w = 10
  | [], i, a, w, h => by cases h
  | c :: x, i, a, w, h => by
    simp only [wordJ] at h
    cases ht : takeJ l c i with
    | no a' w' =>
      rw [ht] at h
      unfold takeJ at ht
      split at ht
      · cases ht
      · injection ht with _ h2; injection h with _ h3; omega
    | ok u j => rw [ht] at h; exact wordJ_no h
theorem here_lt {l : List UInt8} {i : Nat} (h : hereB l i ≠ 0) : i < l.length := by
  rcases Nat.lt_or_ge i l.length with h1 | h1
  · exact h1
  · exact absurd (here_end h1) h
theorem hexV_lt {l : List UInt8} {i n : Nat} (h : hexV (hereB l i) = some n) : i < l.length := here_lt fun q => by rw [q, show hexV 0 = none by decide] at h; cases h
theorem escJ_bd {l : List UInt8} {i : Nat} (h : i ≤ l.length) : Bd l i (escJ l i) := by
  unfold escJ
  split
  · rename_i q
    exact ⟨Nat.lt_succ_self _, here_lt fun z => by rw [z] at q; revert q; decide⟩
  · split
    · rename_i q; exact ⟨Nat.lt_succ_self _, here_lt (by rw [q]; decide)⟩
    · split
      · rename_i q; exact ⟨Nat.lt_succ_self _, here_lt (by rw [q]; decide)⟩
      · have hw := wordJ_bd (l := l) (x := [117, 48, 48]) h
        revert hw
        cases wordJ l [117, 48, 48] i with
        | no a w => exact fun hw => hw
        | ok u j =>
          rintro ⟨h1, h2⟩
          have h1 : j = i + 3 := h1
          dsimp only
          split
          · exact ⟨by omega, h2⟩
          · rename_i high hh
            have := hexV_lt hh
            split
            · exact ⟨by omega, h2⟩
            · split
              · exact ⟨by omega, by omega⟩
              · rename_i low hl
                have := hexV_lt hl
                split
                · exact ⟨by omega, by omega⟩
                · exact ⟨by omega, by omega⟩
theorem textGo_bd {l : List UInt8} : ∀ {k i : Nat} {acc : List UInt8}, i ≤ l.length → Bd l i (textGo l k i acc)
  | 0, i, _, h => ⟨Nat.le_refl _, h⟩
  | k + 1, i, acc, h => by
    unfold textGo
    split
    · exact ⟨Nat.le_refl _, h⟩
    · rename_i q0
      have hlt : i < l.length := here_lt fun z => q0 (by rw [z]; left; decide)
      split
      · exact ⟨Nat.lt_succ_self _, hlt⟩
      · split
        · have he := escJ_bd (l := l) (i := i + 1) hlt
          revert he
          cases escJ l (i + 1) with
          | no a w => rintro ⟨h1, h2⟩; exact ⟨by omega, h2⟩
          | ok c j =>
            rintro ⟨h1, h2⟩
            have ih := textGo_bd (l := l) (k := k) (i := j) (acc := acc ++ [c]) h2
            dsimp only
            revert ih
            cases textGo l k j (acc ++ [c]) with
            | no a w => rintro ⟨h3, h4⟩; exact ⟨by omega, h4⟩
            | ok t j2 => rintro ⟨h3, h4⟩; exact ⟨by omega, h4⟩
        · have ih := textGo_bd (l := l) (k := k) (i := i + 1) (acc := acc ++ [hereB l i]) hlt
          revert ih
          cases textGo l k (i + 1) (acc ++ [hereB l i]) with
          | no a w => rintro ⟨h3, h4⟩; exact ⟨by omega, h4⟩
          | ok t j2 => rintro ⟨h3, h4⟩; exact ⟨by omega, h4⟩
theorem Bd.mono {α : Type} {l : List UInt8} {i i' : Nat} (h : i' ≤ i) : ∀ {x : PE α}, Bd l i x → Bd l i' x
  | .ok _ _, ⟨h1, h2⟩ => ⟨Nat.lt_of_le_of_lt h h1, h2⟩
  | .no _ _, ⟨h1, h2⟩ => ⟨Nat.le_trans h h1, h2⟩
theorem textJ_bd {l : List UInt8} {i : Nat} (h : i ≤ l.length) : Bd l i (textJ l i) := by
  unfold textJ
  have h1 := takeJ_bd (c := 34) h
  revert h1
  cases takeJ l 34 i with
  | no a w => exact fun h1 => h1
  | ok u j => rintro ⟨h1, h2⟩; exact (textGo_bd h2).mono (Nat.le_of_lt h1)
theorem runD_bd {l : List UInt8} : ∀ {k i : Nat}, i ≤ l.length → i ≤ runD l k i ∧ runD l k i ≤ l.length
  | 0, i, h => ⟨Nat.le_refl _, h⟩
  | k + 1, i, h => by
    simp only [runD]
    split
    · rename_i q
      have := runD_bd (l := l) (k := k) (i := i + 1) q.1
      exact ⟨by omega, this.2⟩
    · exact ⟨Nat.le_refl _, h⟩
theorem digsJ_bd {l : List UInt8} {i : Nat} (h : i ≤ l.length) : i ≤ digsJ l i ∧ digsJ l i ≤ l.length := by
  unfold digsJ
  split
  · rename_i q
    exact ⟨Nat.le_succ _, here_lt (by rw [q]; decide)⟩
  · exact runD_bd h
theorem Bd_ite {α : Type} {l : List UInt8} {i : Nat} {c : Prop} [Decidable c] {a b : PE α} (ha : Bd l i a) (hb : Bd l i b) : Bd l i (if c then a else b) := by split <;> assumption
theorem numJ_bd {l : List UInt8} {i : Nat} (h : i ≤ l.length) : Bd l i (numJ l i) := by
  unfold numJ
  dsimp only
  have h1 : i ≤ (if hereB l i = 45 then i + 1 else i) ∧ (if hereB l i = 45 then i + 1 else i) ≤ l.length := by
    split
    · rename_i q; exact ⟨Nat.le_succ _, here_lt (by rw [q]; decide)⟩
    · exact ⟨Nat.le_refl _, h⟩
  generalize (if hereB l i = 45 then i + 1 else i) = i1 at h1 ⊢
  have h2 := digsJ_bd (l := l) h1.2
  by_cases q : digsJ l i1 = i1
  · rw [if_pos q]; exact h1
  · rw [if_neg q]
    exact Bd_ite ⟨by omega, h2.2⟩ ⟨Nat.le_refl _, h⟩
structure AllBd (l : List UInt8) (k : Nat) : Prop where
  v : ∀ level i, i ≤ l.length → Bd l i (valJ l k level i)
  a : ∀ level i, i ≤ l.length → Bd l i (arrJ l k level i)
  ag : ∀ level i acc, i ≤ l.length → Bd l i (arrGo l k level i acc)
  o : ∀ level i, i ≤ l.length → Bd l i (objJ l k level i)
  og : ∀ level i keys acc, i ≤ l.length → Bd l i (objGo l k level i keys acc)
theorem word_val {l x : List UInt8} {i : Nat} {v : JV} (hx : x ≠ []) (h : i ≤ l.length) : Bd l i (match wordJ l x i with | .no a w => .no a w | .ok _ j => .ok v j) := by
  have hw := wordJ_bd (l := l) (x := x) h
  have := List.length_pos_iff.2 hx
  revert hw
  cases wordJ l x i with
  | no a w => exact fun hw => hw
  | ok u j => rintro ⟨h1, h2⟩; exact ⟨by omega, h2⟩
theorem allBd (l : List UInt8) : ∀ k, AllBd l k
  | 0 => ⟨fun _ _ h => by unfold valJ; exact ⟨Nat.le_refl _, h⟩, fun _ _ h => by unfold arrJ; exact ⟨Nat.le_refl _, h⟩, fun _ _ _ h => by unfold arrGo; exact ⟨Nat.le_refl _, h⟩, fun _ _ h => by unfold objJ; exact ⟨Nat.le_refl _, h⟩, fun _ _ _ _ h => by unfold objGo; exact ⟨Nat.le_refl _, h⟩⟩
  | k + 1 => by
    have ih := allBd l k
    refine ⟨fun level i0 h => ?_, fun level i0 h => ?_, fun level i acc h => ?_, fun level i0 h => ?_, fun level i0 keys acc h => ?_⟩
    · have hg := skipB_ge l i0
      have hle := skipB_le h
      unfold valJ
      dsimp only
      refine Bd.mono hg ?_
      generalize skipB l i0 = i at hle ⊢
      split
      · exact word_val (by decide) hle
      · split
        · exact word_val (by decide) hle
        · split
          · exact word_val (by decide) hle
          · split
            · have ht := textJ_bd (l := l) hle
              revert ht
              cases textJ l i with
              | no a w => exact fun ht => ht
              | ok t j => exact fun ht => ht
            · split
              · rename_i q
                have hlt : i < l.length := here_lt fun z => by rw [z] at q; revert q; decide
                split
                · exact ⟨Nat.le_refl _, hle⟩
                · split
                  · exact (ih.a _ _ hlt).mono (Nat.le_succ _)
                  · exact (ih.o _ _ hlt).mono (Nat.le_succ _)
              · exact numJ_bd hle
    · have hg := skipB_ge l i0
      have hle := skipB_le h
      unfold arrJ
      dsimp only
      refine Bd.mono hg ?_
      generalize skipB l i0 = i at hle ⊢
      split
      · rename_i q; exact ⟨Nat.lt_succ_self _, here_lt (by rw [q]; decide)⟩
      · exact ih.ag _ _ _ hle
    · unfold arrGo
      have hv := ih.v (level + 1) i h
      revert hv
      cases valJ l k (level + 1) i with
      | no a w => exact fun hv => hv
      | ok v j =>
        rintro ⟨h1, h2⟩
        dsimp only
        have hg := skipB_ge l j
        have hle := skipB_le h2
        split
        · rename_i q
          exact (ih.ag _ _ _ (here_lt (by rw [q]; decide))).mono (by omega)
        · have ht := takeJ_bd (c := 93) hle
          revert ht
          cases takeJ l 93 (skipB l j) with
          | no a w => exact fun ht => Bd.mono (x := (PE.no a w : PE JV)) (by omega) ht
          | ok u j2 => exact fun ht => Bd.mono (x := (PE.ok (JV.mk 5 0 (B #[]) [] (acc ++ [v])) j2)) (by omega) ht
    · have hg := skipB_ge l i0
      have hle := skipB_le h
      unfold objJ
      dsimp only
      refine Bd.mono hg ?_
      generalize skipB l i0 = i at hle ⊢
      split
      · rename_i q; exact ⟨Nat.lt_succ_self _, here_lt (by rw [q]; decide)⟩
      · exact ih.og _ _ _ _ hle
    · have hg := skipB_ge l i0
      have hle := skipB_le h
      unfold objGo
      dsimp only
      refine Bd.mono hg ?_
      generalize skipB l i0 = i at hle ⊢
      have ht := textJ_bd (l := l) hle
      revert ht
      cases textJ l i with
      | no a w => exact fun ht => ht
      | ok t j =>
        rintro ⟨h1, h2⟩
        dsimp only
        split
        · exact ⟨Nat.le_refl _, hle⟩
        · have hg2 := skipB_ge l j
          have hle2 := skipB_le h2
          have ht2 := takeJ_bd (c := 58) hle2
          revert ht2
          cases takeJ l 58 (skipB l j) with
          | no a w => exact fun ht => Bd.mono (x := (PE.no a w : PE JV)) (by omega) ht
          | ok u j1 =>
            rintro ⟨h3, h4⟩
            dsimp only
            have hv := ih.v (level + 1) j1 h4
            revert hv
            cases valJ l k (level + 1) j1 with
            | no a w => exact fun ht => Bd.mono (x := (PE.no a w : PE JV)) (by omega) ht
            | ok v j2 =>
              rintro ⟨h5, h6⟩
              dsimp only
              have hg3 := skipB_ge l j2
              have hle3 := skipB_le h6
              split
              · rename_i q
                exact (ih.og _ _ _ _ (here_lt (by rw [q]; decide))).mono (by omega)
              · have ht3 := takeJ_bd (c := 125) hle3
                revert ht3
                cases takeJ l 125 (skipB l j2) with
                | no a w => exact fun ht => Bd.mono (x := (PE.no a w : PE JV)) (by omega) ht
                | ok u j3 => exact fun ht => Bd.mono (x := (PE.ok (JV.mk 6 0 (B #[]) (keys ++ [bytesOf t]) (acc ++ [v])) j3)) (by omega) ht
/-! fuel -/
structure Fu (l : List UInt8) (k : Nat) : Prop where
  v : ∀ level i, i ≤ l.length → 3 * (l.length - i) + 1 ≤ k → valJ l (k + 1) level i = valJ l k level i
  a : ∀ level i, i ≤ l.length → 3 * (l.length - i) + 3 ≤ k → arrJ l (k + 1) level i = arrJ l k level i
  ag : ∀ level i acc, i ≤ l.length → 3 * (l.length - i) + 2 ≤ k → arrGo l (k + 1) level i acc = arrGo l k level i acc
  o : ∀ level i, i ≤ l.length → 3 * (l.length - i) + 3 ≤ k → objJ l (k + 1) level i = objJ l k level i
  og : ∀ level i keys acc, i ≤ l.length → 3 * (l.length - i) + 2 ≤ k → objGo l (k + 1) level i keys acc = objGo l k level i keys acc
theorem fuel (l : List UInt8) : ∀ k, Fu l k
  | 0 => ⟨fun _ _ _ h => by omega, fun _ _ _ h => by omega, fun _ _ _ _ h => by omega, fun _ _ _ h => by omega, fun _ _ _ _ _ h => by omega⟩
  | k + 1 => by
    have ih := fuel l k
    have bd := allBd l k
    refine ⟨fun level i0 h hk => ?_, fun level i0 h hk => ?_, fun level i acc h hk => ?_, fun level i0 h hk => ?_, fun level i0 keys acc h hk => ?_⟩
    · have hg := skipB_ge l i0
      have hle := skipB_le h
      rw [valJ, valJ]
      try dsimp only
      generalize skipB l i0 = i at hg hle ⊢
      by_cases q : hereB l i = 91 ∨ hereB l i = 123
      · have hlt : i < l.length := here_lt fun z => by rw [z] at q; revert q; decide
        rw [ih.a level (i + 1) hlt (by omega), ih.o level (i + 1) hlt (by omega)]
      · simp only [if_neg q]
    · have hg := skipB_ge l i0
      have hle := skipB_le h
      rw [arrJ, arrJ]
      try dsimp only
      rw [ih.ag level _ [] hle (by omega)]
    · rw [arrGo, arrGo, ih.v (level + 1) i h (by omega)]
      have hv := bd.v (level + 1) i h
      revert hv
      cases valJ l k (level + 1) i with
      | no a w => exact fun _ => rfl
      | ok v j =>
        rintro ⟨h1, h2⟩
        try dsimp only
        have hg := skipB_ge l j
        by_cases q : hereB l (skipB l j) = 44
        · have hlt : skipB l j < l.length := here_lt (by rw [q]; decide)
          rw [if_pos q, if_pos q, ih.ag level _ _ hlt (by omega)]
        · rw [if_neg q, if_neg q]
    · have hg := skipB_ge l i0
      have hle := skipB_le h
      rw [objJ, objJ]
      try dsimp only
      rw [ih.og level _ [] [] hle (by omega)]
    · have hg := skipB_ge l i0
      have hle := skipB_le h
      rw [objGo, objGo]
      try dsimp only
      generalize skipB l i0 = i at hg hle ⊢
      have ht := textJ_bd (l := l) hle
      revert ht
      cases textJ l i with
      | no a w => exact fun _ => rfl
      | ok t j =>
        rintro ⟨h1, h2⟩
        try dsimp only
        have hg2 := skipB_ge l j
        have ht2 := takeJ_bd (c := 58) (skipB_le h2)
        revert ht2
        cases takeJ l 58 (skipB l j) with
        | no a w => exact fun _ => rfl
        | ok u j1 =>
          rintro ⟨h3, h4⟩
          try dsimp only
          rw [ih.v (level + 1) j1 h4 (by omega)]
          have hv := bd.v (level + 1) j1 h4
          revert hv
          cases valJ l k (level + 1) j1 with
          | no a w => exact fun _ => rfl
          | ok v j2 =>
            rintro ⟨h5, h6⟩
            try dsimp only
            have hg3 := skipB_ge l j2
            by_cases q : hereB l (skipB l j2) = 44
            · have hlt : skipB l j2 < l.length := here_lt (by rw [q]; decide)
              rw [if_pos q, if_pos q, ih.og level _ _ _ hlt (by omega)]
            · rw [if_neg q, if_neg q]
theorem valJ_fuel {l : List UInt8} {level : Int} {i k : Nat} (h : i ≤ l.length) (hk : 3 * (l.length - i) + 1 ≤ k) : ∀ d, valJ l (k + d) level i = valJ l k level i
  | 0 => rfl
  | d + 1 => by rw [← Nat.add_assoc, (fuel l (k + d)).v level i h (by omega), valJ_fuel h hk d]
end Go.Tb
namespace Go.Tb
open Go.Ab
abbrev bv (b : Bool) : D := .v (.bool b)
def seenM (l : List ByteArray) : List (ByteArray × Bool) := l.map fun s => (s, true)
theorem seenM_keys (l : List ByteArray) : (seenM l).map (·.1) = l := by unfold seenM; rw [List.map_map]; exact List.map_id' l
theorem seenM_get {l : List ByteArray} (hn : l.Nodup) (s : ByteArray) : (mget (seenM l) s).getD false = l.any (fun x => decide (x = s)) := by
  cases h : l.any (fun x => decide (x = s)) with
  | true =>
    obtain ⟨x, hx, he⟩ := List.any_eq_true.1 h
    have he : x = s := of_decide_eq_true he
    subst he
    obtain ⟨j, hj⟩ := List.mem_iff_getElem?.1 hx
    have := mget_at (l := seenM l) (by rw [seenM_keys]; exact hn) (j := j) (p := (x, true)) (by unfold seenM; rw [List.getElem?_map, hj]; rfl)
    rw [this]; rfl
  | false =>
    have hno : ∀ p ∈ seenM l, p.1 ≠ s := fun p hp he => by
      obtain ⟨x, hx, rfl⟩ := List.mem_map.1 hp
      have := List.any_eq_false.1 h x hx
      simp at this
      exact this he
    rw [mget_new hno]; rfl
theorem seenM_put {l : List ByteArray} {s : ByteArray} (h : l.any (fun x => decide (x = s)) = false) : mput (seenM l) s true = seenM (l ++ [s]) := by
  rw [mput_new fun p hp he => by
    obtain ⟨x, hx, rfl⟩ := List.mem_map.1 hp
    have := List.any_eq_false.1 h x hx
    simp at this
    exact this he]
  simp [seenM]
theorem nodup_snoc {l : List ByteArray} {s : ByteArray} (hn : l.Nodup) (h : l.any (fun x => decide (x = s)) = false) : (l ++ [s]).Nodup := by
  rw [List.nodup_append]
  refine ⟨hn, by simp, fun x hx y hy => ?_⟩
  have := List.any_eq_false.1 h x hx
  simp at hy this
  rw [hy]; exact this
end Go.Tb
namespace Go.Ab
open Go.RowKit
abbrev panOf (v : Value) : Exit := .panic [{ v := v, recovered := false }]
section
variable {C : Ctx} {n : Nat} {st : St}
theorem SimG.frLend {G : Gh} {tmps : Array Value} {w w' : World} (h : SimG C n st G tmps w) {gs os : List Nat} (h1 : Fr (lendC C G w gs os) w') : Fr C w' := by
  have hLb : ∀ {b}, lentBox G gs b → C.mine b 0 ∧ b < w.heap.size := by
    rintro b ⟨g, _, hg⟩
    exact ⟨(h.gbox g b hg).2.2, (h.gbox g b hg).2.1⟩
  have hLr : ∀ {b lim}, lentRow G os b lim → C.mine b lim ∧ b < w.heap.size ∧ (∀ g', G.box g' ≠ some b) := by
    rintro b lim ⟨g, _, r, hg, hra⟩
    obtain ⟨h1, h2, h3, _⟩ := h.rowAt hg hra
    exact ⟨h1, h3, h2⟩
  have hLm : ∀ {b}, (lentBox G gs b ∨ ∃ lim, lentRow G os b lim) → C.w0.heap.size ≤ b ∨ C.fp b := by
    rintro b (hl | ⟨lim, hl⟩)
    · exact (hLb hl).1.1
    · exact (hLr hl).1.1
  have hstay : ∀ {b}, b < w.heap.size → ¬ (lentBox G gs b ∨ ∃ lim, lentRow G os b lim) → w'.heap[b]? = w.heap[b]? := fun hlt hn => h1.block _ hlt hn
  refine ⟨h1.os.trans h.fr.os, h1.tape.trans h.fr.tape, h1.output.trans h.fr.output, Nat.le_trans h.fr.size h1.size, fun b hlt hn => ?_, fun b o u hk hu => ?_, h.fr.ty.trans h1.ty⟩
  · rw [hstay (Nat.lt_of_lt_of_le hlt h.fr.size) (fun hl => (hLm hl).elim (fun h => by omega) hn)]
    exact h.fr.block b hlt hn
  · have hu' := h.fr.cells b o u hk hu
    by_cases hl : lentBox G gs b ∨ ∃ lim, lentRow G os b lim
    · rcases hl with hl | ⟨lim, hl⟩
      · exact absurd ((hLb hl).1.2 o hk) (Nat.not_lt_zero _)
      · exact h1.cells b o u ⟨lim, hl, (hLr hl).1.2 o hk⟩ hu'
    · rw [cellAt_same (hstay (cellAt_lt hu') hl)]
      exact hu'
theorem SimG.left {G : Gh} {tmps : Array Value} {w w' : World} (h : SimG C n st G tmps w) (hf : Fr C w') (hs : w.heap.size ≤ w'.heap.size) : SimG C n ⟨[], [], [], st.gen⟩ ⟨G.box, fun _ => none⟩ tmps w' :=
  { size := h.size, frame := fun t a ha => by simp [look] at ha, box := fun g cells hc => by simp [look'] at hc, gbox := fun g b hb => ⟨(h.gbox g b hb).1, Nat.lt_of_lt_of_le (h.gbox g b hb).2.1 hs, (h.gbox g b hb).2.2⟩,
    inj := h.inj, live := fun g hg => by simp at hg, gown := fun g r hr => by simp at hr, row := fun g b len cap sz pub hr => by simp at hr, mrow := fun g b hr => by simp at hr, xold := h.xold, kold := h.kold, lent := h.lent, fr := hf }
end
structure DoesP (P : Program) [Met P] (f : FuncId) (args : List A) (b0 : List (List A)) (m : Nat) (v : Value) : Prop where
  ok : FnOK P f
  calls : ∀ (C : Ctx) (G : Gh) (vals : Array Value) (w : World), GC P C → C.w0 = w → C.bx.length = b0.length → C.ds = [] → (m = 0 → ∀ b, C.fp b → ∃ i : Nat, C.bx[i]? = some b) →
    SimG C 0 ⟨[], bxs 0 b0, (List.range m).map (b0.length + ·), b0.length + m⟩ G #[] w → vals.size = args.length →
    (∀ (i : Nat) (u : Value) (a : A), vals[i]? = some u → args[i]? = some a → Rep (enOf C G (b0.length + m) w) u a) →
    Calls P f vals w fun e w' => e = .panicked [{ v := v, recovered := false }] ∧ Fr C w'
def QP (v : Value) : Exit → St → Prop := fun e _ => e = panOf v
theorem DoesP.of_WF {P : Program} [Met P] {f : FuncId} {fn : Func} {c : Code} {n : Nat} {args : List A} {b0 : List (List A)} {m : Nat} {v : Value} (hf : P.funcs[f]? = some fn) (hname : (fn.name == "runtime.NumGoroutine") = false)
    (hb : fn.body = some c) (hn : fn.ntmps = n) (hlen : Nat.ble args.length n = true)
    (h : ∀ C, NB C b0.length → GC P C → (m = 0 → ∀ b, C.fp b → ∃ i : Nat, C.bx[i]? = some b) → (∀ i b : Nat, C.bx[i]? = some b → b < C.w0.heap.size) → W P C n c (QP v) ⟨args0 0 args, bxs 0 b0, (List.range m).map (b0.length + ·), b0.length + m⟩) : DoesP P f args b0 m v := by
  have hlen := Nat.le_of_ble_eq_true hlen
  refine ⟨⟨fn, hf, hname, by rw [hb]; rfl⟩, fun C G vals w hG hw hnb hdn hfe hs hsz hrep => ?_⟩
  subst hw
  refine calls_of_wp hf hb (wp_mono (wp_ds hdn (h C ⟨hnb⟩ hG hfe (fun i b hb => (hs.gbox i b (hs.lent i b hb)).2.1) (vals ++ Array.replicate (fn.ntmps - vals.size) undef) C.w0 ⟨G, ?_⟩)) ?_)
  · refine { hs with size := by simp [hn]; omega, frame := fun t a ha => ?_ }
    obtain ⟨_, h1⟩ := args0_look args 0 t a ha
    have h2 : t < args.length := (List.getElem?_eq_some_iff.1 (by simpa using h1)).1
    have h3 : t < vals.size := by omega
    have h4 : vals[t]? = some vals[t] := by simp [h3]
    exact ⟨vals[t], by rw [Array.getElem?_append_left h3]; exact h4, hrep t _ a h4 (by simpa using h1)⟩
  · rintro e ⟨tmps, df⟩ w' ⟨hd, st, ⟨G1, hs1⟩, he⟩
    have he : e = panOf v := he
    subst he
    exact ⟨hd.trans hdn, rfl, hs1.fr⟩
theorem DoesP.of_W {P : Program} [Met P] {f : FuncId} {fn : Func} {c : Code} {n : Nat} {args : List A} {b0 : List (List A)} {m : Nat} {v : Value} (hf : P.funcs[f]? = some fn) (hname : (fn.name == "runtime.NumGoroutine") = false)
    (hb : fn.body = some c) (hn : fn.ntmps = n) (hlen : Nat.ble args.length n = true)
    (h : ∀ C, NB C b0.length → GC P C → W P C n c (QP v) ⟨args0 0 args, bxs 0 b0, (List.range m).map (b0.length + ·), b0.length + m⟩) : DoesP P f args b0 m v :=
  DoesP.of_WF hf hname hb hn hlen fun C hC hG _ _ => h C hC hG
inductive Out where
  | ret (r : A) (b1 : List (List A)) (k : Nat)
  | pan (v : Value)
def DoesE (P : Program) [Met P] (f : FuncId) (args : List A) (b0 : List (List A)) (m : Nat) : Out → Prop
  | .ret r b1 k => DoesB P f args b0 m r b1 k
  | .pan v => DoesP P f args b0 m v
def QX {P : Program} (T : Tab P) (rs : List RV) : Out → Exit → St → Prop
  | .ret r b1 k => QB1 T rs r b1 k
  | .pan v => QP v
def Out.len : Out → Nat → Bool
  | .ret _ b1 _, n => Nat.beq b1.length n
  | .pan _, _ => true
theorem DoesE.of_V {P : Program} (T : Tab P) [Met P] {f : FuncId} {fn : Func} {c : Code} {rs : List RV} {n : Nat} {args : List A} {b0 : List (List A)} {m : Nat} {x : Out} (hf : P.funcs[f]? = some fn) (hname : (fn.name == "runtime.NumGoroutine") = false)
    (hb : fn.body = some c) (hn : fn.ntmps = n) (hr : fn.results = (rs.map RV.var).toArray) (hlen : Nat.ble args.length n = true) (hbl : x.len b0.length = true)
    (h : ∀ C, NB C b0.length → GC P C → W P C n c (QX T rs x) ⟨args0 0 args, bxs 0 b0, (List.range m).map (b0.length + ·), b0.length + m⟩) : DoesE P f args b0 m x := by
  cases x with
  | ret r b1 k => exact DoesB.of_V T hf hname hb hn hr hlen (Nat.eq_of_beq_eq_true hbl) h
  | pan v => exact DoesP.of_W hf hname hb hn hlen h
theorem DoesE.of_VF {P : Program} (T : Tab P) [Met P] {f : FuncId} {fn : Func} {c : Code} {rs : List RV} {n : Nat} {args : List A} {b0 : List (List A)} {m : Nat} {x : Out} (hf : P.funcs[f]? = some fn) (hname : (fn.name == "runtime.NumGoroutine") = false)
    (hb : fn.body = some c) (hn : fn.ntmps = n) (hr : fn.results = (rs.map RV.var).toArray) (hlen : Nat.ble args.length n = true) (hbl : x.len b0.length = true)
    (h : ∀ C, NB C b0.length → GC P C → (m = 0 → ∀ b, C.fp b → ∃ i : Nat, C.bx[i]? = some b) → (∀ i b : Nat, C.bx[i]? = some b → b < C.w0.heap.size) → W P C n c (QX T rs x) ⟨args0 0 args, bxs 0 b0, (List.range m).map (b0.length + ·), b0.length + m⟩) : DoesE P f args b0 m x := by
  cases x with
  | ret r b1 k => exact DoesB.of_VF T hf hname hb hn hr hlen (Nat.eq_of_beq_eq_true hbl) h
  | pan v => exact DoesP.of_WF hf hname hb hn hlen h
theorem DoesE.ret {P : Program} [Met P] {f : FuncId} {args : List A} {b0 : List (List A)} {m : Nat} {x : Out} {r : A} {b1 : List (List A)} {k : Nat} (h : DoesE P f args b0 m x) (hx : x = .ret r b1 k) : DoesB P f args b0 m r b1 k := by subst hx; exact h
theorem DoesE.pan {P : Program} [Met P] {f : FuncId} {args : List A} {b0 : List (List A)} {m : Nat} {x : Out} {v : Value} (h : DoesE P f args b0 m x) (hx : x = .pan v) : DoesP P f args b0 m v := by subst hx; exact h
section
variable {P : Program} {C : Ctx} {n : Nat} {ops : Array Oper} {Q : Exit → St → Prop} {rest : List Oper} {st : St} {o : Oper}
theorem WO.panicOp (hg : o.guard = none) {x : Operand} (ho : o.op = .panic x) {t : TypeId} {y : Value} (hx : av st.f x = some (.d (.v (.iface t y)))) (h : ∀ st', Q (panOf (.iface t y)) st') : WO P C n ops Q (o :: rest) st := by
  intro tmps w ⟨G, hs⟩
  simp only [wpL, Region.wanted, hg, if_true]
  have hr := hs.av hx
  have hv : Act.eval ⟨tmps, C.ds⟩ x = .iface t y := by
    rw [Act.eval_ds tmps C.ds []]
    generalize Act.eval ⟨tmps, []⟩ x = v at hr ⊢
    cases hr with | d hr => cases hr; rfl
  unfold Oper.wp
  have hrun : (execOp (Act.eval ⟨tmps, C.ds⟩) o).run P w = .halt (.panic (.iface t y)) w := by
    unfold execOp
    rw [ho]
    simp [hv, Instr.panic, goPanic]
  rw [hrun]
  exact ⟨rfl, st, ⟨G, hs⟩, h st⟩
theorem WO.callP [Met P] [GC P C] (hg : o.guard = none) {x : Operand} {xs : Array Operand} {tys : Array TypeId} (ho : o.op = .call ⟨.value x, xs, tys⟩) {fid : FuncId} {caps as' : List A} (hx : av st.f x = some (.clo fid caps))
    (hxs : avs st.f xs.toList = some as') (gs os : List Nat) (hgs : nodupB gs = true) (hos : nodupB os = true) (hov : (os.all fun g => st.lv.any fun h => Nat.beq h g) = true) {args : List A} {b0 : List (List A)} {v : Value} {m : Nat}
    (hf : DoesP P fid args b0 m v) (harg : (as' ++ caps).map (lendA st.bx gs os 5) = args) (hb : lendBx st.bx gs os gs = some b0) (hm : os.length = m)
    (h : ∀ st', Q (panOf v) st') : WO P C n ops Q (o :: rest) st := by
  subst hm
  subst harg
  intro tmps w ⟨G, hs⟩
  simp only [wpL, Region.wanted, hg, if_true]
  obtain ⟨fn, hfn, hname, hbody⟩ := hf.ok
  have hr := hs.av hx
  rw [← Act.eval_ds tmps C.ds []] at hr
  generalize hv : Act.eval ⟨tmps, C.ds⟩ x = v' at hr
  cases hr with
  | clo _ vs _ hsz hcd =>
  obtain ⟨h1, h2⟩ := avs_rep hs xs.toList as' hxs
  rw [← Act.eval_ds tmps C.ds []] at h2
  have hrun : (execOp (Act.eval ⟨tmps, C.ds⟩) o).run P w = .ok (.enter fid (xs.map (Act.eval ⟨tmps, C.ds⟩) ++ vs)) w := by
    unfold execOp
    rw [ho]
    show Sem.run P (do let d ← resolve (Act.eval ⟨tmps, C.ds⟩) ⟨.value x, xs, tys⟩ o.type; invoke d.target d.args) w = _
    simp only [resolve, hv, Deferred.ofValue, Sem.run_bind, Sem.run_pure, Result.andThen_ok, invoke, callFunc, run_program, hfn, hname, hbody, Bool.false_eq_true, if_false, Array.empty_append]
  obtain ⟨hlen, hent⟩ := hs.lend (gs := gs) (os := os) (nodup_of hgs) (nodup_of hos) (fun g hg => by
    obtain ⟨y, hy, he⟩ := List.any_eq_true.1 (List.all_eq_true.1 hov g hg)
    exact Nat.eq_of_beq_eq_true he ▸ hy) hb
  have hbl := (lendBx_get hb).1
  unfold Oper.wp
  rw [hrun]
  refine (hf.calls (lendC C G w gs os) (lendG G gs os) _ w (GC.inLend hs) rfl hlen rfl (lendC_fp rfl) hent (by simp at h1; simp [hsz, h1]) (fun i u a hu ha => ?_)).mono fun e w' ⟨he, h3⟩ => ?_
  · simp only [List.getElem?_map, Option.map_eq_some_iff] at ha
    obtain ⟨y, hy, rfl⟩ := ha
    refine Rep.lend hs gs os (by omega) 5 u y ?_
    simp only [Array.getElem?_append] at hu
    split at hu
    · rename_i hlt
      simp only [Array.size_map] at hlt
      have hlt' : i < as'.length := by simp at h1; omega
      rw [List.getElem?_append_left hlt'] at hy
      obtain ⟨z, hz, hzr⟩ := h2 i y hy
      simp only [Array.getElem?_map, Option.map_eq_some_iff] at hu
      obtain ⟨z', hz', rfl⟩ := hu
      have : z = z' := by simp at hz; rw [hz'] at hz; exact (Option.some.inj hz).symm
      subst this
      exact hzr
    · rename_i hge
      simp only [Array.size_map] at hge hu
      have hge' : as'.length ≤ i := by simp at h1; omega
      rw [List.getElem?_append_right hge'] at hy
      refine hcd (i - xs.size) u y hu ?_
      have : xs.size = as'.length := by simpa using h1
      rw [this]
      exact hy
  · subst he
    have hfr := hs.frLend h3
    exact ⟨rfl, _, ⟨_, hs.left hfr h3.size⟩, h _⟩
end
section
variable {P : Program} {C : Ctx} {n : Nat} {ops : Array Oper} {Q : Exit → St → Prop} {rest : List Oper} {c : Code}
variable {f : List (Nat × A)} {bx : List (Nat × List A)} {lv : List Nat} {gen : Nat} {d : Nat} {op : Op} {ty : TypeId} {pos : String} {af : Array Edge} {a : A} {dst : Option Nat}
theorem panicO {x : Operand} {t : TypeId} {y : Value} (hx : av f x = some (.d (.v (.iface t y)))) (h : ∀ st', Q (panOf (.iface t y)) st') : WO P C n ops Q (⟨dst, .panic x, ty, pos, af, none⟩ :: rest) ⟨f, bx, lv, gen⟩ :=
  WO.panicOp (st := ⟨f, bx, lv, gen⟩) rfl rfl hx h
theorem callP [Met P] [GC P C] {x : Operand} {xs : Array Operand} {tys : Array TypeId} {fid : FuncId} {caps as' args : List A} {b0 : List (List A)} {v : Value} {m : Nat} (gs os : List Nat) (hx : av f x = some (.clo fid caps)) (hxs : avs f xs.toList = some as')
    (harg : (as' ++ caps).map (lendA bx gs os 5) = args) (hb : lendBx bx gs os gs = some b0) (hm : os.length = m) (hf : DoesP P fid args b0 m v)
    (hgs : nodupB gs = true) (hos : nodupB os = true) (hov : (os.all fun g => lv.any fun h => Nat.beq h g) = true) (h : ∀ st', Q (panOf v) st') :
    WO P C n ops Q (⟨dst, .call ⟨.value x, xs, tys⟩, ty, pos, af, none⟩ :: rest) ⟨f, bx, lv, gen⟩ :=
  WO.callP (st := ⟨f, bx, lv, gen⟩) rfl rfl hx hxs gs os hgs hos hov hf harg hb hm h
theorem repV_inj {w : World} {pv : Nat → Nat → Prop} {a b : Value} (h : RepD w pv a (.v b)) : a = b := by cases h; rfl
theorem mkIface (T : Tab P) {t : Nat} {x : Operand} {td : TyD} {l : List Value} (ht : look' T.l t = some td) (hk : td.k.agg = true) (hx : av f x = some (.ag (l.map D.v))) : Pu P C n ⟨f, bx, lv, gen⟩ ⟨dst, .makeInterface t x, ty, pos, af, none⟩ (.d (.v (.iface t (.agg l.toArray)))) := by
  refine PuOK.pu fun G tmps w hs => ?_
  have hr := hs.av hx
  generalize hv : Act.eval ⟨tmps, []⟩ x = v at hr
  cases hr with
  | ag vs _ hsz h =>
  have e : vs = l.toArray := by
    apply Array.ext
    · simpa using hsz
    · intro i h1 h2
      have h3 : i < l.length := by simpa using h2
      have := repV_inj (h i vs[i] (.v l[i]) (by simp [h1]) (by simp [h3]))
      simpa using this
  subst e
  refine ⟨_, ?_, .d (.v _ rfl)⟩
  obtain ⟨u, hu, hag⟩ : ∃ u, P.underlying t = some u ∧ (match u with | .interface _ => false | _ => true) = true := by
    have := T.isAgg ht w
    unfold isAgg at this
    cases hu : P.underlying t with
    | none => simp [underlying, hu] at this
    | some u =>
      refine ⟨u, rfl, ?_⟩
      cases u <;> first | rfl | (simp [underlying, hu, hk] at this)
  unfold execOp
  simp only [hv, Instr.makeInterface, Sem.run_bind, run_underlying hu, Result.andThen_ok, Sem.run_pure]
  cases u <;> simp_all
end
end Go.Ab
namespace Go.Ab
open Go.RowKit
section
variable {P : Program} {C : Ctx} {n : Nat} {Q : Exit → St → Prop} {st : St} {v : Value}
theorem qsPan {y : Code} (h : Q (panOf v) st) : QS P C n y Q (panOf v) st := h
theorem qbPan {id : Nat} (h : Q (panOf v) st) : QB id Q (panOf v) st := h
theorem qlPan {I : Nat → St → Prop} {m : Nat} (h : Q (panOf v) st) : QL I m Q (panOf v) st := h
theorem qxPan {T : Tab P} {rs : List RV} {x : Out} (h : x = .pan v) : QX T rs x (panOf v) st := by subst h; rfl
theorem qxRet {T : Tab P} {rs : List RV} {x : Out} {r : A} {b1 : List (List A)} {k : Nat} {e : Exit} (h : x = .ret r b1 k) (hq : QB1 T rs r b1 k e st) : QX T rs x e st := by subst h; exact hq
theorem qcPan {S : St} (h : Q (panOf v) st) : QC C n S Q (panOf v) st := h
end
end Go.Ab
namespace Go.Tb
open Go.Ab
@[reducible] def faultV (t : Nat) (a : Nat) (w : Int) : Value := .iface t (.agg #[.int .i64 (a : Int), .int .i64 w])
@[reducible] def pbox (s : ByteArray) (i : Nat) : List A := [.d (cs s), .d (.v (.int .i64 (i : Int)))]
def outP {α : Type} (t : Nat) (s : ByteArray) (r : α → A) : PE α → Out
  | .ok x i => .ret (r x) [pbox s i] 0
  | .no a w => .pan (faultV t a w)
theorem outP_len {α : Type} (t : Nat) (s : ByteArray) (r : α → A) (x : PE α) : (outP t s r x).len 1 = true := by cases x <;> rfl
theorem outP_ok {α : Type} {t : Nat} {s : ByteArray} {r : α → A} {x : PE α} {y : α} {i : Nat} (h : x = .ok y i) : outP t s r x = .ret (r y) [pbox s i] 0 := by subst h; rfl
theorem outP_no {α : Type} {t : Nat} {s : ByteArray} {r : α → A} {x : PE α} {a : Nat} {w : Int} (h : x = .no a w) : outP t s r x = .pan (faultV t a w) := by subst h; rfl
end Go.Tb
namespace Go.Ab
open Go.RowKit
def keepB (nb : Nat) : List (Nat × List A) → List (Nat × List A)
  | [] => []
  | (g, c) :: r => bif Nat.blt g nb then (g, c.map scal) :: keepB nb r else keepB nb r
theorem keepB_look {nb : Nat} : ∀ {bx : List (Nat × List A)} {g : Nat} {c : List A}, look' (keepB nb bx) g = some c → g < nb ∧ ∃ c0, look' bx g = some c0 ∧ c = c0.map scal
  | [], g, c, h => by simp [keepB, look'] at h
  | (g0, c0) :: r, g, c, h => by
    unfold keepB at h
    cases hb : Nat.blt g0 nb with
    | true =>
      rw [hb] at h
      have hlt : g0 < nb := Nat.blt_eq.mp hb
      simp only [cond_true, look'] at h ⊢
      cases he : Nat.beq g0 g with
      | true =>
        rw [he] at h
        simp only [cond_true, Option.some.injEq] at h ⊢
        have e : g0 = g := Nat.eq_of_beq_eq_true he
        subst e
        exact ⟨hlt, c0, rfl, h.symm⟩
      | false =>
        rw [he] at h
        simp only [cond_false] at h ⊢
        exact keepB_look h
    | false =>
      rw [hb] at h
      have hlt : ¬ g0 < nb := fun q => by rw [Nat.blt_eq.mpr q] at hb; cases hb
      simp only [cond_false] at h
      obtain ⟨h1, h2⟩ := keepB_look h
      refine ⟨h1, ?_⟩
      have e : Nat.beq g0 g = false := by
        cases q : Nat.beq g0 g with
        | false => rfl
        | true => have := Nat.eq_of_beq_eq_true q; omega
      simp only [look', e, cond_false]
      exact h2
theorem scal_rep {E E' : En} {v : Value} {a : A} (h : Rep E v a) : Rep E' v (scal a) := by
  unfold scal
  split
  · cases h with | d hr => cases hr with | v _ hx => exact .d (.v _ hx)
  · exact .any _
theorem SimG.endK {C : Ctx} {n nb : Nat} {st : St} {G : Gh} {tmps : Array Value} {w w' : World} (h : SimG C n st G tmps w) (hnb : C.bx.length = nb) (hlo : ∀ i b : Nat, C.bx[i]? = some b → b < C.w0.heap.size) (hb : Below C.w0.heap.size w w') (hsz : w.heap.size ≤ w'.heap.size) :
    SimG C n ⟨scalF st.f, keepB nb st.bx, [], st.gen⟩ ⟨fun g => if g < nb then G.box g else none, fun _ => none⟩ tmps w' where
  size := h.size
  frame := fun t a ha => by
    rw [scalF_look] at ha
    obtain ⟨a', ha', rfl⟩ := Option.map_eq_some_iff.1 ha
    obtain ⟨v, hv, hr⟩ := h.frame t a' ha'
    exact ⟨v, hv, scal_rep hr⟩
  box := fun g cells hc => by
    obtain ⟨hg, c0, h0, rfl⟩ := keepB_look hc
    obtain ⟨b, cs, T, h1, h2, h3, h4, h5⟩ := h.box g c0 h0
    have hbx : C.bx[g]? = some b := by
      have hl : C.bx[g]? = some (C.bx[g]'(by omega)) := List.getElem?_eq_getElem _
      have := h.lent g _ hl
      rw [h1] at this
      rw [hl, ← this]
    have hlt := hlo g b hbx
    refine ⟨b, cs, T, by simp [hg, h1], by rw [hb.block b hlt]; exact h2, by simpa using h3, h4, fun i u a hu ha => ?_⟩
    rw [List.getElem?_map] at ha
    obtain ⟨a0, ha0, rfl⟩ := Option.map_eq_some_iff.1 ha
    exact scal_rep (h5 i u a0 hu ha0)
  gbox := fun g b hg => by
    have hg : (if g < nb then G.box g else none) = some b := hg
    split at hg
    · obtain ⟨q1, q2, q3⟩ := h.gbox g b hg
      exact ⟨q1, Nat.lt_of_lt_of_le q2 hsz, q3⟩
    · cases hg
  inj := fun g g' b h1 h2 => by
    have h1 : (if g < nb then G.box g else none) = some b := h1
    have h2 : (if g' < nb then G.box g' else none) = some b := h2
    split at h1
    · split at h2
      · exact h.inj g g' b h1 h2
      · cases h2
    · cases h1
  live := fun g hg => by simp at hg
  gown := fun g r hr => by simp at hr
  row := fun g b len cap sz pub hr => by simp at hr
  mrow := fun g b hr => by simp at hr
  xold := h.xold
  kold := h.kold
  lent := fun i b hb => by
    have hi : i < nb := by rw [← hnb]; exact (List.getElem?_eq_some_iff.1 hb).1
    show (if i < nb then G.box i else none) = some b
    rw [if_pos hi]; exact h.lent i b hb
  fr := ⟨hb.os.trans h.fr.os, hb.tape.trans h.fr.tape, hb.output.trans h.fr.output, Nat.le_trans h.fr.size hsz, fun b h1 h2 => (hb.block b h1).trans (h.fr.block b h1 h2), fun b o u h1 h2 => by
    have hlt := cellAt_lt h2
    rw [cellAt_same (hb.block b hlt)]; exact h.fr.cells b o u h1 h2, fun b cs T f h1 => by
    have hlt := (Array.getElem?_eq_some_iff.1 h1).1
    rw [hb.block b hlt]; exact h.fr.ty b cs T f h1⟩
section
variable {P : Program} {C : Ctx} {n : Nat} {ops : Array Oper} {Q : Exit → St → Prop} {rest : List Oper}
variable {f : List (Nat × A)} {bx : List (Nat × List A)} {lv : List Nat} {gen : Nat} {d : Nat} {ty : TypeId} {pos : String} {af : Array Edge}
theorem strKeep {nb : Nat} [hN : NB C nb] (hfe : ∀ b, C.fp b → ∃ i : Nat, C.bx[i]? = some b) (hlo : ∀ i b : Nat, C.bx[i]? = some b → b < C.w0.heap.size) {x y : Operand} {tys : Array TypeId} {fid : FuncId} {g g2 : Nat} {T e : TypeId} {u : Bool} {s : ByteArray} (hx : av f x = some (.clo fid [])) (hy : av f y = some (.ptr g 0)) (hb : look' bx g = some [.np g T u, .bf g2 e s])
    (hgl : (lv.any fun h => Nat.beq h g2) = true) (hok : FnOK P fid) (hstr : StrGives P T e fid) (hss : s.size ≤ maxLen) (hd : Nat.blt d n = true) (hge : Nat.ble nb g = true)
    (h : WO P C n ops Q rest ⟨(d, .d (.v (.string s))) :: scalF f, keepB nb bx, [], gen⟩) : WO P C n ops Q (⟨some d, .call ⟨.value x, #[y], tys⟩, ty, pos, af, none⟩ :: rest) ⟨f, bx, lv, gen⟩ := by
  refine WO.step (st := ⟨f, bx, lv, gen⟩) rfl fun tmps w ⟨G, hs⟩ => ?_
  obtain ⟨fn, hfn, hname, hbody⟩ := hok
  have hrx := hs.av hx
  generalize hv : Act.eval ⟨tmps, []⟩ x = v at hrx
  cases hrx with
  | clo _ vs _ hsz hdd =>
  have hvs : vs = #[] := Array.eq_empty_of_size_eq_zero (by simpa using hsz)
  subst hvs
  have hry := hs.av hy
  generalize hvy : Act.eval ⟨tmps, []⟩ y = vy at hry
  obtain ⟨b, cs, T', h1, h2, h3, h4, h5⟩ := hs.box g _ hb
  have evy : vy = .pointer (some ⟨b, 0, none⟩) := by
    cases hry with
    | ptr _ _ _ b0 hg hb0 hx0 => exact ptr_at hb0 hx0 b h1
  subst evy
  have hrun : (execOp (Act.eval ⟨tmps, []⟩) ⟨some d, .call ⟨.value x, #[y], tys⟩, ty, pos, af, none⟩).run P w = .ok (.enter fid #[.pointer (some ⟨b, 0, none⟩)]) w := by
    unfold execOp
    show Sem.run P (do let d ← resolve (Act.eval ⟨tmps, []⟩) ⟨.value x, #[y], tys⟩ ty; invoke d.target d.args) w = _
    simp only [resolve, hv, hvy, Deferred.ofValue, Sem.run_bind, Sem.run_pure, Result.andThen_ok, invoke, callFunc, run_program, hfn, hname, hbody, Bool.false_eq_true, if_false, Array.empty_append, Array.append_empty, List.map_toArray, List.map_cons, List.map_nil]
  simp at h3
  obtain ⟨p, q, hcs⟩ : ∃ p q, cs = #[p, q] := ⟨cs[0], cs[1], by apply Array.ext_getElem?; intro i; match i with | 0 => simp [h3] | 1 => simp [h3] | i + 2 => simp [h3]⟩
  subst hcs
  have hp := h5 0 p _ rfl rfl
  have hq := h5 1 q _ rfl rfl
  obtain ⟨r, hgr⟩ := hs.live g2 (memAny hgl)
  have hnbl : C.bx.length = nb := hN.h
  have mineR : ∀ {b lim}, C.mine b lim → (∀ g', G.box g' ≠ some b) → C.w0.heap.size ≤ b := fun hm hno => hm.1.resolve_right fun hf => by
    obtain ⟨i, hi⟩ := hfe _ hf
    exact hno i (hs.lent i _ hi)
  have mineB : C.w0.heap.size ≤ b := (hs.gbox g b h1).2.2.1.resolve_right fun hf => by
    obtain ⟨i, hi⟩ := hfe _ hf
    have e := hs.inj _ _ _ (hs.lent i _ hi) h1
    have hlt : i < C.bx.length := (List.getElem?_eq_some_iff.1 hi).1
    have := Nat.le_of_ble_eq_true hge
    omega
  have hpe : T' = T ∧ (p = .pointer none ∨ p = .pointer (some ⟨b, 0, none⟩)) := by
    cases hp with
    | np _ _ _ b0 hg hb0 hT _ hx0 =>
      have e1 : b0 = b := by have := (hb0 : G.box g = some b0).symm.trans h1; simpa using this
      subst e1
      obtain ⟨cs', f', hT⟩ := hT
      have hT' : w.heap[b0]? = some (.cells cs' T f') := hT
      rw [h2] at hT'
      simp only [Option.some.injEq, Obj.cells.injEq] at hT'
      refine ⟨hT'.2.1, ?_⟩
      cases u with
      | true => exact .inr hx0
      | false => exact .inl hx0
  obtain ⟨rfl, hpe⟩ := hpe
  have hown : w.ownsRow C.w0.heap.size e 1 q (Lib.byteCells s.data.toList).length (Lib.byteCells s.data.toList) ∧ q.ownBlock ≠ some b := by
    cases hq with
    | bf _ _ _ _ hg hq1 hrow =>
    have hx0 := hrow r hgr
    cases r with
    | zero b => exact hx0.elim
    | mp b => exact hx0.elim
    | nil =>
      obtain ⟨rfl, h0⟩ := hx0
      have e0 : s.data.toList = [] := List.eq_nil_of_length_eq_zero (by simpa using h0)
      rw [e0]
      exact ⟨World.ownsRow_nil w _ e 1, by simp [Value.ownBlock]⟩
    | blk b2 len cap sz pub =>
      obtain ⟨rfl, h6, rfl, rfl, ⟨cs', f', hT⟩, h8⟩ := hx0
      obtain ⟨hmine, hnb, huniq, cur, T2, hcur, hcs, hlc, hcm, _, hpos, _⟩ := hs.row g2 b2 len cap 1 0 hgr
      have hT' : w.heap[b2]? = some (.cells cs' e f') := hT
      rw [hcur] at hT'
      simp only [Option.some.injEq, Obj.cells.injEq] at hT'
      obtain ⟨_, rfl, _⟩ := hT'
      have hlen : (Lib.byteCells s.data.toList).length = len := by rw [Lib.byteCells_length, Array.length_toList]; exact h6
      rw [hlen]
      refine ⟨⟨by simpa using hlen, .inr ⟨b2, cap, cur, rfl, mineR hmine hnb, hcur, hlc, hcm, hcs, ?_⟩⟩, ?_⟩
      · rw [Nat.mul_one]
        apply List.ext_getElem?
        intro t
        rw [List.getElem?_take]
        have es : (Lib.byteCells s.data.toList) = Lib.strCells s := (Lib.strCells_eq s).symm
        split
        · rename_i hlt
          have hc : s.data[t]? = some (s.data[t]'(by rw [← h6] at hlt; exact hlt)) := Array.getElem?_eq_getElem _
          have h7 := h8 t _ hc
          have h7' : cur[t]? = _ := (cellAt_row hcur t).symm.trans h7
          rw [es, strCells_get hc, Array.getElem?_toList, h7']
        · rename_i hge
          rw [List.getElem?_eq_none (by rw [hlen]; omega)]
      · simp only [Value.ownBlock]
        intro e1
        simp only [Option.some.injEq] at e1
        exact hnb g (e1 ▸ h1)
  have hbat : ∀ p, p = Value.pointer none ∨ p = .pointer (some ⟨b, 0, none⟩) → w.heap[b]? = some (.cells #[p, q] T' (0, 0)) → Lib.IsBuilder T' e C.w0.heap.size b (Lib.byteCells s.data.toList) w := by
    rintro p (rfl | rfl) hh
    · exact .inl ⟨mineB, q, hh, hown.1, hown.2⟩
    · exact .inr ⟨mineB, q, hh, hown.1, hown.2⟩
  unfold Gives
  have hrun' : (execOp (Act.eval { tmps := tmps, defers := [] }) ⟨some d, .call ⟨.value x, #[y], tys⟩, ty, pos, af, none⟩).run P w = .ok (.enter fid #[.pointer (some ⟨b, 0, none⟩)]) w := hrun
  rw [hrun']
  refine (hstr C.w0.heap.size b s.data.toList w (hbat p hpe h2) hs.fr.size).mono ?_
  rintro e' w' ⟨rfl, hbel⟩
  refine ⟨_, rfl, ⟨(d, .d (.v (.string s))) :: scalF f, keepB nb bx, [], gen⟩, ⟨⟨fun g => if g < nb then G.box g else none, fun _ => none⟩, ?_⟩, h⟩
  have := (hs.endK hnbl hlo hbel hbel.size).put (dst := some d) (dstOK_lt (dst := some d) hd) (v := .string ⟨s.data.toList.toArray⟩) (a := .d (.v (.string s))) (.d (by
    have : (⟨s.data.toList.toArray⟩ : ByteArray) = s := by apply ByteArray.ext; simp
    rw [this]; exact .v _ (by simp [okc, hss])))
  exact this
end
end Go.Ab
namespace Go.Tb
open Go.Ab
structure Pre (l m : List UInt8) (n : Nat) : Prop where
  ll : n ≤ l.length
  lm : n ≤ m.length
  tk : m.take n = l.take n
def Gd (m : List UInt8) (n p : Nat) : Prop := p < n ∨ (p = n ∧ m.length = n)
section
variable {l m : List UInt8} {n : Nat}
theorem Gd.down {p q : Nat} (h : Gd m n p) (hq : q ≤ p) : Gd m n q := by
  rcases h with h | ⟨h, h'⟩
  · exact .inl (by omega)
  · rcases Nat.lt_or_ge q n with h1 | h1
    · exact .inl h1
    · exact .inr ⟨by omega, h'⟩
theorem Gd.le {p : Nat} (h : Gd m n p) : p ≤ n := by rcases h with h | ⟨h, _⟩ <;> omega
/-! white space -/
/-! results -/
def Loc {α : Type} (m : List UInt8) (n : Nat) (r r' : PE α) : Prop := match r with
  | .ok x j => Gd m n j → r' = .ok x j
  | .no a w => ((w = 10 ∧ Gd m n a) ∨ (w = 20 ∧ a < n)) → r' = .no a w
def GeJ {α : Type} (j : Nat) : PE α → Prop
  | .ok _ p => j ≤ p
  | .no a _ => j ≤ a
theorem GeJ.mono {α : Type} {i j : Nat} {r : PE α} (h : GeJ i r) (hj : j ≤ i) : GeJ j r := by
  cases r with
  | ok x p => exact Nat.le_trans hj h
  | no a w => exact Nat.le_trans hj h
theorem Loc.need {α : Type} {j : Nat} {r r' : PE α} (hb : GeJ j r) (h : Gd m n j → Loc m n r r') : Loc m n r r' := by
  cases r with
  | ok x p => exact fun hg => h (hg.down hb) hg
  | no a w =>
    intro hc
    refine h ?_ hc
    rcases hc with ⟨_, hg⟩ | ⟨_, hg⟩
    · exact hg.down hb
    · exact .inl (Nat.lt_of_le_of_lt hb hg)
theorem Loc.start {α : Type} {i : Nat} {r r' : PE α} (hb : Bd l i r) (he : i = m.length → r' = .no i 10) (h : i < n → Loc m n r r') : Loc m n r r' := by
  rcases Nat.lt_or_ge i n with hlt | hge
  · exact h hlt
  · cases r with
    | ok x j =>
      intro hg
      have := hg.le
      have := hb.1
      omega
    | no a w =>
      rintro (⟨rfl, hg⟩ | ⟨_, hg⟩)
      · have h1 := hg.le
        have h2 : i ≤ a := hb.1
        have e : a = i := by omega
        subst e
        rcases hg with hg | ⟨_, hg⟩
        · omega
        · exact he (by omega)
      · have : i ≤ a := hb.1
        omega
theorem takeJ_at {c : UInt8} {i j : Nat} {u : Unit} (h : takeJ l c i = .ok u j) : j = i + 1 ∧ i < l.length := by
  unfold takeJ at h
  split at h
  · rename_i q; injection h with _ h2; exact ⟨h2.symm, q.1⟩
  · cases h
theorem wordJ_ge {x : List UInt8} {i : Nat} (h : i ≤ l.length) : GeJ i (wordJ l x i) := by
  have hw := wordJ_bd (l := l) (x := x) h
  cases hr : wordJ l x i with
  | ok u j => rw [hr] at hw; exact (by have := hw.1; show i ≤ j; omega)
  | no a w => rw [hr] at hw; exact hw.1
/-! escapes -/
def esc3 (l : List UInt8) (high : Nat) (j : Nat) : PE UInt8 := match hexV (hereB l j) with
  | none => .no j 10
  | some low => if known (UInt8.ofNat (16 * high + low)) = false then .no j 10 else .ok (UInt8.ofNat (16 * high + low)) (j + 1)
def esc2 (l : List UInt8) (j : Nat) : PE UInt8 := match hexV (hereB l j) with
  | none => .no j 10
  | some high => if high = 1 ∨ 7 < high then .no j 10 else esc3 l high (j + 1)
def esc1 (l : List UInt8) (i : Nat) : PE UInt8 := match wordJ l [117, 48, 48] i with
  | .no a w => .no a w
  | .ok _ j => esc2 l j
theorem escJ_eq (l : List UInt8) (i : Nat) : escJ l i = if hereB l i = 34 ∨ hereB l i = 92 ∨ hereB l i = 47 then .ok (hereB l i) (i + 1) else if hereB l i = 110 then .ok 10 (i + 1) else if hereB l i = 116 then .ok 9 (i + 1) else esc1 l i := rfl
/-! texts -/
/-! numbers -/
theorem runD_dig (l : List UInt8) : ∀ (k i p : Nat), i ≤ p → p < runD l k i → isDig (hereB l p) = true
  | 0, i, p, h, h' => by unfold runD at h'; omega
  | k + 1, i, p, h, h' => by
    unfold runD at h'
    split at h'
    · rename_i q
      rcases Nat.eq_or_lt_of_le h with e | e
      · subst e; exact q.2
      · exact runD_dig l k (i + 1) p e h'
    · omega
theorem runD_only (l : List UInt8) : ∀ (k i j : Nat), i ≤ j → (∀ p, i ≤ p → p < j → isDig (hereB l p) = true) → isDig (hereB l j) = false → l.length - i ≤ k → runD l k i = j
  | 0, i, j, h, hw, hj, hk => by
    unfold runD
    rcases Nat.eq_or_lt_of_le h with e | e
    · exact e
    · have := hw i (Nat.le_refl _) e
      rw [here_end (by omega)] at this
      exact absurd this (by decide)
  | k + 1, i, j, h, hw, hj, hk => by
    unfold runD
    rcases Nat.eq_or_lt_of_le h with e | e
    · subst e; rw [if_neg (by rw [hj]; simp)]
    · have hi := hw i (Nat.le_refl _) e
      have hlt : i < l.length := here_lt fun z => by rw [z] at hi; exact absurd hi (by decide)
      rw [if_pos ⟨hlt, hi⟩]
      exact runD_only l k (i + 1) j e (fun p h1 h2 => hw p (by omega) h2) hj (by omega)
theorem Pre.cut (H : Pre l m n) {i j : Nat} (hj : j ≤ n) : (m.drop i).take (j - i) = (l.drop i).take (j - i) := by
  rcases Nat.lt_or_ge i j with h | h
  · rw [List.take_drop, List.take_drop, show i + (j - i) = j by omega]
    have e : ∀ a : List UInt8, a.take j = (a.take n).take j := fun a => by rw [List.take_take, Nat.min_eq_left hj]
    rw [e m, e l, H.tk]
  · rw [show j - i = 0 by omega]; simp
end
end Go.Tb
namespace Go.Tb
open Go.Ab
theorem valJ_eq (l : List UInt8) (k : Nat) (level : Int) (i0 : Nat) : valJ l (k + 1) level i0 =
    if hereB l (skipB l i0) = 110 then (match wordJ l nullL (skipB l i0) with | .no a w => .no a w | .ok _ j => .ok (.mk 1 0 (B #[]) [] []) j)
    else if hereB l (skipB l i0) = 116 then (match wordJ l trueL (skipB l i0) with | .no a w => .no a w | .ok _ j => .ok (.mk 2 1 (B #[]) [] []) j)
    else if hereB l (skipB l i0) = 102 then (match wordJ l falseL (skipB l i0) with | .no a w => .no a w | .ok _ j => .ok (.mk 2 0 (B #[]) [] []) j)
    else if hereB l (skipB l i0) = 34 then (match textJ l (skipB l i0) with | .no a w => .no a w | .ok t j => .ok (.mk 4 0 (bytesOf t) [] []) j)
    else if hereB l (skipB l i0) = 91 ∨ hereB l (skipB l i0) = 123 then
      if 16 < level then .no (skipB l i0) 20
      else if hereB l (skipB l i0) = 91 then arrJ l k level (skipB l i0 + 1) else objJ l k level (skipB l i0 + 1)
    else numJ l (skipB l i0) := by rw [valJ]; rfl
theorem arrJ_eq (l : List UInt8) (k : Nat) (level : Int) (i0 : Nat) : arrJ l (k + 1) level i0 =
    if hereB l (skipB l i0) = 93 then .ok (.mk 5 0 (B #[]) [] []) (skipB l i0 + 1) else arrGo l k level (skipB l i0) [] := by rw [arrJ]
theorem arrGo_eq (l : List UInt8) (k : Nat) (level : Int) (i : Nat) (acc : List JV) : arrGo l (k + 1) level i acc =
    match valJ l k (level + 1) i with
    | .no a w => .no a w
    | .ok v j =>
      if hereB l (skipB l j) = 44 then arrGo l k level (skipB l j + 1) (acc ++ [v])
      else match takeJ l 93 (skipB l j) with | .no a w => .no a w | .ok _ j2 => .ok (.mk 5 0 (B #[]) [] (acc ++ [v])) j2 := by rw [arrGo]; rfl
theorem objJ_eq (l : List UInt8) (k : Nat) (level : Int) (i0 : Nat) : objJ l (k + 1) level i0 =
    if hereB l (skipB l i0) = 125 then .ok (.mk 6 0 (B #[]) [] []) (skipB l i0 + 1) else objGo l k level (skipB l i0) [] [] := by rw [objJ]
theorem objGo_eq (l : List UInt8) (k : Nat) (level : Int) (i0 : Nat) (keys : List ByteArray) (acc : List JV) : objGo l (k + 1) level i0 keys acc =
    match textJ l (skipB l i0) with
    | .no a w => .no a w
    | .ok t j =>
      if keys.any (fun x => decide (x = bytesOf t)) then .no (skipB l i0) 4 else
      match takeJ l 58 (skipB l j) with
      | .no a w => .no a w
      | .ok _ j1 => match valJ l k (level + 1) j1 with
        | .no a w => .no a w
        | .ok v j2 =>
          if hereB l (skipB l j2) = 44 then objGo l k level (skipB l j2 + 1) (keys ++ [bytesOf t]) (acc ++ [v])
          else match takeJ l 125 (skipB l j2) with | .no a w => .no a w | .ok _ j4 => .ok (.mk 6 0 (B #[]) (keys ++ [bytesOf t]) (acc ++ [v])) j4 := by rw [objGo]; rfl
section
variable {l m : List UInt8} {n : Nat}
structure Lo (l m : List UInt8) (n k : Nat) : Prop where
  v : ∀ level i, i ≤ l.length → Loc m n (valJ l k level i) (valJ m k level i)
  a : ∀ level i, i ≤ l.length → Loc m n (arrJ l k level i) (arrJ m k level i)
  ag : ∀ level i acc, i ≤ l.length → Loc m n (arrGo l k level i acc) (arrGo m k level i acc)
  o : ∀ level i, i ≤ l.length → Loc m n (objJ l k level i) (objJ m k level i)
  og : ∀ level i keys acc, i ≤ l.length → Loc m n (objGo l k level i keys acc) (objGo m k level i keys acc)
end
/-! the nesting's fault stands at a byte -/
structure Dp (l : List UInt8) (k : Nat) : Prop where
  v : ∀ level i a, valJ l k level i = .no a 20 → a < l.length
  a : ∀ level i a, arrJ l k level i = .no a 20 → a < l.length
  ag : ∀ level i acc a, arrGo l k level i acc = .no a 20 → a < l.length
  o : ∀ level i a, objJ l k level i = .no a 20 → a < l.length
  og : ∀ level i keys acc a, objGo l k level i keys acc = .no a 20 → a < l.length
def N20 {α : Type} : PE α → Prop
  | .ok _ _ => True
  | .no _ w => w ≠ 20
theorem N20.not {α : Type} {r : PE α} {a : Nat} (h : N20 r) (e : r = .no a 20) : False := by subst e; exact h rfl
/-! the whole text -/
theorem parseJ_k {l : List UInt8} {k : Nat} (hk : 3 * l.length + 1 ≤ k) : parseJ l = match valJ l k 1 0 with
  | .no a w => .no a w
  | .ok j i => if skipB l i < l.length then .no (skipB l i) 10 else .ok j 0 := by
  unfold parseJ
  obtain ⟨d, rfl⟩ : ∃ d, k = 3 * l.length + 1 + d := ⟨k - (3 * l.length + 1), by omega⟩
  rw [valJ_fuel (Nat.zero_le _) (by omega) d]
  cases valJ l (3 * l.length + 1) 1 0 <;> rfl
theorem parse_le {l : List UInt8} {a : Nat} {w : Int} (h : parseJ l = .no a w) : a ≤ l.length := by
  rw [parseJ_k (Nat.le_refl _)] at h
  have hb := (allBd l (3 * l.length + 1)).v 1 0 (Nat.zero_le _)
  cases hr : valJ l (3 * l.length + 1) 1 0 with
  | no a' w' => rw [hr] at h hb; injection h with h1 _; subst h1; exact hb.2
  | ok v j =>
    rw [hr] at h hb
    dsimp only at h
    split at h
    · injection h with h1 _; subst h1; exact skipB_le hb.2
    · cases h
end Go.Tb
namespace Go.Ab
open Go.RowKit
/-! ### whatever the states are -/
section
variable {P : Program} {ops : Array Oper} {md : Region.Mode} {m : Nat} {S E : Type} (Y : Nat → E → S → Prop) (ef : Nat → E → S → S)
def Closed (md : Region.Mode) (ops : Array Oper) (listed : Array Bool) : Prop :=
  ∀ j oj, ops[j]? = some oj → listed.getD j false = true → ∀ e ∈ oj.after, Region.binds md e = true → listed.getD e.on false = true
def reachB (md : Region.Mode) (ops : Array Oper) : Nat → Nat → Nat → Bool
  | 0, _, _ => false
  | k + 1, j, i => behindB md ops j i || (match ops[j]? with | some o => o.after.toList.any fun e => Region.binds md e && reachB md ops k e.on i | none => false)
theorem reach_listed {listed : Array Bool} (hc : Closed md ops listed) : ∀ (k j i : Nat), reachB md ops k j i = true → (∀ oj, ops[j]? = some oj → ∀ e ∈ oj.after, Region.binds md e = true → listed.getD e.on false = true) → listed.getD i false = true
  | 0, _, _, h, _ => by simp [reachB] at h
  | k + 1, j, i, h, hj => by
    simp only [reachB, Bool.or_eq_true] at h
    cases hoj : ops[j]? with
    | none =>
      rw [hoj] at h
      simp [behindB, hoj] at h
    | some oj =>
      rcases h with h | h
      · obtain ⟨e, he, hb, heq⟩ := behindB_spec hoj h
        rw [← heq]
        exact hj oj hoj e he hb
      · rw [hoj] at h
        obtain ⟨e, he, hb⟩ := List.any_eq_true.1 h
        simp only [Bool.and_eq_true] at hb
        have he' : e ∈ oj.after := by simpa using he
        have hl := hj oj hoj e he' hb.1
        exact reach_listed hc k e.on i hb.2 fun o ho e' he'' hb' => hc e.on o ho hl e' he'' hb'
def waitT (md : Region.Mode) (ops : Array Oper) (m : Nat) : Bool := (List.range ops.size).all fun j => decide (j < m) || (List.range j).all fun i => reachB md ops ops.size j i
theorem waitsT {j : Nat} (h : waitT md ops m = true) (hm : m ≤ j) {i : Nat} (hij : i < j) {listed : Array Bool} (hc : Closed md ops listed) (hj : j ∈ Region.ready md ops listed) : listed.getD i false = true := by
  obtain ⟨_, oj, hoj, hall⟩ := mem_ready.1 hj
  have hlt : j < ops.size := (Array.getElem?_eq_some_iff.1 hoj).1
  have h1 := List.all_eq_true.1 h j (by simpa using hlt)
  simp only [Bool.or_eq_true, decide_eq_true_eq] at h1
  have h2 := List.all_eq_true.1 (h1.resolve_left (by omega)) i (by simpa using hij)
  exact reach_listed hc _ j i h2 fun o ho e he hb => by rw [hoj] at ho; cases ho; exact hall e he hb
theorem Closed.add {listed : Array Bool} (hc : Closed md ops listed) {i : Nat} (hi : i ∈ Region.ready md ops listed) : Closed md ops (listed.setIfInBounds i true) := by
  intro j oj hoj hl e he hb
  obtain ⟨_, oi, hoi, hall⟩ := mem_ready.1 hi
  by_cases hji : i = j
  · subst hji
    rw [hoi] at hoj
    cases hoj
    exact getD_set_true (hall e he hb)
  · rw [getD_set_ne false hji] at hl
    exact getD_set_true (hc j oj hoj hl e he hb)
def wpG (m : Nat) (md : Region.Mode) (ops : Array Oper) (Q : S → Prop) : Nat → Array Bool → S → Prop
  | 0, listed, σ => Split m ops listed ∧ Q σ
  | fuel + 1, listed, σ => Region.ready md ops listed ≠ [] ∧ ∀ i ∈ Region.ready md ops listed, ∃ e, Y i e σ ∧ wpG m md ops Q fuel (listed.setIfInBounds i true) (ef i e σ)
def Swap (i j : Nat) : Prop := ∀ e e' σ, Y i e σ → Y j e' (ef i e σ) → Y j e' σ ∧ Y i e (ef j e' σ) ∧ ef j e' (ef i e σ) = ef i e (ef j e' σ)
variable {Y} {ef}
theorem wpG_first {Q : S → Prop} {i : Nat} {oi : Oper} {e : E} (hw : waitT md ops m = true) (him : i < m) (hi : ops[i]? = some oi) :
    ∀ (fuel : Nat) (listed : Array Bool) (σ : S), Closed md ops listed →
      (∀ j oj, ops[j]? = some oj → j ≠ i → j < m → listed.getD j true = false → (∀ e ∈ oj.after, Region.binds md e = true → e.on ≠ i) → Swap Y ef i j) →
      i ∈ Region.ready md ops listed → Y i e σ → wpG Y ef m md ops Q fuel (listed.setIfInBounds i true) (ef i e σ) → wpG Y ef m md ops Q (fuel + 1) listed σ := by
  have unl : ∀ {listed : Array Bool}, i ∈ Region.ready md ops listed → listed.getD i false = false := fun hr => unlisted (mem_ready.1 hr).1
  intro fuel
  induction fuel with
  | zero =>
    intro listed σ hc _ hr hy H
    refine ⟨fun h => (by rw [h] at hr; cases hr), fun j hj => ?_⟩
    by_cases hji : j = i
    · subst hji; exact ⟨e, hy, H⟩
    · exfalso
      obtain ⟨⟨_, h1, h2⟩, _⟩ := H
      have hj1 := (mem_ready.1 hj).1
      by_cases hjm : j < m
      · have := h1 j hjm
        rw [getD_set_ne false (Ne.symm hji)] at this
        rw [unlisted hj1] at this
        cases this
      · have := waitsT hw (by omega) (show i < j by omega) hc hj
        rw [unl hr] at this
        cases this
  | succ fuel ih =>
    intro listed σ hc hfree hr hy H
    refine ⟨fun h => (by rw [h] at hr; cases hr), fun j hj => ?_⟩
    by_cases hji : j = i
    · subst hji; exact ⟨e, hy, H⟩
    · obtain ⟨e', hy', H'⟩ := H.2 j (ready_mono hj hji)
      obtain ⟨hjun, oj, hoj, hall⟩ := mem_ready.1 hj
      have hnot : ∀ e ∈ oj.after, Region.binds md e = true → e.on ≠ i := fun e he hb heq => by
        have h1 := hall e he hb
        rw [heq, unl hr] at h1
        cases h1
      have hjm : j < m := by
        rcases Nat.lt_or_ge j m with h | h
        · exact h
        · have := waitsT hw h (show i < j by omega) hc hj
          rw [unl hr] at this
          cases this
      obtain ⟨s1, s2, s3⟩ := hfree j oj hoj hji hjm hjun hnot e e' σ hy hy'
      have hfree' : ∀ k ok, ops[k]? = some ok → k ≠ i → k < m → (listed.setIfInBounds j true).getD k true = false → (∀ e ∈ ok.after, Region.binds md e = true → e.on ≠ i) → Swap Y ef i k := fun k ok hk hki hkm hun hno => by
        refine hfree k ok hk hki hkm ?_ hno
        by_cases hjk : j = k
        · subst hjk; exact hjun
        · rw [getD_set_ne true hjk] at hun; exact hun
      refine ⟨e', s1, ih (listed.setIfInBounds j true) _ (hc.add hj) hfree' (ready_mono hr (Ne.symm hji)) s2 ?_⟩
      rw [Array.setIfInBounds_comm _ _ hji, ← s3]
      exact H'
def ceG (Y : Nat → E → S → Prop) (ef : Nat → E → S → S) (Q : S → Prop) : List Oper → Nat → S → Prop
  | [], _, σ => Q σ
  | _ :: rest, i, σ => ∃ e, Y i e σ ∧ ceG Y ef Q rest (i + 1) (ef i e σ)
theorem wpG_lex {Q : S → Prop} (hw : waitT md ops m = true)
    (hsw : ∀ i j oi oj, ops[i]? = some oi → ops[j]? = some oj → i ≠ j → i < m → j < m → oi.apart ops oj = true → (∀ e ∈ oj.after, Region.binds md e = true → e.on ≠ i) → Swap Y ef i j) :
    ∀ (l : List Oper) (k : Nat) (listed : Array Bool) (σ : S), k + l.length = m → (∀ j, j < l.length → l[j]? = ops[k + j]?) → Closed md ops listed →
    listed.size = ops.size → (∀ j, j < k → listed.getD j false = true) → (∀ j, k ≤ j → j < ops.size → listed.getD j true = false) →
    lexE md ops l.length k listed = true → ceG Y ef Q l k σ → wpG Y ef m md ops Q l.length listed σ
  | [], k, listed, σ, hk, _, _, hs, h1, h2, _, h => ⟨⟨hs, fun j hj => h1 j (by simp at hk; omega), fun j hj hj' => h2 j (by simp at hk; omega) hj'⟩, h⟩
  | o :: l, k, listed, σ, hk, hl, hc, hs, h1, h2, hB, h => by
    have h0 : ops[k]? = some o := by simpa using (hl 0 (by simp)).symm
    have hks : k < ops.size := (Array.getElem?_eq_some_iff.1 h0).1
    simp only [List.length_cons, lexE, Bool.and_eq_true] at hB
    obtain ⟨⟨hr, hf⟩, hB'⟩ := hB
    have hr' : k ∈ Region.ready md ops listed := by simpa using hr
    obtain ⟨e, hy, hK⟩ := h
    have hkm : k < m := by simp at hk; omega
    refine wpG_first hw hkm h0 l.length listed σ hc (fun j oj hoj hjk hjm hun hno => hsw k j o oj h0 hoj (Ne.symm hjk) hkm hjm (Region.free_spec h0 hf j oj hoj hjk hun hno) hno) hr' hy
      (wpG_lex hw hsw l (k + 1) _ _ (by simp at hk; omega) (fun j hj => by have := hl (j + 1) (by simpa using hj); simpa [Nat.add_assoc, Nat.add_comm 1 j] using this) (hc.add hr') (by simpa using hs) (fun j hj => ?_) (fun j hj hj' => ?_) hB' hK)
    · rcases Nat.lt_succ_iff_lt_or_eq.1 hj with hlt | rfl
      · exact getD_set_true (h1 j hlt)
      · simp [hs, hks]
    · rw [getD_set_ne true (by omega)]
      exact h2 j (by omega) hj'
theorem wpAny_of_G {Sm : S → Act → World → Prop} {Q : S → Prop} {Q' : Exit → Act → World → Prop} {t : Nat}
    (hS : ∀ i e σ act w K, Sm σ act w → Y i e σ → (∀ act w, Sm (ef i e σ) act w → K act w) → wpOp P ops Q' i K act w)
    (hQ : ∀ listed σ act w, Sm σ act w → Closed md ops listed → Split m ops listed → Q σ → wpAny P md ops Q' t listed act w) :
    ∀ (fuel : Nat) (listed : Array Bool) (σ : S) (act : Act) (w : World), Sm σ act w → Closed md ops listed → wpG Y ef m md ops Q fuel listed σ → wpAny P md ops Q' (fuel + t) listed act w
  | 0, _, _, _, _, hs, hc, h => by rw [Nat.zero_add]; exact hQ _ _ _ _ hs hc h.1 h.2
  | fuel + 1, _, _, _, _, hs, hc, h => by
    rw [Nat.add_right_comm]
    refine ⟨fun h0 => absurd h0 h.1, fun i hi => ?_⟩
    obtain ⟨e, hy, hK⟩ := h.2 i hi
    exact hS i e _ _ _ _ hs hy fun act w hs' => wpAny_of_G hS hQ fuel _ _ _ _ hs' (hc.add hi) hK
theorem wpAny_tailT {Q' : Exit → Act → World → Prop} (hw : waitT md ops m = true) (hrd : ∀ k, m ≤ k → ∀ o, ops[k]? = some o → ∀ e ∈ o.after, Region.binds md e = true → e.on < k) :
    ∀ (l : List Oper) (k : Nat) (listed : Array Bool) (act : Act) (w : World), m ≤ k → k + l.length = ops.size → (∀ j, l[j]? = ops[k + j]?) → Closed md ops listed → listed.size = ops.size → (∀ j, j < k → listed.getD j false = true) → (∀ j, k ≤ j → j < ops.size → listed.getD j true = false) →
      wpL P ops Q' l act w → wpAny P md ops Q' l.length listed act w
  | [], k, listed, act, w, hm, hk, _, _, hs, h1, h2, h => by
    refine ⟨?_, h⟩
    refine List.eq_nil_iff_forall_not_mem.2 fun j hj => ?_
    obtain ⟨h3, oj, hoj, _⟩ := mem_ready.1 hj
    have hlt := (Array.getElem?_eq_some_iff.1 hoj).1
    have := h1 j (by simp at hk; omega)
    rw [unlisted h3] at this
    cases this
  | o :: l, k, listed, act, w, hm, hk, hl, hc, hs, h1, h2, h => by
    have h0 : ops[k]? = some o := by simpa using (hl 0).symm
    have hks : k < ops.size := (Array.getElem?_eq_some_iff.1 h0).1
    have hready : k ∈ Region.ready md ops listed := mem_ready.2 ⟨h2 k (Nat.le_refl _) hks, o, h0, fun e he hb => h1 _ (hrd k hm o h0 e he hb)⟩
    refine ⟨fun hn => (by rw [hn] at hready; cases hready), fun i hi => ?_⟩
    have hik : i = k := by
      obtain ⟨h3, oi, hoi, _⟩ := mem_ready.1 hi
      rcases Nat.lt_trichotomy i k with hlt | he | hgt
      · have := h1 i hlt; rw [unlisted h3] at this; cases this
      · exact he
      · have := waitsT hw (by omega) hgt hc hi
        rw [unlisted (h2 k (Nat.le_refl _) hks)] at this
        cases this
    subst hik
    have ih := fun act w => wpAny_tailT (Q' := Q') hw hrd l (i + 1) (listed.setIfInBounds i true) act w (by omega) (by simp at hk; omega) (fun j => by have := hl (j + 1); simpa [Nat.add_assoc, Nat.add_comm 1 j] using this) (hc.add hready) (by simpa using hs)
      (fun j hj => by
        rcases Nat.lt_succ_iff_lt_or_eq.1 hj with hlt | rfl
        · exact getD_set_true (h1 j hlt)
        · simp [hs, hks]) (fun j hj hj' => by rw [getD_set_ne true (by omega)]; exact h2 j (by omega) hj')
    simp only [wpL] at h
    unfold wpOp
    simp only [h0]
    split
    · rename_i hw'
      rw [if_pos hw'] at h
      exact .inl (Oper.wp_mono ih h)
    · rename_i hw'
      rw [if_neg hw'] at h
      exact ih _ _ h
end
/-! ### one operation that turns the ghost -/
theorem Oper.wp_only {P : Program} {o : Oper} {a : Act} {w : World} {K K' : Act → World → Prop} {Q Q' : Exit → Act → World → Prop} (hp : ∀ c a w, ¬ Q (.panic c) a w) (hL : ¬ LetsOut Q) (hK : ∀ a w, K a w → K' a w) (h : o.wp P a w K Q) : o.wp P a w K' Q' := by
  unfold Oper.wp at *
  generalize (execOp a.eval o).run P w = r at *
  cases r with
  | ok n w' =>
    cases n <;> simp only [Oper.upon] at h ⊢ <;> first
      | exact hK _ _ h
      | exact Calls.mono h (fun e w'' he => by
          cases e with
          | returned v => exact hK _ _ he
          | panicked c => exact absurd he (hp _ _ _)
          | outgrown => exact absurd he hL)
      | exact Rows.mono h (fun _ _ he => hK _ _ he)
      | exact h
  | halt x w' =>
    cases x <;> simp only [Oper.upon] at h ⊢ <;> first
      | exact absurd h (hp _ _ _)
      | exact h
theorem Oper.wp_either {P : Program} {o : Oper} {a : Act} {w : World} {K K' : Act → World → Prop} {Q Q' : Exit → Act → World → Prop} (hp : ∀ c a w, Q (.panic c) a w → Q' (.panic c) a w) (hL : ¬ LetsOut Q) (hK : ∀ a w, K a w → K' a w) (h : o.wp P a w K Q) : o.wp P a w K' Q' := by
  unfold Oper.wp at *
  generalize (execOp a.eval o).run P w = r at *
  cases r with
  | ok n w' =>
    cases n <;> simp only [Oper.upon] at h ⊢ <;> first
      | exact hK _ _ h
      | exact Calls.mono h (fun e w'' he => by
          cases e with
          | returned v => exact hK _ _ he
          | panicked c => exact hp _ _ _ he
          | outgrown => exact absurd he hL)
      | exact Rows.mono h (fun _ _ he => hK _ _ he)
      | exact h
  | halt x w' =>
    cases x <;> simp only [Oper.upon] at h ⊢ <;> first
      | exact hp _ _ _ h
      | exact h
end Go.Ab
namespace Go.Ab
open Go.RowKit
structure Par where
  bx0 : List (Nat × List A)
  bx1 : List (Nat × List A)
  lv0 : List Nat
  lv1 : List Nat
  gen0 : Nat
  gen1 : Nat
section
variable {P : Program} {C : Ctx} {n : Nat} (S : Par) {ops : Array Oper} (c : Nat)
abbrev SC := Fr' × Bool
def SmC (C : Ctx) (n : Nat) (S : Par) (σ : SC) (act : Act) (w : World) : Prop :=
  act.defers = C.ds ∧ ∃ G, if σ.2 = true then SimF C n S.bx1 S.lv1 S.gen1 σ.1 G act.tmps w else SimF C n S.bx0 S.lv0 S.gen0 σ.1 G act.tmps w
def XEv (P : Program) (C : Ctx) (n : Nat) (S : Par) (ops : Array Oper) (o : Oper) (a : A) (φ : Fr') : Prop :=
  o.guard = none ∧ ∃ p, (∀ t x, look p t = some x → φ t = some x ∧ t ∈ o.looksAt ops) ∧
    ∀ g, WO P C n ops (fun e st => e = .normal ∧ st = St.put ⟨p ++ g, S.bx1, S.lv1, S.gen1⟩ o.dst a) [o] ⟨p ++ g, S.bx0, S.lv0, S.gen0⟩
def YC (P : Program) (C : Ctx) (n : Nat) (S : Par) (ops : Array Oper) (c : Nat) (i : Nat) (a : A) (σ : SC) : Prop :=
  ∃ o, ops[i]? = some o ∧ dstOK n o.dst = true ∧ ((i = c ∧ σ.2 = false ∧ XEv P C n S ops o a σ.1) ∨
    (i ≠ c ∧ (behindB .any ops i c = false → YA P C n S.bx0 S.lv0 S.gen0 ops o a σ.1) ∧ (behindB .any ops c i = false → YA P C n S.bx1 S.lv1 S.gen1 ops o a σ.1) ∧
      (σ.2 = false → behindB .any ops i c = false) ∧ (σ.2 = true → behindB .any ops c i = false)))
def efC (ops : Array Oper) (c : Nat) (i : Nat) (a : A) (σ : SC) : SC :=
  match ops[i]? with
  | none => σ
  | some o => (putF σ.1 o.dst a, if i = c then true else σ.2)
variable {S} {c}
theorem XEv_put {o : Oper} {a : A} {φ : Fr'} {dst : Option Nat} {x : A} (hd : ∀ d, dst = some d → d ∉ o.looksAt ops) : XEv P C n S ops o a (putF φ dst x) ↔ XEv P C n S ops o a φ := by
  constructor
  · rintro ⟨h0, p, h1, h2⟩
    exact ⟨h0, p, fun t y hy => ⟨(putF_key hd (h1 t y hy).2).symm.trans (h1 t y hy).1, (h1 t y hy).2⟩, h2⟩
  · rintro ⟨h0, p, h1, h2⟩
    exact ⟨h0, p, fun t y hy => ⟨(putF_key hd (h1 t y hy).2).trans (h1 t y hy).1, (h1 t y hy).2⟩, h2⟩
theorem not_behind {j i : Nat} {oj : Oper} (hj : ops[j]? = some oj) (h : ∀ e ∈ oj.after, Region.binds .any e = true → e.on ≠ i) : behindB .any ops j i = false := by
  cases q : behindB .any ops j i with
  | false => rfl
  | true =>
    obtain ⟨e, he, hb, heq⟩ := behindB_spec hj q
    exact absurd heq (h e he hb)
theorem efC_at {i : Nat} {o : Oper} (h : ops[i]? = some o) (a : A) (σ : SC) : efC ops c i a σ = (putF σ.1 o.dst a, if i = c then true else σ.2) := by unfold efC; rw [h]
theorem swapC {i j : Nat} {oi oj : Oper} (hi : ops[i]? = some oi) (hj : ops[j]? = some oj) (hij : i ≠ j) (hap : oi.apart ops oj = true) (hno : ∀ e ∈ oj.after, Region.binds .any e = true → e.on ≠ i) :
    Swap (YC P C n S ops c) (efC ops c) i j := by
  obtain ⟨a1, a2, a3⟩ := Oper.apart_spec hap
  have hnb := not_behind hj hno
  rintro a b ⟨φ, ph⟩ ⟨oi', hi', di, hyi⟩ ⟨oj', hj', dj, hyj⟩
  rw [hi] at hi'
  cases hi'
  rw [hj] at hj'
  cases hj'
  rw [efC_at hi] at hyj
  rw [efC_at hi, efC_at hj, efC_at hj, efC_at hi]
  have hcomm : putF (putF φ oi.dst a) oj.dst b = putF (putF φ oj.dst b) oi.dst a := putF_comm φ a b a2
  simp only at hyi hyj ⊢
  rcases hyi with ⟨rfl, hph, hx⟩ | ⟨hic, y0, y1, y2, y3⟩
  · -- the operation itself stands first
    subst hph
    rcases hyj with ⟨e, _⟩ | ⟨hjc, z0, z1, z2, z3⟩
    · exact absurd e.symm hij
    · refine ⟨⟨oj, hj, dj, .inr ⟨hjc, fun h => (YA_put a1).1 (z0 h), fun h => (YA_put a1).1 (z1 h), fun _ => hnb, fun h => by cases h⟩⟩, ⟨oi, hi, di, .inl ⟨rfl, ?_, (XEv_put a3).2 hx⟩⟩, ?_⟩
      · rw [if_neg hjc]
      · rw [if_pos rfl, if_neg hjc, hcomm]
        simp
  · rcases hyj with ⟨rfl, hph, hx⟩ | ⟨hjc, z0, z1, z2, z3⟩
    · rw [if_neg hic] at hph
      subst hph
      refine ⟨⟨oj, hj, dj, .inl ⟨rfl, rfl, (XEv_put a1).1 hx⟩⟩, ⟨oi, hi, di, .inr ⟨hic, fun h => (YA_put a3).2 (y0 h), fun h => (YA_put a3).2 (y1 h), fun h => ?_, fun _ => hnb⟩⟩, ?_⟩
      · rw [if_pos rfl] at h; cases h
      · rw [if_pos rfl, if_neg hic, hcomm]
        simp
    · rw [if_neg hic] at z2 z3
      refine ⟨⟨oj, hj, dj, .inr ⟨hjc, fun h => (YA_put a1).1 (z0 h), fun h => (YA_put a1).1 (z1 h), z2, z3⟩⟩, ⟨oi, hi, di, .inr ⟨hic, fun h => (YA_put a3).2 (y0 h), fun h => (YA_put a3).2 (y1 h), ?_, ?_⟩⟩, ?_⟩
      · rw [if_neg hjc]; exact y2
      · rw [if_neg hjc]; exact y3
      · rw [if_neg hic, if_neg hjc, hcomm, if_neg hic]
def fallF (n : Nat) (φ : Fr') : List (Nat × A) := (List.range n).filterMap fun t => (φ t).map fun a => (t, a)
theorem look_fall (φ : Fr') : ∀ (l : List Nat) (t : Nat), look (l.filterMap fun t => (φ t).map fun a => (t, a)) t = if t ∈ l then φ t else none
  | [], t => rfl
  | s :: l, t => by
    rw [List.filterMap_cons]
    cases hs : φ s with
    | none =>
      simp only [Option.map_none]
      rw [look_fall φ l t]
      by_cases e : t = s
      · subst e; simp [hs]
      · simp [e]
    | some a =>
      simp only [Option.map_some, look_cons]
      by_cases e : s = t
      · subst e; simp [hs]
      · rw [if_neg e, look_fall φ l t]
        simp [Ne.symm e]
theorem look_app (p g : List (Nat × A)) (t : Nat) : look (p ++ g) t = match look p t with | some a => some a | none => look g t := by
  induction p with
  | nil => rfl
  | cons x p ih =>
    obtain ⟨s, a⟩ := x
    rw [List.cons_append, look_cons, look_cons]
    split
    · rfl
    · exact ih
theorem soundC (i : Nat) (a : A) (σ : SC) (act : Act) (w : World) (K : Act → World → Prop) {Q' : Exit → Act → World → Prop} (hs : SmC C n S σ act w) (hy : YC P C n S ops c i a σ) (hK : ∀ act w, SmC C n S (efC ops c i a σ) act w → K act w) : wpOp P ops Q' i K act w := by
  obtain ⟨tmps, dfs⟩ := act
  obtain ⟨rfl, G, hs⟩ := hs
  obtain ⟨φ, ph⟩ := σ
  obtain ⟨o, ho, hd, hy⟩ := hy
  rw [efC_at ho] at hK
  simp only at hs hy hK
  unfold wpOp
  simp only [ho]
  rcases hy with ⟨rfl, rfl, hg, p, hp, hx⟩ | ⟨hic, y0, y1, y2, y3⟩
  · simp only [Bool.false_eq_true, if_false] at hs
    have hw : Region.wanted o (yielded ops tmps) = true := by simp [Region.wanted, hg]
    rw [hw, if_pos rfl]
    refine .inl ?_
    have hlt : ∀ t x, φ t = some x → t < n := fun t x hx => by
      obtain ⟨v, h1, _⟩ := hs.2 t x hx
      have := (Array.getElem?_eq_some_iff.1 h1).1
      rw [hs.1.size] at this
      exact this
    have hlook : ∀ t, look (p ++ fallF n φ) t = φ t := fun t => by
      rw [look_app]
      cases q : look p t with
      | some x => exact (hp t x q).1.symm
      | none =>
        simp only
        unfold fallF
        rw [look_fall]
        cases e : φ t with
        | none => split <;> rfl
        | some x => rw [if_pos (List.mem_range.2 (hlt t x e))]
    have hs' := hs.toG (f := p ++ fallF n φ) fun t x hx => by rw [← hlook]; exact hx
    have h := hx (fallF n φ) tmps w ⟨G, hs'⟩
    simp only [wpL, hw, if_true] at h
    refine Oper.wp_only (fun c a w hq => ?_) (fun hl => ?_) (fun act2 w2 hq => ?_) h
    · obtain ⟨_, st', _, he, _⟩ := hq
      cases he
    · obtain ⟨_, _, hq⟩ := hl
      obtain ⟨_, st', _, he, _⟩ := hq
      cases he
    · obtain ⟨hdf, st', ⟨G', hs2⟩, _, rfl⟩ := hq
      refine hK act2 w2 ⟨hdf, G', ?_⟩
      simp only [if_true]
      show SimF C n S.bx1 S.lv1 S.gen1 (putF φ o.dst a) G' act2.tmps w2
      cases hdst : o.dst with
      | none =>
        rw [hdst] at hs2
        refine ⟨{ hs2 with frame := fun t a ha => by simp [look] at ha }, fun t x hx => hs2.frame t x ?_⟩
        show look (p ++ fallF n φ) t = some x
        rw [hlook]
        exact hx
      | some d =>
        rw [hdst] at hs2
        refine ⟨{ hs2 with frame := fun t a ha => by simp [look] at ha }, fun t x hx => hs2.frame t x ?_⟩
        show look ((d, a) :: (p ++ fallF n φ)) t = some x
        rw [look_cons]
        simp only [putF] at hx
        by_cases e : t = d
        · subst e
          rw [if_pos rfl] at hx ⊢
          exact hx
        · rw [if_neg e] at hx
          rw [if_neg (Ne.symm e), hlook]
          exact hx
  · rw [if_neg hic] at hK
    have key : ∀ {bx : List (Nat × List A)} {lv : List Nat} {gen : Nat}, SimF C n bx lv gen φ G tmps w → YA P C n bx lv gen ops o a φ → (∀ tmps w, SimF C n bx lv gen (putF φ o.dst a) G tmps w → K ⟨tmps, C.ds⟩ w) →
        (if Region.wanted o (yielded ops tmps) = true then o.wp P ⟨tmps, C.ds⟩ w K Q' ∨ (o.asks P ⟨tmps, C.ds⟩ w ∧ LetsOut Q') else K (Act.put ⟨tmps, C.ds⟩ o.dst undef) w) := by
      intro bx lv gen hsF hya hk
      obtain ⟨_, ⟨hw, f, hf, hp⟩ | ⟨hw, rfl⟩⟩ := hya
      · rw [wanted_of hsF hw]
        simp only [if_true]
        refine .inl ?_
        have hg : Gives P o ⟨tmps, []⟩ w fun v w' => Below w.heap.size w w' ∧ Rep (enOf C G gen w') v a := hp G tmps w (hsF.toG fun t x hx => (hf t x hx).1)
        refine hg.ds.wp fun v w' ⟨hb, hr⟩ => ?_
        rw [Act.put_ds]
        exact hk _ _ (hsF.step hb hd hr)
      · rw [wanted_of hsF hw]
        simp only [Bool.false_eq_true, if_false]
        rw [Act.put_ds]
        exact hk _ _ (hsF.step (Below.refl _ _) hd (.tup #[] [] rfl (by simp)))
    cases ph with
    | false =>
      simp only [Bool.false_eq_true, if_false] at hs
      exact key hs (y0 (y2 rfl)) fun tmps w h => hK _ _ ⟨rfl, G, by simpa using h⟩
    | true =>
      simp only [if_true] at hs
      exact key hs (y1 (y3 rfl)) fun tmps w h => hK _ _ ⟨rfl, G, by simpa using h⟩
def CC (P : Program) (C : Ctx) (n : Nat) (S : Par) (ops : Array Oper) (c : Nat) (Q : St → Prop) (l : List Oper) (i : Nat) (f : List (Nat × A)) (ph : Bool) : Prop :=
  ceG (YC P C n S ops c) (efC ops c) (fun σ => ∃ f', (∀ t, look f' t = σ.1 t) ∧ σ.2 = true ∧ Q ⟨f', S.bx1, S.lv1, S.gen1⟩) l i (look f, ph)
def regionOKC (m : Nat) (ops : Array Oper) : Bool := Nat.ble m ops.size && waitT .any ops m && foreB .any ops m && lexE .any ops m 0 (Array.replicate ops.size false)
theorem W.regionC (T : Tab P) {id : Nat} {l l1 l2 : List Oper} {f : List (Nat × A)} {bx bx1 : List (Nat × List A)} {lv lv1 : List Nat} {gen gen1 : Nat} {Q : Exit → St → Prop} (m c : Nat) (hB : regionOKC m l.toArray = true) (h1 : l.take m = l1) (h2 : l.drop m = l2)
    (h : CC P C n ⟨bx, bx1, lv, lv1, gen, gen1⟩ l.toArray c (WO P C n l.toArray Q l2) l1 0 f false) : W P C n (.region id l.toArray true) Q ⟨f, bx, lv, gen⟩ := by
  subst h1; subst h2
  intro tmps w ⟨G, hs⟩
  simp only [regionOKC, Bool.and_eq_true] at hB
  obtain ⟨⟨⟨hm, hw⟩, hfore⟩, hlex⟩ := hB
  have hm : m ≤ l.length := by simpa using Nat.le_of_ble_eq_true hm
  have hb : Below w.heap.size w { w with drawn := w.drawn + 1 } := (Below.refl _ w).drew
  have hs' : SimF C n bx lv gen (look f) G tmps { w with drawn := w.drawn + 1 } := SimF.ofG (hs.evolve hb).2
  have hlen : (l.take m).length = m := by simp; omega
  refine wp_region_any T.mixed ?_
  have hsz : l.toArray.size = (l.take m).length + (l.drop m).length := by simp; omega
  rw [hsz]
  have hcl : Closed .any l.toArray (Array.replicate ((l.take m).length + (l.drop m).length) false) := fun j oj _ hl _ _ _ => by
    by_cases q : j < (l.take m).length + (l.drop m).length
    · simp only [Array.getD_eq_getD_getElem?, Array.getElem?_replicate] at hl
      rw [if_pos q] at hl
      cases hl
    · simp only [Array.getD_eq_getD_getElem?, Array.getElem?_replicate] at hl
      rw [if_neg q] at hl
      cases hl
  refine wpAny_of_G (m := m) (Sm := SmC C n ⟨bx, bx1, lv, lv1, gen, gen1⟩) (Y := YC P C n ⟨bx, bx1, lv, lv1, gen, gen1⟩ l.toArray c) (ef := efC l.toArray c) (Q := fun σ => ∃ f', (∀ t, look f' t = σ.1 t) ∧ σ.2 = true ∧ WO P C n l.toArray Q (l.drop m) ⟨f', bx1, lv1, gen1⟩)
    (fun i e σ act w K hs hy hk => soundC i e σ act w K hs hy hk) (fun listed σ act w hs hc hsp ⟨f', e1, e2, hq⟩ => ?_) _ _ (look f, false) ⟨tmps, C.ds⟩ _ ⟨rfl, G, by simpa using hs'⟩ hcl ?_
  · obtain ⟨tmps, dfs⟩ := act
    obtain ⟨rfl, G, hs⟩ := hs
    rw [e2] at hs
    simp only [if_true] at hs
    refine wpAny_tailT hw (foreB_spec hfore) (l.drop m) m listed ⟨tmps, C.ds⟩ w (Nat.le_refl _) (by simp; omega) (fun j => by simp [List.getElem?_drop]) hc hsp.1 hsp.2.1 hsp.2.2 ?_
    exact hq tmps w ⟨G, hs.toG (fun t a ha => by rw [← e1]; exact ha)⟩
  · refine wpG_lex hw (fun i j oi oj hi hj hij him hjm hap hno => swapC hi hj hij hap hno) (l.take m) 0 _ _ (by rw [hlen]; omega) (fun j hj => ?_) hcl (by simp; omega) (fun j hj => by omega) (fun j _ hj => ?_) (by rw [hlen]; rw [hsz, hlen] at hlex; exact hlex) h
    · rw [hlen] at hj
      rw [Nat.zero_add]
      simp [List.getElem?_take, hj]
    · have hj' : j < l.length := by simpa using hj
      have e : min m l.length + (l.length - m) = l.length := by omega
      simp [e, hj']
variable {op : Op} {ty : TypeId} {pos : String} {af : Array Edge} {a : A} {d i : Nat} {rest : List Oper} {f : List (Nat × A)} {Q : St → Prop} {o : Oper} {ph : Bool}
theorem CC.nil_ (h : Q ⟨f, S.bx1, S.lv1, S.gen1⟩) : CC P C n S ops c Q [] i f true := ⟨f, fun _ => rfl, rfl, h⟩
theorem YA.of_pu {bx : List (Nat × List A)} {lv : List Nat} {gen : Nat} (hp : Pu P C n ⟨restr f (slotsOf op), bx, lv, gen⟩ ⟨some d, op, ty, pos, af, none⟩ a) (hd : Nat.blt d n = true) : YA P C n bx lv gen ops ⟨some d, op, ty, pos, af, none⟩ a (look f) :=
  ⟨hd, .inl ⟨rfl, _, fun t x hx => by
    obtain ⟨h1, h2⟩ := restr_look hx
    exact ⟨h1, List.mem_append.2 (.inl h2)⟩, hp⟩⟩
theorem ccPu_ (h1 : Pu P C n ⟨restr f (slotsOf op), S.bx1, S.lv1, S.gen1⟩ ⟨some d, op, ty, pos, af, none⟩ a) (h0 : Pu P C n ⟨restr f (slotsOf op), S.bx0, S.lv0, S.gen0⟩ ⟨some d, op, ty, pos, af, none⟩ a)
    (hi : ops[i]? = some ⟨some d, op, ty, pos, af, none⟩) (hc : Nat.beq i c = false) (b0 : behindB .any ops i c = false) (b1 : behindB .any ops c i = false) (hd : Nat.blt d n = true)
    (h : CC P C n S ops c Q rest (i + 1) ((d, a) :: f) ph) : CC P C n S ops c Q (⟨some d, op, ty, pos, af, none⟩ :: rest) i f ph := by
  have hic : i ≠ c := fun e => by subst e; simp at hc
  refine ⟨a, ⟨_, hi, hd, .inr ⟨hic, fun _ => YA.of_pu h0 hd, fun _ => YA.of_pu h1 hd, fun _ => b0, fun _ => b1⟩⟩, ?_⟩
  rw [efC_at hi]
  simp only [if_neg hic]
  unfold CC at h
  rw [look_put] at h
  exact h
theorem ccPu0_ (h0 : Pu P C n ⟨restr f (slotsOf op), S.bx0, S.lv0, S.gen0⟩ ⟨some d, op, ty, pos, af, none⟩ a)
    (hi : ops[i]? = some ⟨some d, op, ty, pos, af, none⟩) (hc : Nat.beq i c = false) (b0 : behindB .any ops i c = false) (b1 : behindB .any ops c i = true) (hd : Nat.blt d n = true)
    (h : CC P C n S ops c Q rest (i + 1) ((d, a) :: f) false) : CC P C n S ops c Q (⟨some d, op, ty, pos, af, none⟩ :: rest) i f false := by
  have hic : i ≠ c := fun e => by subst e; simp at hc
  refine ⟨a, ⟨_, hi, hd, .inr ⟨hic, fun _ => YA.of_pu h0 hd, (fun h => by rw [b1] at h; cases h), fun _ => b0, fun h => by cases h⟩⟩, ?_⟩
  rw [efC_at hi]
  simp only [if_neg hic]
  unfold CC at h
  rw [look_put] at h
  exact h
theorem ccPu1_ (h1 : Pu P C n ⟨restr f (slotsOf op), S.bx1, S.lv1, S.gen1⟩ ⟨some d, op, ty, pos, af, none⟩ a)
    (hi : ops[i]? = some ⟨some d, op, ty, pos, af, none⟩) (hc : Nat.beq i c = false) (b0 : behindB .any ops i c = true) (b1 : behindB .any ops c i = false) (hd : Nat.blt d n = true)
    (h : CC P C n S ops c Q rest (i + 1) ((d, a) :: f) true) : CC P C n S ops c Q (⟨some d, op, ty, pos, af, none⟩ :: rest) i f true := by
  have hic : i ≠ c := fun e => by subst e; simp at hc
  refine ⟨a, ⟨_, hi, hd, .inr ⟨hic, (fun h => by rw [b0] at h; cases h), fun _ => YA.of_pu h1 hd, (fun h => by cases h), fun _ => b1⟩⟩, ?_⟩
  rw [efC_at hi]
  simp only [if_neg hic]
  unfold CC at h
  rw [look_put] at h
  exact h
theorem ccX_ (hx : ∀ g, WO P C n ops (fun e st => e = .normal ∧ st = ⟨(d, a) :: (restr f (slotsOf op) ++ g), S.bx1, S.lv1, S.gen1⟩) [⟨some d, op, ty, pos, af, none⟩] ⟨restr f (slotsOf op) ++ g, S.bx0, S.lv0, S.gen0⟩)
    (hi : ops[i]? = some ⟨some d, op, ty, pos, af, none⟩) (hc : Nat.beq i c = true) (hd : Nat.blt d n = true) (h : CC P C n S ops c Q rest (i + 1) ((d, a) :: f) true) : CC P C n S ops c Q (⟨some d, op, ty, pos, af, none⟩ :: rest) i f false := by
  have hic : i = c := Nat.eq_of_beq_eq_true hc
  refine ⟨a, ⟨_, hi, hd, .inl ⟨hic, rfl, rfl, restr f (slotsOf op), fun t x hx => ?_, fun g => hx g⟩⟩, ?_⟩
  · obtain ⟨h1, h2⟩ := restr_look hx
    exact ⟨h1, List.mem_append.2 (.inl h2)⟩
  · rw [efC_at hi]
    simp only [if_pos hic]
    unfold CC at h
    rw [look_put] at h
    exact h
theorem ccX0_ (hx : ∀ g, WO P C n ops (fun e st => e = .normal ∧ st = ⟨restr f (slotsOf op) ++ g, S.bx1, S.lv1, S.gen1⟩) [⟨none, op, ty, pos, af, none⟩] ⟨restr f (slotsOf op) ++ g, S.bx0, S.lv0, S.gen0⟩)
    (hi : ops[i]? = some ⟨none, op, ty, pos, af, none⟩) (hc : Nat.beq i c = true) (h : CC P C n S ops c Q rest (i + 1) f true) : CC P C n S ops c Q (⟨none, op, ty, pos, af, none⟩ :: rest) i f false := by
  have hic : i = c := Nat.eq_of_beq_eq_true hc
  refine ⟨.any, ⟨_, hi, rfl, .inl ⟨hic, rfl, rfl, restr f (slotsOf op), fun t x hx => ?_, fun g => hx g⟩⟩, ?_⟩
  · obtain ⟨h1, h2⟩ := restr_look hx
    exact ⟨h1, List.mem_append.2 (.inl h2)⟩
  · rw [efC_at hi]
    simp only [if_pos hic]
    exact h
variable {bx0 bx1 : List (Nat × List A)} {lv0 lv1 : List Nat} {gen0 gen1 : Nat}
theorem CC.nil (h : Q ⟨f, bx1, lv1, gen1⟩) : CC P C n ⟨bx0, bx1, lv0, lv1, gen0, gen1⟩ ops c Q [] i f true :=
  CC.nil_ (S := ⟨bx0, bx1, lv0, lv1, gen0, gen1⟩) h
theorem ccPu (h1 : Pu P C n ⟨restr f (slotsOf op), bx1, lv1, gen1⟩ ⟨some d, op, ty, pos, af, none⟩ a) (h0 : Pu P C n ⟨restr f (slotsOf op), bx0, lv0, gen0⟩ ⟨some d, op, ty, pos, af, none⟩ a)
    (hi : ops[i]? = some ⟨some d, op, ty, pos, af, none⟩) (hc : Nat.beq i c = false) (b0 : behindB .any ops i c = false) (b1 : behindB .any ops c i = false) (hd : Nat.blt d n = true)
    (h : CC P C n ⟨bx0, bx1, lv0, lv1, gen0, gen1⟩ ops c Q rest (i + 1) ((d, a) :: f) ph) : CC P C n ⟨bx0, bx1, lv0, lv1, gen0, gen1⟩ ops c Q (⟨some d, op, ty, pos, af, none⟩ :: rest) i f ph :=
  ccPu_ (S := ⟨bx0, bx1, lv0, lv1, gen0, gen1⟩) h1 h0 hi hc b0 b1 hd h
theorem ccPu0 (h0 : Pu P C n ⟨restr f (slotsOf op), bx0, lv0, gen0⟩ ⟨some d, op, ty, pos, af, none⟩ a)
    (hi : ops[i]? = some ⟨some d, op, ty, pos, af, none⟩) (hc : Nat.beq i c = false) (b0 : behindB .any ops i c = false) (b1 : behindB .any ops c i = true) (hd : Nat.blt d n = true)
    (h : CC P C n ⟨bx0, bx1, lv0, lv1, gen0, gen1⟩ ops c Q rest (i + 1) ((d, a) :: f) false) : CC P C n ⟨bx0, bx1, lv0, lv1, gen0, gen1⟩ ops c Q (⟨some d, op, ty, pos, af, none⟩ :: rest) i f false :=
  ccPu0_ (S := ⟨bx0, bx1, lv0, lv1, gen0, gen1⟩) h0 hi hc b0 b1 hd h
theorem ccPu1 (h1 : Pu P C n ⟨restr f (slotsOf op), bx1, lv1, gen1⟩ ⟨some d, op, ty, pos, af, none⟩ a)
    (hi : ops[i]? = some ⟨some d, op, ty, pos, af, none⟩) (hc : Nat.beq i c = false) (b0 : behindB .any ops i c = true) (b1 : behindB .any ops c i = false) (hd : Nat.blt d n = true)
    (h : CC P C n ⟨bx0, bx1, lv0, lv1, gen0, gen1⟩ ops c Q rest (i + 1) ((d, a) :: f) true) : CC P C n ⟨bx0, bx1, lv0, lv1, gen0, gen1⟩ ops c Q (⟨some d, op, ty, pos, af, none⟩ :: rest) i f true :=
  ccPu1_ (S := ⟨bx0, bx1, lv0, lv1, gen0, gen1⟩) h1 hi hc b0 b1 hd h
theorem ccX (hx : ∀ g, WO P C n ops (fun e st => e = .normal ∧ st = ⟨(d, a) :: (restr f (slotsOf op) ++ g), bx1, lv1, gen1⟩) [⟨some d, op, ty, pos, af, none⟩] ⟨restr f (slotsOf op) ++ g, bx0, lv0, gen0⟩)
    (hi : ops[i]? = some ⟨some d, op, ty, pos, af, none⟩) (hc : Nat.beq i c = true) (hd : Nat.blt d n = true) (h : CC P C n ⟨bx0, bx1, lv0, lv1, gen0, gen1⟩ ops c Q rest (i + 1) ((d, a) :: f) true) : CC P C n ⟨bx0, bx1, lv0, lv1, gen0, gen1⟩ ops c Q (⟨some d, op, ty, pos, af, none⟩ :: rest) i f false :=
  ccX_ (S := ⟨bx0, bx1, lv0, lv1, gen0, gen1⟩) hx hi hc hd h
theorem ccX0 (hx : ∀ g, WO P C n ops (fun e st => e = .normal ∧ st = ⟨restr f (slotsOf op) ++ g, bx1, lv1, gen1⟩) [⟨none, op, ty, pos, af, none⟩] ⟨restr f (slotsOf op) ++ g, bx0, lv0, gen0⟩)
    (hi : ops[i]? = some ⟨none, op, ty, pos, af, none⟩) (hc : Nat.beq i c = true) (h : CC P C n ⟨bx0, bx1, lv0, lv1, gen0, gen1⟩ ops c Q rest (i + 1) f true) : CC P C n ⟨bx0, bx1, lv0, lv1, gen0, gen1⟩ ops c Q (⟨none, op, ty, pos, af, none⟩ :: rest) i f false :=
  ccX0_ (S := ⟨bx0, bx1, lv0, lv1, gen0, gen1⟩) hx hi hc h
end
end Go.Ab
namespace Go.Ab
open Go.RowKit
/-! ### whatever the states are: with paths in place of edges -/
section
variable {P : Program} {ops : Array Oper} {md : Region.Mode} {m : Nat} {S E : Type} {Y : Nat → E → S → Prop} {ef : Nat → E → S → S}
def loose (md : Region.Mode) (ops : Array Oper) (i j : Nat) : Prop := reachB md ops ops.size i j = false ∧ reachB md ops ops.size j i = false
theorem behindB_of {j i : Nat} {oj : Oper} {e : Edge} (hj : ops[j]? = some oj) (he : e ∈ oj.after) (hb : Region.binds md e = true) (h : e.on = i) : behindB md ops j i = true := by
  unfold behindB
  rw [hj]
  exact List.any_eq_true.2 ⟨e, by simpa using he, by simp [hb, h]⟩
theorem reach_behind {j i : Nat} (h : reachB md ops ops.size j i = false) (hj : j < ops.size) : behindB md ops j i = false := by
  cases q : ops.size with
  | zero => omega
  | succ k =>
    rw [q] at h
    simp only [reachB, Bool.or_eq_false_iff] at h
    exact h.1
theorem ready_loose {i j : Nat} {listed : Array Bool} (hc : Closed md ops listed) (hi : i ∈ Region.ready md ops listed) (hj : listed.getD j true = false) : reachB md ops ops.size i j = false := by
  obtain ⟨_, oi, hoi, hall⟩ := mem_ready.1 hi
  cases q : reachB md ops ops.size i j with
  | false => rfl
  | true =>
    have := reach_listed hc _ i j q fun o ho e he hb => by rw [hoi] at ho; cases ho; exact hall e he hb
    rw [unlisted hj] at this
    cases this
theorem wpG_firstR {Q : S → Prop} {i : Nat} {oi : Oper} {e : E} (hw : waitT md ops m = true) (him : i < m) (hi : ops[i]? = some oi) :
    ∀ (fuel : Nat) (listed : Array Bool) (σ : S), Closed md ops listed →
      (∀ j oj, ops[j]? = some oj → j ≠ i → j < m → listed.getD j true = false → reachB md ops ops.size j i = false → Swap Y ef i j) →
      i ∈ Region.ready md ops listed → Y i e σ → wpG Y ef m md ops Q fuel (listed.setIfInBounds i true) (ef i e σ) → wpG Y ef m md ops Q (fuel + 1) listed σ := by
  have unl : ∀ {listed : Array Bool}, i ∈ Region.ready md ops listed → listed.getD i false = false := fun hr => unlisted (mem_ready.1 hr).1
  intro fuel
  induction fuel with
  | zero =>
    intro listed σ hc _ hr hy H
    refine ⟨fun h => (by rw [h] at hr; cases hr), fun j hj => ?_⟩
    by_cases hji : j = i
    · subst hji; exact ⟨e, hy, H⟩
    · exfalso
      obtain ⟨⟨_, h1, h2⟩, _⟩ := H
      have hj1 := (mem_ready.1 hj).1
      by_cases hjm : j < m
      · have := h1 j hjm
        rw [getD_set_ne false (Ne.symm hji)] at this
        rw [unlisted hj1] at this
        cases this
      · have := waitsT hw (by omega) (show i < j by omega) hc hj
        rw [unl hr] at this
        cases this
  | succ fuel ih =>
    intro listed σ hc hfree hr hy H
    refine ⟨fun h => (by rw [h] at hr; cases hr), fun j hj => ?_⟩
    by_cases hji : j = i
    · subst hji; exact ⟨e, hy, H⟩
    · obtain ⟨e', hy', H'⟩ := H.2 j (ready_mono hj hji)
      obtain ⟨hjun, oj, hoj, hall⟩ := mem_ready.1 hj
      have hnot : reachB md ops ops.size j i = false := ready_loose hc hj (mem_ready.1 hr).1
      have hjm : j < m := by
        rcases Nat.lt_or_ge j m with h | h
        · exact h
        · have := waitsT hw h (show i < j by omega) hc hj
          rw [unl hr] at this
          cases this
      obtain ⟨s1, s2, s3⟩ := hfree j oj hoj hji hjm hjun hnot e e' σ hy hy'
      have hfree' : ∀ k ok, ops[k]? = some ok → k ≠ i → k < m → (listed.setIfInBounds j true).getD k true = false → reachB md ops ops.size k i = false → Swap Y ef i k := fun k ok hk hki hkm hun hno => by
        refine hfree k ok hk hki hkm ?_ hno
        by_cases hjk : j = k
        · subst hjk; exact hjun
        · rw [getD_set_ne true hjk] at hun; exact hun
      refine ⟨e', s1, ih (listed.setIfInBounds j true) _ (hc.add hj) hfree' (ready_mono hr (Ne.symm hji)) s2 ?_⟩
      rw [Array.setIfInBounds_comm _ _ hji, ← s3]
      exact H'
theorem wpG_lexR {Q : S → Prop} (hw : waitT md ops m = true)
    (hsw : ∀ i j oi oj, ops[i]? = some oi → ops[j]? = some oj → i ≠ j → i < m → j < m → oi.apart ops oj = true → loose md ops i j → Swap Y ef i j) :
    ∀ (l : List Oper) (k : Nat) (listed : Array Bool) (σ : S), k + l.length = m → (∀ j, j < l.length → l[j]? = ops[k + j]?) → Closed md ops listed →
    listed.size = ops.size → (∀ j, j < k → listed.getD j false = true) → (∀ j, k ≤ j → j < ops.size → listed.getD j true = false) →
    lexE md ops l.length k listed = true → ceG Y ef Q l k σ → wpG Y ef m md ops Q l.length listed σ
  | [], k, listed, σ, hk, _, _, hs, h1, h2, _, h => ⟨⟨hs, fun j hj => h1 j (by simp at hk; omega), fun j hj hj' => h2 j (by simp at hk; omega) hj'⟩, h⟩
  | o :: l, k, listed, σ, hk, hl, hc, hs, h1, h2, hB, h => by
    have h0 : ops[k]? = some o := by simpa using (hl 0 (by simp)).symm
    have hks : k < ops.size := (Array.getElem?_eq_some_iff.1 h0).1
    simp only [List.length_cons, lexE, Bool.and_eq_true] at hB
    obtain ⟨⟨hr, hf⟩, hB'⟩ := hB
    have hr' : k ∈ Region.ready md ops listed := by simpa using hr
    obtain ⟨e, hy, hK⟩ := h
    have hkm : k < m := by simp at hk; omega
    refine wpG_firstR hw hkm h0 l.length listed σ hc (fun j oj hoj hjk hjm hun hno => hsw k j o oj h0 hoj (Ne.symm hjk) hkm hjm (Region.free_spec h0 hf j oj hoj hjk hun fun e he hb heq => ?_) ⟨ready_loose hc hr' hun, hno⟩) hr' hy
      (wpG_lexR hw hsw l (k + 1) _ _ (by simp at hk; omega) (fun j hj => by have := hl (j + 1) (by simpa using hj); simpa [Nat.add_assoc, Nat.add_comm 1 j] using this) (hc.add hr') (by simpa using hs) (fun j hj => ?_) (fun j hj hj' => ?_) hB' hK)
    · have h3 := reach_behind hno (Array.getElem?_eq_some_iff.1 hoj).1
      rw [behindB_of hoj he hb heq] at h3
      cases h3
    · rcases Nat.lt_succ_iff_lt_or_eq.1 hj with hlt | rfl
      · exact getD_set_true (h1 j hlt)
      · simp [hs, hks]
    · rw [getD_set_ne true (by omega)]
      exact h2 j (by omega) hj'
end
/-! ### what a renumbering leaves as it is -/
mutual
theorem ren_fix {o o' : List Nat} (h : ∀ g, pos o g = some g → pos o' g = some g) : ∀ a, ren o a = a → ren o' a = a
  | .own g es, e => by
    simp only [ren] at e ⊢
    cases q : pos o g with
    | none => rw [q] at e; cases e
    | some i =>
      rw [q] at e
      simp only [A.own.injEq, and_true] at e
      subst e
      rw [h _ q]
  | .ptr g off, e => by
    simp only [ren] at e ⊢
    cases q : pos o g with
    | none => rw [q] at e; cases e
    | some i =>
      rw [q] at e
      simp only [A.ptr.injEq, and_true] at e
      subst e
      rw [h _ q]
  | .xs g es, e => by
    simp only [ren] at e ⊢
    cases q : pos o g with
    | none => rw [q] at e; cases e
    | some i =>
      rw [q] at e
      simp only [A.xs.injEq, and_true] at e
      subst e
      rw [h _ q]
  | .xp g i off l, e => by
    simp only [ren] at e ⊢
    cases q : pos o g with
    | none => rw [q] at e; cases e
    | some j =>
      rw [q] at e
      simp only [A.xp.injEq, and_true] at e
      subst e
      rw [h _ q]
  | .mp g es, e => by
    simp only [ren] at e ⊢
    cases q : pos o g with
    | none => rw [q] at e; cases e
    | some i =>
      rw [q] at e
      simp only [A.mp.injEq, and_true] at e
      subst e
      rw [h _ q]
  | .sb g n c, e => by
    simp only [ren] at e ⊢
    cases q : pos o g with
    | none => rw [q] at e; cases e
    | some i =>
      rw [q] at e
      simp only [A.sb.injEq, and_true] at e
      subst e
      rw [h _ q]
  | .np g T u, e => by
    simp only [ren] at e ⊢
    cases q : pos o g with
    | none => rw [q] at e; cases e
    | some i =>
      rw [q] at e
      simp only [A.np.injEq, and_true] at e
      subst e
      rw [h _ q]
  | .bf g T s, e => by
    simp only [ren] at e ⊢
    cases q : pos o g with
    | none => rw [q] at e; cases e
    | some i =>
      rw [q] at e
      simp only [A.bf.injEq, and_true] at e
      subst e
      rw [h _ q]
  | .agg l, e => by simp only [ren, A.agg.injEq] at e ⊢; exact renL_fix h l e
  | .tup l, e => by simp only [ren, A.tup.injEq] at e ⊢; exact renL_fix h l e
  | .row l, e => by simp only [ren, A.row.injEq] at e ⊢; exact renL_fix h l e
  | .clo f l, e => by simp only [ren, A.clo.injEq, true_and] at e ⊢; exact renL_fix h l e
  | .bnd f l, e => by simp only [ren, A.bnd.injEq, true_and] at e ⊢; exact renL_fix h l e
  | .d _, _ => rfl
  | .ag _, _ => rfl
  | .rowd _, _ => rfl
  | .ni, _ => rfl
  | .fl _, _ => rfl
  | .any, _ => rfl
theorem renL_fix {o o' : List Nat} (h : ∀ g, pos o g = some g → pos o' g = some g) : ∀ l, renL o l = l → renL o' l = l
  | [], _ => rfl
  | a :: l, e => by
    simp only [renL, List.cons.injEq] at e ⊢
    exact ⟨ren_fix h a e.1, renL_fix h l e.2⟩
end
def monoB (o o' : List Nat) : Bool := (List.range o.length).all fun g => !(pos o g == some g) || pos o' g == some g
theorem monoB_spec {o o' : List Nat} (h : monoB o o' = true) (g : Nat) (hg : pos o g = some g) : pos o' g = some g := by
  have hlt := (List.getElem?_eq_some_iff.1 (pos_some hg)).1
  have := List.all_eq_true.1 h g (List.mem_range.2 hlt)
  simp only [hg, beq_self_eq_true, Bool.not_true, Bool.false_or, beq_iff_eq] at this
  exact this
end Go.Ab
namespace Go.Ab
open Go.RowKit
def nilT : D → D
  | .v x => bif isNil (.d (.v x)) then .sl [] else .v x
  | .sl es => .sl es
theorem RepD.nilT {w : World} {pv : Nat → Nat → Prop} {v : Value} {d : D} (h : RepD w pv v d) : RepD w pv v (Ab.nilT d) := by
  cases d with
  | v x => exact h.nilD
  | sl es => exact h
def nilB : A → A
  | .d x => .d (nilT x)
  | .ag l => .ag (l.map nilT)
  | a => a
theorem Rep.nilB {E : En} {v : Value} {a : A} (h : Rep E v a) : Rep E v (Ab.nilB a) := by
  cases a with
  | d x => cases h with | d hd => exact .d hd.nilT
  | ag l =>
    cases h with
    | ag vs _ hs hd =>
      refine .ag vs _ (by simpa using hs) (fun i u x hu hx => ?_)
      rw [List.getElem?_map, Option.map_eq_some_iff] at hx
      obtain ⟨y, hy, rfl⟩ := hx
      exact (hd i u y hu hy).nilT
  | _ => exact h
section
variable {P : Program} {C : Ctx} {n : Nat} {ops : Array Oper} {Q : Exit → St → Prop} {f : List (Nat × A)} {bx : List (Nat × List A)} {lv : List Nat} {gen : Nat}
theorem nilS (s : Nat) {a a' : A} {l : List Oper} (hl : look f s = some a) (hsn : Nat.blt s n = true) (ha : Ab.nilB a = a') (h : WO P C n ops Q l ⟨(s, a') :: f, bx, lv, gen⟩) : WO P C n ops Q l ⟨f, bx, lv, gen⟩ := by
  subst ha
  intro tmps w ⟨G, hs⟩
  obtain ⟨v, hv, hr⟩ := hs.frame s _ hl
  refine h tmps w ⟨G, ?_⟩
  have := hs.set (d := s) (Nat.le_of_ble_eq_true hsn) hr.nilB
  rwa [set_same hv] at this
end
end Go.Ab
namespace Go.Ab
open Go.RowKit
structure ParD where
  bxF : Nat → List (Nat × List A)
  bxT : Nat → List (Nat × List A)
  lv : Nat → List Nat
  gen : Nat → Nat
  ord : Nat → List Nat
  g0 : Nat
  z : List A
  cs : List Nat
  al : Nat
  R : List PanicEntry → Prop
def ParD.bx (S : ParD) (k : Nat) (b : Bool) : List (Nat × List A) := bif b then S.bxT k else S.bxF k
abbrev parL (bxs : List (List (Nat × List A))) (lvs : List (List Nat)) (gens : List Nat) (cs : List Nat) (al : Nat) : ParD := ⟨fun _ => [], fun k => bxs.getD k [], fun k => lvs.getD k [], fun k => gens.getD k 0, fun _ => [], 0, [], cs, al, fun _ => False⟩
abbrev parP (bxs : List (List (Nat × List A))) (lvs : List (List Nat)) (gens : List Nat) (cs : List Nat) (al : Nat) (v : Value) : ParD := ⟨fun _ => [], fun k => bxs.getD k [], fun k => lvs.getD k [], fun k => gens.getD k 0, fun _ => [], 0, [], cs, al, fun c => c = [{ v := v, recovered := false }]⟩
def alw (S : ParD) (ops : Array Oper) (i k : Nat) (b : Bool) : Bool :=
  ((List.range S.cs.length).all fun j => bif Nat.blt j k then !reachB .any ops ops.size (S.cs.getD j 0) i else !reachB .any ops ops.size i (S.cs.getD j 0)) &&
  (bif b then !reachB .any ops ops.size S.al i else (Nat.blt S.al ops.size && !reachB .any ops ops.size i S.al))
theorem Pu.nilB {P : Program} {C : Ctx} {n : Nat} {st : St} {o : Oper} {a a' : A} (h : Pu P C n st o a) (e : Ab.nilB a = a') : Pu P C n st o a' := fun G tmps w hs => by
  subst e
  exact (h G tmps w hs).mono fun v w' ⟨h1, h2⟩ => ⟨h1, h2.nilB⟩
theorem alwNo {S : ParD} {ops : Array Oper} {i k : Nat} {b : Bool} (h : alw S ops i k b = true) (h' : alw S ops i k b = false) : False := by rw [h] at h'; cases h'
section
variable {P : Program} (T : Tab P) {C : Ctx} {n : Nat} (S : ParD) {ops : Array Oper}
abbrev SD := Fr' × Nat × Bool
def SmD (C : Ctx) (n : Nat) (S : ParD) (b0 : Bool) (σ : SD) (act : Act) (w : World) : Prop :=
  (b0 = true → σ.2.2 = true) ∧ act.defers = C.ds ∧ ∃ G, SimF C n (S.bx σ.2.1 σ.2.2) (S.lv σ.2.1) (S.gen σ.2.1) σ.1 G act.tmps w ∧ (σ.2.2 = false → ∀ t a, σ.1 t = some a → ren (S.ord σ.2.1) a = a)
def XEd (P : Program) (C : Ctx) (n : Nat) (S : ParD) (ops : Array Oper) (o : Oper) (a : A) (k : Nat) (b : Bool) (φ : Fr') : Prop :=
  o.guard = none ∧ ∃ p, (∀ t x, look p t = some x → φ t = some x ∧ t ∈ o.looksAt ops) ∧
    ∀ g, WO P C n ops (fun e st => (e = .normal ∧ st = St.put ⟨p ++ g, S.bx (k + 1) b, S.lv (k + 1), S.gen (k + 1)⟩ o.dst a) ∨ ∃ c, e = .panic c ∧ S.R c) [o] ⟨p ++ g, S.bx k b, S.lv k, S.gen k⟩
def YD (P : Program) (T : Tab P) (C : Ctx) (n : Nat) (S : ParD) (ops : Array Oper) (i : Nat) (a : A) (σ : SD) : Prop :=
  ∃ o, ops[i]? = some o ∧ dstOK n o.dst = true ∧ σ.2.1 ≤ S.cs.length ∧ alw S ops i σ.2.1 σ.2.2 = true ∧
    ((S.cs[σ.2.1]? = some i ∧ i ≠ S.al ∧ (∀ b, alw S ops i σ.2.1 b = true → XEd P C n S ops o a σ.2.1 b σ.1) ∧ (alw S ops i σ.2.1 false = true → ren (S.ord (σ.2.1 + 1)) a = a)) ∨
     (i ∉ S.cs ∧ i = S.al ∧ σ.2.2 = false ∧ o.guard = none ∧ a = .ptr S.g0 0 ∧ ∃ e d dt, o.op = .alloc e ∧ o.dst = some d ∧ look' T.l e = some dt ∧ S.z = dt.z.map fun v => A.d (.v v)) ∨
     (i ∉ S.cs ∧ i ≠ S.al ∧ ∀ k b, k ≤ S.cs.length → alw S ops i k b = true → YA P C n (S.bx k b) (S.lv k) (S.gen k) ops o a σ.1 ∧ (b = false → ren (S.ord k) a = a)))
def efD (S : ParD) (ops : Array Oper) (i : Nat) (a : A) (σ : SD) : SD :=
  match ops[i]? with
  | none => σ
  | some o => (putF σ.1 o.dst a, (if S.cs[σ.2.1]? = some i then σ.2.1 + 1 else σ.2.1), if i = S.al then true else σ.2.2)
variable {T} {S}
theorem XEd_put {o : Oper} {a : A} {k : Nat} {b : Bool} {φ : Fr'} {dst : Option Nat} {x : A} (hd : ∀ d, dst = some d → d ∉ o.looksAt ops) : XEd P C n S ops o a k b (putF φ dst x) ↔ XEd P C n S ops o a k b φ := by
  constructor
  · rintro ⟨h0, p, h1, h2⟩
    exact ⟨h0, p, fun t y hy => ⟨(putF_key hd (h1 t y hy).2).symm.trans (h1 t y hy).1, (h1 t y hy).2⟩, h2⟩
  · rintro ⟨h0, p, h1, h2⟩
    exact ⟨h0, p, fun t y hy => ⟨(putF_key hd (h1 t y hy).2).trans (h1 t y hy).1, (h1 t y hy).2⟩, h2⟩
theorem alw_step {i k c : Nat} {b : Bool} (h : S.cs[k]? = some c) (hl : loose .any ops i c) : alw S ops i (k + 1) b = alw S ops i k b := by
  unfold alw
  congr 1
  rw [Bool.eq_iff_iff, List.all_eq_true, List.all_eq_true]
  have hk : S.cs.getD k 0 = c := by simp [List.getD_eq_getElem?_getD, h]
  have key : ∀ j, (bif Nat.blt j (k + 1) then !reachB .any ops ops.size (S.cs.getD j 0) i else !reachB .any ops ops.size i (S.cs.getD j 0)) = (bif Nat.blt j k then !reachB .any ops ops.size (S.cs.getD j 0) i else !reachB .any ops ops.size i (S.cs.getD j 0)) := fun j => by
    rcases Nat.lt_trichotomy j k with hj | rfl | hj
    · have h1 : Nat.blt j (k + 1) = true := by simp [Nat.blt_eq]; omega
      have h2 : Nat.blt j k = true := by simp [Nat.blt_eq]; omega
      rw [h1, h2]
    · have h1 : Nat.blt j (j + 1) = true := by simp [Nat.blt_eq]
      have h2 : Nat.blt j j = false := by cases q : Nat.blt j j with | false => rfl | true => simp [Nat.blt_eq] at q
      rw [h1, h2, hk, hl.1, hl.2]
      rfl
    · have h1 : Nat.blt j (k + 1) = false := by cases q : Nat.blt j (k + 1) with | false => rfl | true => simp [Nat.blt_eq] at q; omega
      have h2 : Nat.blt j k = false := by cases q : Nat.blt j k with | false => rfl | true => simp [Nat.blt_eq] at q; omega
      rw [h1, h2]
  exact ⟨fun h j hj => by rw [← key]; exact h j hj, fun h j hj => by rw [key]; exact h j hj⟩
theorem alw_al {i k : Nat} (hlt : S.al < ops.size) (hl : loose .any ops i S.al) : alw S ops i k true = alw S ops i k false := by
  unfold alw
  have h : Nat.blt S.al ops.size = true := by rw [Nat.blt_eq]; exact hlt
  rw [hl.1, hl.2, h]
  rfl
theorem loose.symm {md : Region.Mode} {i j : Nat} (h : loose md ops i j) : loose md ops j i := ⟨h.2, h.1⟩
theorem efD_at {i : Nat} {o : Oper} (h : ops[i]? = some o) (a : A) (σ : SD) : efD S ops i a σ = (putF σ.1 o.dst a, (if S.cs[σ.2.1]? = some i then σ.2.1 + 1 else σ.2.1), if i = S.al then true else σ.2.2) := by unfold efD; rw [h]
theorem alw_pull {i k c : Nat} {b : Bool} (h : S.cs[k]? = some c) (hl : loose .any ops i c) (ha : alw S ops i (k + 1) b = true) : alw S ops i k b = true := by rw [← alw_step h hl]; exact ha
theorem alw_push {i k c : Nat} {b : Bool} (h : S.cs[k]? = some c) (hl : loose .any ops i c) (ha : alw S ops i k b = true) : alw S ops i (k + 1) b = true := by rw [alw_step h hl]; exact ha
theorem swapD (hch : ∀ k c c', S.cs[k]? = some c → S.cs[k + 1]? = some c' → reachB .any ops ops.size c' c = true) {i j : Nat} {oi oj : Oper} (hi : ops[i]? = some oi) (hj : ops[j]? = some oj) (hij : i ≠ j) (hap : oi.apart ops oj = true) (hl : loose .any ops i j) :
    Swap (YD P T C n S ops) (efD S ops) i j := by
  obtain ⟨a1, a2, a3⟩ := Oper.apart_spec hap
  rintro a b ⟨φ, k, ph⟩ ⟨oi', hi', di, hk, ai, hyi⟩ ⟨oj', hj', dj, hk2, aj, hyj⟩
  rw [hi] at hi'
  cases hi'
  rw [hj] at hj'
  cases hj'
  have hcomm : putF (putF φ oi.dst a) oj.dst b = putF (putF φ oj.dst b) oi.dst a := putF_comm φ a b a2
  have mem_of : ∀ {k c : Nat}, S.cs[k]? = some c → c ∈ S.cs := fun h => List.mem_of_getElem? h
  have klt : ∀ {k c : Nat}, S.cs[k]? = some c → k + 1 ≤ S.cs.length := fun h => (List.getElem?_eq_some_iff.1 h).1
  rw [efD_at hi] at aj hyj hk2
  simp only [efD_at hi, efD_at hj]
  simp only at hk ai hyi hk2 aj hyj
  rcases hyi with ⟨ci, nai, xi, fi⟩ | ⟨nci, ali, rfl, gi, ei, hi6⟩ | ⟨nci, nai, yi⟩
  · -- i is of the chain
    simp only [if_pos ci, if_neg nai] at aj hyj hk2
    rcases hyj with ⟨cj, _⟩ | ⟨ncj, alj, rfl, gj, ej, hj6⟩ | ⟨ncj, naj, yj⟩
    · exact absurd (hch k i j ci cj) (by rw [hl.2]; simp)
    · have hsi : loose .any ops i S.al := by rw [← alj]; exact hl
      have hlt : S.al < ops.size := by rw [← alj]; exact (Array.getElem?_eq_some_iff.1 hj).1
      have n1 : ¬ S.cs[k]? = some j := fun h => ncj (mem_of h)
      refine ⟨⟨oj, hj, dj, hk, alw_pull ci hl.symm aj, .inr (.inl ⟨ncj, alj, rfl, gj, ej, hj6⟩)⟩, ?_, ?_⟩
      · refine ⟨oi, hi, di, ?_, ?_, .inl ⟨?_, nai, fun b hb => (XEd_put a3).2 ?_, ?_⟩⟩
        all_goals simp only [if_neg n1]
        · exact hk
        · rw [if_pos alj, alw_al hlt hsi]; exact ai
        · exact ci
        · simp only [if_neg n1] at hb
          exact xi b hb
        · exact fi
      · simp only [if_pos ci, if_neg nai, if_pos alj, if_neg n1, hcomm]
        have n2 : ¬ S.cs[k + 1]? = some j := fun h => ncj (mem_of h)
        rw [if_neg n2]
    · have n1 : ¬ S.cs[k]? = some j := fun h => ncj (mem_of h)
      have n2 : ¬ S.cs[k + 1]? = some j := fun h => ncj (mem_of h)
      refine ⟨⟨oj, hj, dj, hk, alw_pull ci hl.symm aj, .inr (.inr ⟨ncj, naj, fun k b h1 h2 => ⟨(YA_put a1).1 (yj k b h1 h2).1, (yj k b h1 h2).2⟩⟩)⟩, ?_, ?_⟩
      · refine ⟨oi, hi, di, ?_, ?_, .inl ⟨?_, nai, fun b hb => (XEd_put a3).2 ?_, ?_⟩⟩
        all_goals simp only [if_neg n1]
        · exact hk
        · rw [if_neg naj]; exact ai
        · exact ci
        · simp only [if_neg n1] at hb
          exact xi b hb
        · exact fi
      · simp only [if_pos ci, if_neg nai, if_neg naj, if_neg n1, if_neg n2, hcomm]
  · -- i is the allocation
    have n1 : ¬ S.cs[k]? = some i := fun h => nci (mem_of h)
    simp only [if_neg n1, if_pos ali] at aj hyj hk2
    have hsj : loose .any ops j S.al := by rw [← ali]; exact hl.symm
    have hlt : S.al < ops.size := by rw [← ali]; exact (Array.getElem?_eq_some_iff.1 hi).1
    rcases hyj with ⟨cj, naj, xj, fj⟩ | ⟨_, alj, h, _⟩ | ⟨ncj, naj, yj⟩
    · have n2 : ¬ S.cs[k + 1]? = some i := fun h => nci (mem_of h)
      refine ⟨⟨oj, hj, dj, hk, by rw [← alw_al hlt hsj]; exact aj, .inl ⟨cj, naj, fun b hb => (XEd_put a1).1 (xj b hb), fj⟩⟩, ?_, ?_⟩
      · refine ⟨oi, hi, di, ?_, ?_, .inr (.inl ⟨nci, ali, ?_, gi, ei, hi6⟩)⟩
        all_goals simp only [if_pos cj, if_neg naj]
        · exact klt cj
        · exact alw_push cj hl ai
      · simp only [if_neg n1, if_pos ali, if_pos cj, if_neg naj, if_neg n2, hcomm]
    · exact absurd (ali.trans alj.symm) hij
    · have n3 : ¬ S.cs[k]? = some j := fun h => ncj (mem_of h)
      refine ⟨⟨oj, hj, dj, hk, by rw [← alw_al hlt hsj]; exact aj, .inr (.inr ⟨ncj, naj, fun k b h1 h2 => ⟨(YA_put a1).1 (yj k b h1 h2).1, (yj k b h1 h2).2⟩⟩)⟩, ?_, ?_⟩
      · refine ⟨oi, hi, di, ?_, ?_, .inr (.inl ⟨nci, ali, ?_, gi, ei, hi6⟩)⟩
        all_goals simp only [if_neg n3, if_neg naj]
        · exact hk
        · exact ai
      · simp only [if_neg n1, if_pos ali, if_neg n3, if_neg naj, hcomm]
  · -- i leaves the ghost
    have n1 : ¬ S.cs[k]? = some i := fun h => nci (mem_of h)
    simp only [if_neg n1, if_neg nai] at aj hyj hk2
    rcases hyj with ⟨cj, naj, xj, fj⟩ | ⟨ncj, alj, rfl, gj, ej, hj6⟩ | ⟨ncj, naj, yj⟩
    · have n2 : ¬ S.cs[k + 1]? = some i := fun h => nci (mem_of h)
      refine ⟨⟨oj, hj, dj, hk, aj, .inl ⟨cj, naj, fun b hb => (XEd_put a1).1 (xj b hb), fj⟩⟩, ?_, ?_⟩
      · refine ⟨oi, hi, di, ?_, ?_, .inr (.inr ⟨nci, nai, fun k b h1 h2 => ⟨(YA_put a3).2 (yi k b h1 h2).1, (yi k b h1 h2).2⟩⟩)⟩
        all_goals simp only [if_pos cj, if_neg naj]
        · exact klt cj
        · exact alw_push cj hl ai
      · simp only [if_neg n1, if_neg nai, if_pos cj, if_neg naj, if_neg n2, hcomm]
    · have n3 : ¬ S.cs[k]? = some j := fun h => ncj (mem_of h)
      have hsi : loose .any ops i S.al := by rw [← alj]; exact hl
      have hlt : S.al < ops.size := by rw [← alj]; exact (Array.getElem?_eq_some_iff.1 hj).1
      refine ⟨⟨oj, hj, dj, hk, aj, .inr (.inl ⟨ncj, alj, rfl, gj, ej, hj6⟩)⟩, ?_, ?_⟩
      · refine ⟨oi, hi, di, ?_, ?_, .inr (.inr ⟨nci, nai, fun k b h1 h2 => ⟨(YA_put a3).2 (yi k b h1 h2).1, (yi k b h1 h2).2⟩⟩)⟩
        all_goals simp only [if_neg n3, if_pos alj]
        · exact hk
        · rw [alw_al hlt hsi]; exact ai
      · simp only [if_neg n1, if_neg nai, if_neg n3, if_pos alj, hcomm]
    · have n3 : ¬ S.cs[k]? = some j := fun h => ncj (mem_of h)
      refine ⟨⟨oj, hj, dj, hk, aj, .inr (.inr ⟨ncj, naj, fun k b h1 h2 => ⟨(YA_put a1).1 (yj k b h1 h2).1, (yj k b h1 h2).2⟩⟩)⟩, ?_, ?_⟩
      · refine ⟨oi, hi, di, ?_, ?_, .inr (.inr ⟨nci, nai, fun k b h1 h2 => ⟨(YA_put a3).2 (yi k b h1 h2).1, (yi k b h1 h2).2⟩⟩)⟩
        all_goals simp only [if_neg n3, if_neg naj]
        · exact hk
        · exact ai
      · simp only [if_neg n1, if_neg nai, if_neg n3, if_neg naj, hcomm]
theorem WO.mono1 {o : Oper} (hg : o.guard = none) {st : St} {Q1 Q2 : Exit → St → Prop} (hl : ∀ e st, Q1 e st → e ≠ .outgrown) (hq : ∀ e st, Q1 e st → Q2 e st) (h : WO P C n ops Q1 [o] st) : WO P C n ops Q2 [o] st := by
  intro tmps w hs
  have hw : Region.wanted o (yielded ops tmps) = true := by simp [Region.wanted, hg]
  have h := h tmps w hs
  simp only [wpL, hw, if_true] at h ⊢
  refine Oper.wp_either (fun c a w ⟨h1, st', h2, h3⟩ => ⟨h1, st', h2, hq _ _ h3⟩) (fun hlo => by obtain ⟨_, _, hq0⟩ := hlo; obtain ⟨_, st', _, he⟩ := hq0; exact hl _ _ he rfl) (fun act2 w2 ⟨h1, st', h2, h3⟩ => ⟨h1, st', h2, hq _ _ h3⟩) h
theorem WO.one_ {o : Oper} (hg : o.guard = none) {st st1 : St} {G : Gh} {tmps : Array Value} {w : World} {R : List PanicEntry → Prop} {Q' : Exit → Act → World → Prop} (hR : ∀ c act w, R c → act.defers = C.ds → (∃ st, Sim C n st act.tmps w) → Q' (.panic c) act w) (h : WO P C n ops (fun e st => (e = .normal ∧ st = st1) ∨ ∃ c, e = .panic c ∧ R c) [o] st) (hs : SimG C n st G tmps w) :
    o.wp P ⟨tmps, C.ds⟩ w (fun act w => act.defers = C.ds ∧ ∃ G, SimG C n st1 G act.tmps w) Q' := by
  have hw : Region.wanted o (yielded ops tmps) = true := by simp [Region.wanted, hg]
  have h := h tmps w ⟨G, hs⟩
  simp only [wpL, hw, if_true] at h
  refine Oper.wp_either (fun c a w hq => ?_) (fun hl => ?_) (fun act2 w2 hq => ?_) h
  · obtain ⟨h1, st', h2, he | ⟨c', he, hc⟩⟩ := hq
    · cases he.1
    · cases he
      exact hR c a w hc h1 ⟨st', h2⟩
  · obtain ⟨_, _, hq⟩ := hl
    obtain ⟨_, st', _, he | ⟨c', he, hc⟩⟩ := hq
    · cases he.1
    · cases he
  · obtain ⟨hdf, st', ⟨G', hs2⟩, he | ⟨c', he, hc⟩⟩ := hq
    · obtain ⟨_, rfl⟩ := he
      exact ⟨hdf, G', hs2⟩
    · cases he
theorem simF_lt {bx : List (Nat × List A)} {lv : List Nat} {gen : Nat} {φ : Fr'} {G : Gh} {tmps : Array Value} {w : World} (hs : SimF C n bx lv gen φ G tmps w) (t : Nat) (x : A) (hx : φ t = some x) : t < n := by
  obtain ⟨v, h1, _⟩ := hs.2 t x hx
  have := (Array.getElem?_eq_some_iff.1 h1).1
  rw [hs.1.size] at this
  exact this
theorem look_all {φ : Fr'} {p : List (Nat × A)} (hlt : ∀ t x, φ t = some x → t < n) (hp : ∀ t x, look p t = some x → φ t = some x) (t : Nat) : look (p ++ fallF n φ) t = φ t := by
  rw [look_app]
  cases q : look p t with
  | some x => exact (hp t x q).symm
  | none =>
    simp only
    unfold fallF
    rw [look_fall]
    cases e : φ t with
    | none => split <;> rfl
    | some x => rw [if_pos (List.mem_range.2 (hlt t x e))]
theorem putF_look {φ : Fr'} {f : List (Nat × A)} (h : ∀ t, look f t = φ t) {d : Nat} {a : A} {t : Nat} : look ((d, a) :: f) t = putF φ (some d) a t := by
  rw [look_cons]
  simp only [putF]
  by_cases e : t = d
  · subst e
    rw [if_pos rfl, if_pos rfl]
  · rw [if_neg e, if_neg (Ne.symm e), h]
def okD1 (S : ParD) (nb k : Nat) : Prop := (orderB (S.ord k) (S.gen k) nb = true ∧ pos (S.ord k) (S.gen k) = some S.g0) ∧ SubBR (S.ord k) ((S.gen k, S.z) :: S.bxF k) (S.bxT k) ∧ lvR (S.ord k) (S.lv k) (S.lv k) = true
def okD (S : ParD) (nb : Nat) : Nat → Prop
  | 0 => okD1 S nb 0
  | k + 1 => okD1 S nb (k + 1) ∧ monoB (S.ord k) (S.ord (k + 1)) = true ∧ okD S nb k
theorem okD.at {nb : Nat} : ∀ {m : Nat}, okD S nb m → ∀ k, k ≤ m → okD1 S nb k
  | 0, h, k, hk => by obtain rfl : k = 0 := by omega
                      exact h
  | m + 1, h, k, hk => by
    rcases Nat.lt_or_ge k (m + 1) with hlt | hge
    · exact okD.at h.2.2 k (by omega)
    · obtain rfl : k = m + 1 := by omega
      exact h.1
theorem okD.mono {nb : Nat} : ∀ {m : Nat}, okD S nb m → ∀ k, k < m → monoB (S.ord k) (S.ord (k + 1)) = true
  | 0, _, k, hk => absurd hk (Nat.not_lt_zero _)
  | m + 1, h, k, hk => by
    rcases Nat.lt_or_ge k m with hlt | hge
    · exact okD.mono h.2.2 k hlt
    · obtain rfl : k = m := by omega
      exact h.2.1
theorem soundD {nb : Nat} [hnb : NB C nb] (b0 : Bool) (hok : b0 = false → okD S nb S.cs.length) (i : Nat) (a : A) (σ : SD) (act : Act) (w : World) (K : Act → World → Prop) {Q' : Exit → Act → World → Prop} (hR : ∀ c act w, S.R c → act.defers = C.ds → (∃ st, Sim C n st act.tmps w) → Q' (.panic c) act w) (hs : SmD C n S b0 σ act w) (hy : YD P T C n S ops i a σ) (hK : ∀ act w, SmD C n S b0 (efD S ops i a σ) act w → K act w) : wpOp P ops Q' i K act w := by
  obtain ⟨tmps, dfs⟩ := act
  obtain ⟨hb0, rfl, G, hs, hfix⟩ := hs
  obtain ⟨φ, k, ph⟩ := σ
  obtain ⟨o, ho, hd, hkl, hal, hy⟩ := hy
  rw [efD_at ho] at hK
  simp only at hs hfix hkl hal hy hK hb0
  unfold wpOp
  simp only [ho]
  rcases hy with ⟨hc, nal, hx, hr⟩ | ⟨nc, hal', rfl, hg, rfl, e, d, dt, hop, hdst, he, hz⟩ | ⟨nc, nal, hya⟩
  · obtain ⟨hg, p, hp, hx⟩ := hx ph hal
    rw [if_pos hc, if_neg nal] at hK
    have hw : Region.wanted o (yielded ops tmps) = true := by simp [Region.wanted, hg]
    rw [hw, if_pos rfl]
    refine .inl ?_
    have hlook := look_all (simF_lt hs) (fun t x hx => (hp t x hx).1)
    have hs' := hs.toG (f := p ++ fallF n φ) fun t x hx => by rw [← hlook]; exact hx
    refine Oper.wp_mono (fun act2 w2 ⟨hdf, G', hs2⟩ => hK act2 w2 ⟨hb0, hdf, G', ?_, fun hph t x hx => ?_⟩) (WO.one_ hg hR (hx (fallF n φ)) hs')
    · show SimF C n (S.bx (k + 1) ph) (S.lv (k + 1)) (S.gen (k + 1)) (putF φ o.dst a) G' act2.tmps w2
      cases hdst : o.dst with
      | none =>
        rw [hdst] at hs2
        refine ⟨{ hs2 with frame := fun t a ha => by simp [look] at ha }, fun t x hx => hs2.frame t x ?_⟩
        show look (p ++ fallF n φ) t = some x
        rw [hlook]
        exact hx
      | some d =>
        rw [hdst] at hs2
        refine ⟨{ hs2 with frame := fun t a ha => by simp [look] at ha }, fun t x hx => hs2.frame t x ?_⟩
        show look ((d, a) :: (p ++ fallF n φ)) t = some x
        rw [putF_look hlook]
        exact hx
    · simp only at hph hx
      have hbf : b0 = false := by cases b0 with | false => rfl | true => rw [hb0 rfl] at hph; cases hph
      have hm := monoB_spec ((hok hbf).mono k (List.getElem?_eq_some_iff.1 hc).1)
      cases hdst : o.dst with
      | none => rw [hdst] at hx; exact ren_fix hm x (hfix hph t x hx)
      | some d =>
        rw [hdst] at hx
        simp only [putF] at hx
        split at hx
        · cases hx; exact hr (by rw [← hph]; exact hal)
        · exact ren_fix hm x (hfix hph t x hx)
  · have hkc : ¬ S.cs[k]? = some i := fun h => nc (List.mem_of_getElem? h)
    rw [if_neg hkc, if_pos hal'] at hK
    have hw : Region.wanted o (yielded ops tmps) = true := by simp [Region.wanted, hg]
    rw [hw, if_pos rfl]
    refine .inl ?_
    have hbf : b0 = false := by cases b0 with | false => rfl | true => cases hb0 rfl
    obtain ⟨⟨hO, hpos⟩, hBR, hLR⟩ := (hok hbf).at k hkl
    have hlook : ∀ t, look (fallF n φ) t = φ t := look_all (p := []) (simF_lt hs) (fun t x hx => by simp [look] at hx)
    have hs' := hs.toG (f := fallF n φ) fun t x hx => by rw [← hlook]; exact hx
    have hwo : WO P C n ops (fun e st => (e = .normal ∧ st = St.put ⟨fallF n φ, (S.gen k, S.z) :: S.bx k false, S.lv k, S.gen k + 1⟩ o.dst (.ptr (S.gen k) 0)) ∨ ∃ c, e = .panic c ∧ False) [o] ⟨fallF n φ, S.bx k false, S.lv k, S.gen k⟩ :=
      WO.alloc T hg hd hop he (WO.nil (.inl ⟨rfl, by rw [hz]⟩))
    refine Oper.wp_mono (fun act2 w2 ⟨hdf, G', hs2⟩ => hK act2 w2 ⟨fun _ => rfl, hdf, renG (S.ord k) G', ?_, fun h => by cases h⟩) (WO.one_ (R := fun _ => False) hg (fun _ _ _ h => h.elim) hwo hs')
    simp only [orderB, Bool.and_eq_true] at hO
    obtain ⟨⟨hO1, hO2⟩, hO3⟩ := hO
    rw [hdst] at hs2 ⊢
    have h3 : SimG C n ⟨(d, .ptr S.g0 0) :: fallF n φ, S.bxT k, S.lv k, S.gen k⟩ (renG (S.ord k) G') act2.tmps w2 := by
      refine SimG.ren (gen' := S.gen k) hs2 (S.ord k) (nodup_of hO1) (Nat.le_of_ble_eq_true hO2) (fun i hi => ?_) (fun t x hx => ?_) (fun i l' hl' => ?_) (fun i hi => ?_)
      · have h4 := headB_get hO3 i (by rw [← hnb.h]; exact hi)
        simpa using h4
      · rw [look_cons] at hx
        show ∃ a, look ((d, .ptr (S.gen k) 0) :: fallF n φ) t = some a ∧ ren (S.ord k) a = x
        rw [look_cons]
        split at hx
        · rename_i e
          rw [if_pos e]
          cases hx
          exact ⟨_, rfl, by simp only [ren, hpos]⟩
        · rename_i e
          rw [if_neg e]
          rw [hlook] at hx ⊢
          exact ⟨x, hx, hfix rfl t x hx⟩
      · exact SubBR.le hBR i l' hl'
      · exact lvR_mem hLR i hi
    refine ⟨{ h3 with frame := fun t a ha => by simp [look] at ha }, fun t x hx => h3.frame t x ?_⟩
    show look ((d, _) :: fallF n φ) t = some x
    rw [putF_look hlook]
    exact hx
  · have hkc : ¬ S.cs[k]? = some i := fun h => nc (List.mem_of_getElem? h)
    rw [if_neg hkc, if_neg nal] at hK
    obtain ⟨hya, hr⟩ := hya k ph hkl hal
    have hfix' : ph = false → ∀ t x, putF φ o.dst a t = some x → ren (S.ord k) x = x := fun hph t x hx => by
      cases hdst : o.dst with
      | none => rw [hdst] at hx; exact hfix hph t x hx
      | some d =>
        rw [hdst] at hx
        simp only [putF] at hx
        split at hx
        · cases hx; exact hr hph
        · exact hfix hph t x hx
    obtain ⟨_, ⟨hw, f, hf, hp⟩ | ⟨hw, rfl⟩⟩ := hya
    · rw [wanted_of hs hw]
      simp only [if_true]
      refine .inl ?_
      have hg : Gives P o ⟨tmps, []⟩ w fun v w' => Below w.heap.size w w' ∧ Rep (enOf C G (S.gen k) w') v a := hp G tmps w (hs.toG fun t x hx => (hf t x hx).1)
      refine hg.ds.wp fun v w' ⟨hb, hr⟩ => ?_
      rw [Act.put_ds]
      exact hK _ _ ⟨hb0, rfl, G, hs.step hb hd hr, hfix'⟩
    · rw [wanted_of hs hw]
      simp only [Bool.false_eq_true, if_false]
      rw [Act.put_ds]
      exact hK _ _ ⟨hb0, rfl, G, hs.step (Below.refl _ _) hd (.tup #[] [] rfl (by simp)), hfix'⟩
def CD (P : Program) (T : Tab P) (C : Ctx) (n : Nat) (S : ParD) (ops : Array Oper) (Q : St → Prop) (l : List Oper) (i : Nat) (f : List (Nat × A)) (k : Nat) (b : Bool) : Prop :=
  ceG (YD P T C n S ops) (efD S ops) (fun σ => ∃ f', (∀ t, look f' t = σ.1 t) ∧ σ.2 = (S.cs.length, true) ∧ Q ⟨f', S.bxT S.cs.length, S.lv S.cs.length, S.gen S.cs.length⟩) l i (look f, k, b)
def chainB (ops : Array Oper) : List Nat → Bool
  | c :: c' :: r => reachB .any ops ops.size c' c && chainB ops (c' :: r)
  | _ => true
theorem chainB_spec {ops : Array Oper} : ∀ {cs : List Nat}, chainB ops cs = true → ∀ k c c', cs[k]? = some c → cs[k + 1]? = some c' → reachB .any ops ops.size c' c = true
  | [], _, k, c, c', h, _ => by simp at h
  | [_], _, k, c, c', _, h => by simp at h
  | x :: y :: r, h, k, c, c', h1, h2 => by
    simp only [chainB, Bool.and_eq_true] at h
    cases k with
    | zero =>
      simp at h1 h2
      subst h1; subst h2
      exact h.1
    | succ k => exact chainB_spec h.2 k c c' (by simpa using h1) (by simpa using h2)
def AllFix (o : List Nat) : List (Nat × A) → Prop
  | [] => True
  | (_, a) :: r => ren o a = a ∧ AllFix o r
theorem AllFix.at {o : List Nat} : ∀ {f : List (Nat × A)}, AllFix o f → ∀ t a, look f t = some a → ren o a = a
  | [], _, t, a, h => by simp [look] at h
  | (s, x) :: r, hf, t, a, h => by
    rw [look_cons] at h
    split at h
    · cases h; exact hf.1
    · exact hf.2.at t a h
theorem W.regionChain (T : Tab P) {nb : Nat} [hnb : NB C nb] {id : Nat} {l l1 l2 : List Oper} {f : List (Nat × A)} {bx : List (Nat × List A)} {lv : List Nat} {gen : Nat} {Q : Exit → St → Prop} (S : ParD) (b0 : Bool) (m : Nat) (hB : regionOKC m l.toArray = true) (hch : chainB l.toArray S.cs = true) (h1 : l.take m = l1) (h2 : l.drop m = l2)
    (hR : ∀ c st, S.R c → Q (.panic c) st) (hok : b0 = false → okD S nb S.cs.length ∧ AllFix (S.ord 0) f) (e1 : ∀ g c, look' (S.bx 0 b0) g = some c → look' bx g = some c) (e2 : S.lv 0 = lv) (e3 : Nat.ble gen (S.gen 0) = true)
    (h : CD P T C n S l.toArray (WO P C n l.toArray Q l2) l1 0 f 0 b0) : W P C n (.region id l.toArray true) Q ⟨f, bx, lv, gen⟩ := by
  subst h1; subst h2; subst e2
  intro tmps w ⟨G, hs⟩
  have hs : SimG C n ⟨f, bx, S.lv 0, S.gen 0⟩ G tmps w := SimG.later hs (g := S.gen 0) (Nat.le_of_ble_eq_true e3)
  have hs : SimG C n ⟨f, S.bx 0 b0, S.lv 0, S.gen 0⟩ G tmps w := { hs with box := fun g c hc => hs.box g c (e1 g c hc) }
  simp only [regionOKC, Bool.and_eq_true] at hB
  obtain ⟨⟨⟨hm, hw⟩, hfore⟩, hlex⟩ := hB
  have hm : m ≤ l.length := by simpa using Nat.le_of_ble_eq_true hm
  have hb : Below w.heap.size w { w with drawn := w.drawn + 1 } := (Below.refl _ w).drew
  have hs' : SimF C n (S.bx 0 b0) (S.lv 0) (S.gen 0) (look f) G tmps { w with drawn := w.drawn + 1 } := SimF.ofG (hs.evolve hb).2
  have hlen : (l.take m).length = m := by simp; omega
  refine wp_region_any T.mixed ?_
  have hsz : l.toArray.size = (l.take m).length + (l.drop m).length := by simp; omega
  rw [hsz]
  have hcl : Closed .any l.toArray (Array.replicate ((l.take m).length + (l.drop m).length) false) := fun j oj _ hl _ _ _ => by
    by_cases q : j < (l.take m).length + (l.drop m).length
    · simp only [Array.getD_eq_getD_getElem?, Array.getElem?_replicate] at hl
      rw [if_pos q] at hl
      cases hl
    · simp only [Array.getD_eq_getD_getElem?, Array.getElem?_replicate] at hl
      rw [if_neg q] at hl
      cases hl
  refine wpAny_of_G (m := m) (Sm := SmD C n S b0) (Y := YD P T C n S l.toArray) (ef := efD S l.toArray) (Q := fun σ => ∃ f', (∀ t, look f' t = σ.1 t) ∧ σ.2 = (S.cs.length, true) ∧ WO P C n l.toArray Q (l.drop m) ⟨f', S.bxT S.cs.length, S.lv S.cs.length, S.gen S.cs.length⟩)
    (fun i e σ act w K hs hy hk => soundD b0 (fun h => (hok h).1) i e σ act w K (fun c act w hc hd ⟨st, hs⟩ => ⟨hd, st, hs, hR c st hc⟩) hs hy hk) (fun listed σ act w hs hc hsp ⟨f', e1, e2, hq⟩ => ?_) _ _ (look f, 0, b0) ⟨tmps, C.ds⟩ _ ⟨fun h => h, rfl, G, hs', fun h => (hok h).2.at⟩ hcl ?_
  · obtain ⟨tmps, dfs⟩ := act
    obtain ⟨_, rfl, G, hs, _⟩ := hs
    rw [e2] at hs
    refine wpAny_tailT hw (foreB_spec hfore) (l.drop m) m listed ⟨tmps, C.ds⟩ w (Nat.le_refl _) (by simp; omega) (fun j => by simp [List.getElem?_drop]) hc hsp.1 hsp.2.1 hsp.2.2 ?_
    exact hq tmps w ⟨G, hs.toG (fun t a ha => by rw [← e1]; exact ha)⟩
  · refine wpG_lexR hw (fun i j oi oj hi hj hij him hjm hap hno => swapD (chainB_spec hch) hi hj hij hap hno) (l.take m) 0 _ _ (by rw [hlen]; omega) (fun j hj => ?_) hcl (by simp; omega) (fun j hj => by omega) (fun j _ hj => ?_) (by rw [hlen]; rw [hsz, hlen] at hlex; exact hlex) h
    · rw [hlen] at hj
      rw [Nat.zero_add]
      simp [List.getElem?_take, hj]
    · have hj' : j < l.length := by simpa using hj
      have e : min m l.length + (l.length - m) = l.length := by omega
      simp [e, hj']
variable {op : Op} {ty : TypeId} {pos : String} {af : Array Edge} {a : A} {d i k : Nat} {rest : List Oper} {f : List (Nat × A)} {Q : St → Prop} {b : Bool}
theorem CD.nil (h : Q ⟨f, S.bxT S.cs.length, S.lv S.cs.length, S.gen S.cs.length⟩) (hk : Nat.beq k S.cs.length = true) : CD P T C n S ops Q [] i f k true := by
  have := Nat.eq_of_beq_eq_true hk
  subst this
  exact ⟨f, fun _ => rfl, rfl, h⟩
def allD (p : Nat → Bool → Prop) : Nat → Prop
  | 0 => p 0 false ∧ p 0 true
  | k + 1 => p (k + 1) false ∧ p (k + 1) true ∧ allD p k
theorem allD.at {p : Nat → Bool → Prop} : ∀ {m : Nat}, allD p m → ∀ k b, k ≤ m → p k b
  | 0, h, k, b, hk => by
    obtain rfl : k = 0 := by omega
    cases b
    · exact h.1
    · exact h.2
  | m + 1, h, k, b, hk => by
    rcases Nat.lt_or_ge k (m + 1) with hlt | hge
    · exact h.2.2.at k b (by omega)
    · obtain rfl : k = m + 1 := by omega
      cases b
      · exact h.1
      · exact h.2.1
def memB (x : Nat) (l : List Nat) : Bool := l.any fun y => Nat.beq x y
theorem memB_not {x : Nat} {l : List Nat} (h : memB x l = false) : x ∉ l := fun hm => by
  have : memB x l = true := List.any_eq_true.2 ⟨x, hm, by simp⟩
  rw [h] at this
  cases this
theorem cdPu (hp : allD (fun k b => alw S ops i k b = true → Pu P C n ⟨restr f (slotsOf op), S.bx k b, S.lv k, S.gen k⟩ ⟨some d, op, ty, pos, af, none⟩ a ∧ (b = false → ren (S.ord k) a = a)) S.cs.length)
    (hi : ops[i]? = some ⟨some d, op, ty, pos, af, none⟩) (h1 : memB i S.cs = false) (h2 : Nat.beq i S.al = false) (h3 : (Nat.ble k S.cs.length && alw S ops i k b) = true) (hd : Nat.blt d n = true)
    (h : CD P T C n S ops Q rest (i + 1) ((d, a) :: f) k b) : CD P T C n S ops Q (⟨some d, op, ty, pos, af, none⟩ :: rest) i f k b := by
  simp only [Bool.and_eq_true] at h3
  have nc := memB_not h1
  have na : i ≠ S.al := fun e => by subst e; simp at h2
  refine ⟨a, ⟨_, hi, hd, Nat.le_of_ble_eq_true h3.1, h3.2, .inr (.inr ⟨nc, na, fun k b hk ha => ⟨YA.of_pu (hp.at k b hk ha).1 hd, (hp.at k b hk ha).2⟩⟩)⟩, ?_⟩
  rw [efD_at hi]
  simp only [if_neg na, if_neg (fun e => nc (List.mem_of_getElem? e) : ¬ S.cs[k]? = some i)]
  unfold CD at h
  rw [look_put] at h
  exact h
theorem cdPu' (h0 : Pu P C n ⟨restr f (slotsOf op), S.bx k b, S.lv k, S.gen k⟩ ⟨some d, op, ty, pos, af, none⟩ a) (hp : allD (fun k b => alw S ops i k b = true → Pu P C n ⟨restr f (slotsOf op), S.bx k b, S.lv k, S.gen k⟩ ⟨some d, op, ty, pos, af, none⟩ a ∧ (b = false → ren (S.ord k) a = a)) S.cs.length)
    (hi : ops[i]? = some ⟨some d, op, ty, pos, af, none⟩) (h1 : memB i S.cs = false) (h2 : Nat.beq i S.al = false) (h3 : (Nat.ble k S.cs.length && alw S ops i k b) = true) (hd : Nat.blt d n = true)
    (h : CD P T C n S ops Q rest (i + 1) ((d, a) :: f) k b) : CD P T C n S ops Q (⟨some d, op, ty, pos, af, none⟩ :: rest) i f k b := cdPu hp hi h1 h2 h3 hd h
theorem cdX0 (hx : ∀ b, alw S ops i k b = true → ∀ g, WO P C n ops (fun e st => e = .normal ∧ st = ⟨restr f (slotsOf op) ++ g, S.bx (k + 1) b, S.lv (k + 1), S.gen (k + 1)⟩) [⟨none, op, ty, pos, af, none⟩] ⟨restr f (slotsOf op) ++ g, S.bx k b, S.lv k, S.gen k⟩)
    (hi : ops[i]? = some ⟨none, op, ty, pos, af, none⟩) (h1 : S.cs[k]? = some i) (h2 : Nat.beq i S.al = false) (h3 : alw S ops i k b = true) (h : CD P T C n S ops Q rest (i + 1) f (k + 1) b) : CD P T C n S ops Q (⟨none, op, ty, pos, af, none⟩ :: rest) i f k b := by
  have na : i ≠ S.al := fun e => by subst e; simp at h2
  refine ⟨.any, ⟨_, hi, rfl, Nat.le_of_lt (List.getElem?_eq_some_iff.1 h1).1, h3, .inl ⟨h1, na, fun b hb => ⟨rfl, restr f (slotsOf op), fun t x hx => ?_, fun g => WO.mono1 rfl (fun e st h => by rw [h.1]; simp) (fun e st h => .inl h) (hx b hb g)⟩, fun _ => rfl⟩⟩, ?_⟩
  · obtain ⟨h1, h2⟩ := restr_look hx
    exact ⟨h1, List.mem_append.2 (.inl h2)⟩
  · rw [efD_at hi]
    simp only [if_neg na, if_pos h1]
    exact h
theorem cdX (hx : ∀ b, alw S ops i k b = true → ∀ g, WO P C n ops (fun e st => e = .normal ∧ st = ⟨(d, a) :: (restr f (slotsOf op) ++ g), S.bx (k + 1) b, S.lv (k + 1), S.gen (k + 1)⟩) [⟨some d, op, ty, pos, af, none⟩] ⟨restr f (slotsOf op) ++ g, S.bx k b, S.lv k, S.gen k⟩)
    (hi : ops[i]? = some ⟨some d, op, ty, pos, af, none⟩) (h1 : S.cs[k]? = some i) (h2 : Nat.beq i S.al = false) (h3 : alw S ops i k b = true) (hr : alw S ops i k false = true → ren (S.ord (k + 1)) a = a) (hd : Nat.blt d n = true) (h : CD P T C n S ops Q rest (i + 1) ((d, a) :: f) (k + 1) b) : CD P T C n S ops Q (⟨some d, op, ty, pos, af, none⟩ :: rest) i f k b := by
  have na : i ≠ S.al := fun e => by subst e; simp at h2
  refine ⟨a, ⟨_, hi, hd, Nat.le_of_lt (List.getElem?_eq_some_iff.1 h1).1, h3, .inl ⟨h1, na, fun b hb => ⟨rfl, restr f (slotsOf op), fun t x hx => ?_, fun g => WO.mono1 rfl (fun e st h => by rw [h.1]; simp) (fun e st h => .inl h) (hx b hb g)⟩, hr⟩⟩, ?_⟩
  · obtain ⟨h1, h2⟩ := restr_look hx
    exact ⟨h1, List.mem_append.2 (.inl h2)⟩
  · rw [efD_at hi]
    simp only [if_neg na, if_pos h1]
    unfold CD at h
    rw [look_put] at h
    exact h
theorem W.regionL (T : Tab P) {nb : Nat} [hnb : NB C nb] {id : Nat} {l l1 l2 : List Oper} {f : List (Nat × A)} {bx : List (Nat × List A)} {lv : List Nat} {gen : Nat} {Q : Exit → St → Prop} (bxs : List (List (Nat × List A))) (lvs : List (List Nat)) (gens : List Nat) (cs : List Nat) (m : Nat) (hB : regionOKC m l.toArray = true) (hch : chainB l.toArray cs = true) (h1 : l.take m = l1) (h2 : l.drop m = l2)
    (h : CD P T C n (parL (bx :: bxs) (lv :: lvs) (gen :: gens) cs l.length) l.toArray (WO P C n l.toArray Q l2) l1 0 f 0 true) : W P C n (.region id l.toArray true) Q ⟨f, bx, lv, gen⟩ :=
  W.regionChain T (parL (bx :: bxs) (lv :: lvs) (gen :: gens) cs l.length) true m hB hch h1 h2 (fun _ _ h => h.elim) (fun h => by cases h) (fun _ _ h => h) rfl (by show Nat.ble gen gen = true; simp) h
abbrev bot : A := .d (.v (.agg #[]))
theorem bot_no {E : En} {v : Value} (h : Rep E v bot) : False := by
  cases h with | d h => cases h with | v _ h => exact absurd h (by simp [okc])
theorem botO {P : Program} {C : Ctx} {n : Nat} {ops : Array Oper} {Q : Exit → St → Prop} {l : List Oper} {st : St} (d : Nat) (h : look st.f d = some bot) : WO P C n ops Q l st := fun _ _ ⟨_, hs⟩ => by
  obtain ⟨v, _, hr⟩ := hs.frame d bot h
  exact (bot_no hr).elim
theorem W.regionP (T : Tab P) {nb : Nat} [hnb : NB C nb] {id : Nat} {l l1 l2 : List Oper} {f : List (Nat × A)} {bx : List (Nat × List A)} {lv : List Nat} {gen : Nat} {Q : Exit → St → Prop} (v : Value) (bxs : List (List (Nat × List A))) (lvs : List (List Nat)) (gens : List Nat) (cs : List Nat) (m : Nat) (hB : regionOKC m l.toArray = true) (hch : chainB l.toArray cs = true) (h1 : l.take m = l1) (h2 : l.drop m = l2)
    (hQ : ∀ st, Q (.panic [{ v := v, recovered := false }]) st) (h : CD P T C n (parP (bx :: bxs) (lv :: lvs) (gen :: gens) cs l.length v) l.toArray (WO P C n l.toArray Q l2) l1 0 f 0 true) : W P C n (.region id l.toArray true) Q ⟨f, bx, lv, gen⟩ :=
  W.regionChain T (parP (bx :: bxs) (lv :: lvs) (gen :: gens) cs l.length v) true m hB hch h1 h2 (fun c st h => by rw [show c = _ from h]; exact hQ st) (fun h => by cases h) (fun _ _ h => h) rfl (by show Nat.ble gen gen = true; simp) h
theorem cdP (hx : ∀ b, alw S ops i k b = true → ∀ g, WO P C n ops (fun e _ => ∃ c, e = .panic c ∧ S.R c) [⟨some d, op, ty, pos, af, none⟩] ⟨restr f (slotsOf op) ++ g, S.bx k b, S.lv k, S.gen k⟩)
    (hi : ops[i]? = some ⟨some d, op, ty, pos, af, none⟩) (h1 : S.cs[k]? = some i) (h2 : Nat.beq i S.al = false) (h3 : alw S ops i k b = true) (hd : Nat.blt d n = true) (h : CD P T C n S ops Q rest (i + 1) ((d, bot) :: f) (k + 1) b) : CD P T C n S ops Q (⟨some d, op, ty, pos, af, none⟩ :: rest) i f k b := by
  have na : i ≠ S.al := fun e => by subst e; simp at h2
  refine ⟨bot, ⟨_, hi, hd, Nat.le_of_lt (List.getElem?_eq_some_iff.1 h1).1, h3, .inl ⟨h1, na, fun b hb => ⟨rfl, restr f (slotsOf op), fun t x hx => ?_, fun g => WO.mono1 rfl (fun e st ⟨c, h, _⟩ => by rw [h]; simp) (fun e st h => .inr h) (hx b hb g)⟩, fun _ => rfl⟩⟩, ?_⟩
  · obtain ⟨h1, h2⟩ := restr_look hx
    exact ⟨h1, List.mem_append.2 (.inl h2)⟩
  · rw [efD_at hi]
    simp only [if_neg na, if_pos h1]
    unfold CD at h
    rw [look_put] at h
    exact h
theorem cdB (t : Nat) (ht : look (restr f (slotsOf op)) t = some bot)
    (hi : ops[i]? = some ⟨some d, op, ty, pos, af, none⟩) (h1 : S.cs[k]? = some i) (h2 : Nat.beq i S.al = false) (h3 : alw S ops i k b = true) (hd : Nat.blt d n = true) (h : CD P T C n S ops Q rest (i + 1) ((d, bot) :: f) (k + 1) b) : CD P T C n S ops Q (⟨some d, op, ty, pos, af, none⟩ :: rest) i f k b := by
  have na : i ≠ S.al := fun e => by subst e; simp at h2
  refine ⟨bot, ⟨_, hi, hd, Nat.le_of_lt (List.getElem?_eq_some_iff.1 h1).1, h3, .inl ⟨h1, na, fun b hb => ⟨rfl, restr f (slotsOf op), fun t x hx => ?_, fun g => botO t ?_⟩, fun _ => rfl⟩⟩, ?_⟩
  · obtain ⟨h1, h2⟩ := restr_look hx
    exact ⟨h1, List.mem_append.2 (.inl h2)⟩
  · show look (restr f (slotsOf op) ++ g) t = some bot
    rw [look_app, ht]
  · rw [efD_at hi]
    simp only [if_neg na, if_pos h1]
    unfold CD at h
    rw [look_put] at h
    exact h
end
end Go.Ab
namespace Go.Ab
open Go.RowKit
section
variable {P : Program} {C : Ctx} {n : Nat}
theorem W.regionP1 (T : Tab P) {nb : Nat} [hnb : NB C nb] {id : Nat} {l l1 l2 : List Oper} {f : List (Nat × A)} {bx : List (Nat × List A)} {lv : List Nat} {gen : Nat} {Q : Exit → St → Prop} (v : Value) (cs : List Nat) (m : Nat) (hB : regionOKC m l.toArray = true) (hch : chainB l.toArray cs = true) (h1 : l.take m = l1) (h2 : l.drop m = l2)
    (hQ : ∀ st, Q (panOf v) st) (h : CD P T C n (parP (bx :: List.replicate cs.length bx) (lv :: List.replicate cs.length lv) (gen :: List.replicate cs.length gen) cs l.length v) l.toArray (WO P C n l.toArray Q l2) l1 0 f 0 true) : W P C n (.region id l.toArray true) Q ⟨f, bx, lv, gen⟩ :=
  W.regionP T v _ _ _ _ m hB hch h1 h2 hQ h
theorem W.regionP2 (T : Tab P) {nb : Nat} [hnb : NB C nb] {id : Nat} {l l1 l2 : List Oper} {f : List (Nat × A)} {bx : List (Nat × List A)} {lv : List Nat} {gen : Nat} {Q : Exit → St → Prop} (v : Value) (lv1 : List Nat) (gen1 : Nat) (bx1 : List (Nat × List A)) (cs : List Nat) (m : Nat) (hB : regionOKC m l.toArray = true) (hch : chainB l.toArray cs = true) (h1 : l.take m = l1) (h2 : l.drop m = l2)
    (hQ : ∀ st, Q (panOf v) st) (h : CD P T C n (parP (bx :: List.replicate cs.length bx1) (lv :: List.replicate cs.length lv1) (gen :: List.replicate cs.length gen1) cs l.length v) l.toArray (WO P C n l.toArray Q l2) l1 0 f 0 true) : W P C n (.region id l.toArray true) Q ⟨f, bx, lv, gen⟩ :=
  W.regionP T v _ _ _ _ m hB hch h1 h2 hQ h
theorem W.regionLF (T : Tab P) {nb : Nat} [hnb : NB C nb] {id : Nat} {l l1 l2 : List Oper} {f : List (Nat × A)} {bx : List (Nat × List A)} {lv : List Nat} {gen : Nat} {Q : Exit → St → Prop} (F : List (Nat × List A) → List (List (Nat × List A))) (lvs : List (List Nat)) (gens : List Nat) (cs : List Nat) (m : Nat) (hB : regionOKC m l.toArray = true) (hch : chainB l.toArray cs = true) (h1 : l.take m = l1) (h2 : l.drop m = l2)
    (h : CD P T C n (parL (bx :: F bx) (lv :: lvs) (gen :: gens) cs l.length) l.toArray (WO P C n l.toArray Q l2) l1 0 f 0 true) : W P C n (.region id l.toArray true) Q ⟨f, bx, lv, gen⟩ :=
  W.regionL T (F bx) lvs gens cs m hB hch h1 h2 h
end
end Go.Ab
namespace Go.Ab
theorem stE1 {e e' : Exit} {d : Nat} {a a' : A} {f : List (Nat × A)} {bx bx' : List (Nat × List A)} {lv lv' : List Nat} {gen gen' : Nat} (he : e = e') (ha : a = a') (hb : bx = bx') (hl : lv = lv') (hg : gen = gen') :
    e = e' ∧ (⟨(d, a) :: f, bx, lv, gen⟩ : St) = ⟨(d, a') :: f, bx', lv', gen'⟩ := by subst he ha hb hl hg; exact ⟨rfl, rfl⟩
theorem stE0 {e e' : Exit} {f : List (Nat × A)} {bx bx' : List (Nat × List A)} {lv lv' : List Nat} {gen gen' : Nat} (he : e = e') (hb : bx = bx') (hl : lv = lv') (hg : gen = gen') :
    e = e' ∧ (⟨f, bx, lv, gen⟩ : St) = ⟨f, bx', lv', gen'⟩ := by subst he hb hl hg; exact ⟨rfl, rfl⟩
end Go.Ab
namespace Go.Ab
open Go.RowKit
/-! ### a code whose end is told at once -/
def W' (P : Program) (C : Ctx) (n : Nat) (c : Code) (B : Exit → Act → World → Prop) (st : St) : Prop := ∀ tmps w, Sim C n st tmps w → c.wp P B ⟨tmps, C.ds⟩ w
def WO' (P : Program) (C : Ctx) (n : Nat) (ops : Array Oper) (B : Exit → Act → World → Prop) (l : List Oper) (st : St) : Prop := ∀ tmps w, Sim C n st tmps w → wpL P ops B l ⟨tmps, C.ds⟩ w
def QS' (P : Program) (C : Ctx) (n : Nat) (y : Code) (B : Exit → Act → World → Prop) : Exit → St → Prop
  | .normal, st => W' P C n y B st
  | e, st => ∀ tmps w, Sim C n st tmps w → B e ⟨tmps, C.ds⟩ w
section
variable {P : Program} {C : Ctx} {n : Nat} {ops : Array Oper} {B : Exit → Act → World → Prop} {st : St} {o : Oper} {rest : List Oper} {a : A}
theorem W'.seq {x y : Code} (h : W P C n x (QS' P C n y B) st) : W' P C n (.seq x y) B st := by
  intro tmps w hs
  refine wp_seq (wp_mono (h tmps w hs) ?_)
  rintro e ⟨t, df⟩ w' ⟨hd, st', hs', hq⟩
  simp only at hd
  subst hd
  cases e <;> simp only [QS'] at hq <;> simp only [Exit.then]
  all_goals exact hq t w' hs'
theorem W'.seqRegion {id : Nat} {l : List Oper} {y : Code} (h : WO' P C n l.toArray (Exit.then (y.wp P B) B) l st) : W' P C n (.seq (.region id l.toArray false) y) B st := by
  intro tmps w hs
  refine wp_seq (wp_region ?_)
  have := wpL_wpOps (P := P) (Q := Exit.then (y.wp P B) B) (ops := l.toArray) l 0 (by simp) ⟨tmps, C.ds⟩ w (h tmps w hs)
  rw [List.range_eq_range']
  simpa using this
theorem WO'.pu (hg : o.guard = none) (hd : dstOK n o.dst = true) (hp : Pu P C n st o a) (h : WO' P C n ops B rest (st.put o.dst a)) : WO' P C n ops B (o :: rest) st := by
  intro tmps w ⟨G, hs⟩
  simp only [wpL, Region.wanted, hg, if_true]
  refine (Gives.ds (hp G tmps w hs)).wp fun v w' ⟨hb, hr⟩ => ?_
  rw [Act.put_ds]
  exact h _ _ ⟨G, (hs.evolve hb).2.put (dstOK_lt hd) hr⟩
abbrev pp (b : Nat) : Value := .pointer (some ⟨b, 0, none⟩)
abbrev dfr (fid : FuncId) (b0 b1 b2 : Nat) : Deferred := ⟨.fn (.func fid) #[pp b0, pp b1, pp b2], #[]⟩
theorem WO'.defer (hg : o.guard = none) (hdst : o.dst = none) {x : Operand} {tys : Array TypeId} {fid : FuncId} (ho : o.op = .defer ⟨.value x, #[], tys⟩) (hx : av st.f x = some (.clo fid [.ptr 0 0, .ptr 1 0, .ptr 2 0]))
    (h : ∀ b0 b1 b2 tmps w G, SimG C n st G tmps w → G.box 0 = some b0 → G.box 1 = some b1 → G.box 2 = some b2 → wpL P ops B rest ⟨tmps, dfr fid b0 b1 b2 :: C.ds⟩ w) : WO' P C n ops B (o :: rest) st := by
  intro tmps w ⟨G, hs⟩
  simp only [wpL, Region.wanted, hg, if_true]
  have hr := hs.av hx
  rw [← Act.eval_ds tmps C.ds []] at hr
  generalize hv : Act.eval ⟨tmps, C.ds⟩ x = v at hr
  cases hr with
  | clo _ vs _ hsz hcd =>
  have hsz : vs.size = 3 := hsz
  obtain ⟨v0, v1, v2, rfl⟩ : ∃ v0 v1 v2, vs = #[v0, v1, v2] := ⟨vs[0], vs[1], vs[2], by
    apply Array.ext
    · simpa using hsz
    · intro i h1 h2
      match i with
      | 0 => rfl
      | 1 => rfl
      | 2 => rfl
      | i + 3 => simp at h2; omega⟩
  have r0 := hcd 0 v0 _ rfl rfl
  have r1 := hcd 1 v1 _ rfl rfl
  have r2 := hcd 2 v2 _ rfl rfl
  cases r0 with
  | ptr _ _ _ b0 _ hb0 e0 =>
  cases r1 with
  | ptr _ _ _ b1 _ hb1 e1 =>
  cases r2 with
  | ptr _ _ _ b2 _ hb2 e2 =>
  subst e0; subst e1; subst e2
  have hrun : (execOp (Act.eval ⟨tmps, C.ds⟩) o).run P w = .ok (.defer (dfr fid b0 b1 b2)) w := by
    unfold execOp
    rw [ho]
    simp only [resolve, hv, Deferred.ofValue, Sem.run_bind, Sem.run_pure, Result.andThen_ok, List.map_toArray, List.map_nil, Array.append_empty]
  unfold Oper.wp
  rw [hrun, Oper.upon_defer]
  rw [hdst]
  exact h b0 b1 b2 tmps w G hs hb0 hb1 hb2
theorem SimG.chg {G : Gh} {tmps : Array Value} {w : World} {bs : List Nat} {ds : List Deferred} (hs : SimG C n st G tmps w) (h : ∀ (i b : Nat), bs[i]? = some b → G.box i = some b) : SimG { C with bx := bs, ds := ds } n st G tmps w :=
  { size := hs.size, frame := hs.frame, box := hs.box, gbox := hs.gbox, inj := hs.inj, live := hs.live, gown := hs.gown, row := hs.row, mrow := hs.mrow, xold := hs.xold, kold := hs.kold, lent := h,
    fr := ⟨hs.fr.os, hs.fr.tape, hs.fr.output, hs.fr.size, hs.fr.block, hs.fr.cells, hs.fr.ty⟩ }
theorem GC.chg [Met P] (h : GC P C) {bs : List Nat} {ds : List Deferred} : GC P { C with bx := bs, ds := ds } := ⟨h.h⟩
theorem wp_of_W {c : Code} {Q : Exit → St → Prop} {tmps : Array Value} {w : World} (hs : Sim C n st tmps w) (hW : W P C n c Q st) (hB : ∀ e a w', lift C n Q e a w' → B e a w') : c.wp P B ⟨tmps, C.ds⟩ w := wp_mono (hW tmps w hs) hB
/-! ### a callee panics: the other boxes stay -/
def ptrA : A → A
  | .ptr g o => .ptr g o
  | _ => .any
def ptrF (f : List (Nat × A)) : List (Nat × A) := f.map fun p => (p.1, ptrA p.2)
theorem ptrF_look (f : List (Nat × A)) (t : Nat) : look (ptrF f) t = (look f t).map ptrA := by
  induction f with
  | nil => rfl
  | cons p r ih =>
    obtain ⟨s, a⟩ := p
    unfold ptrF at ih ⊢
    rw [List.map_cons, look_cons, look_cons, ih]
    split <;> rfl
theorem ptrA_rep {E E' : En} {v : Value} {a : A} (hg : E'.gen = E.gen) (hb : E'.box = E.box) (h : Rep E v a) : Rep E' v (ptrA a) := by
  unfold ptrA
  split
  · cases h with
    | ptr _ g off b h1 h2 h3 => exact .ptr _ _ _ b (hg ▸ h1) (by rw [hb]; exact h2) h3
  · exact .any _
def dropB (gs : List Nat) : List (Nat × List A) → List (Nat × List A)
  | [] => []
  | (g, c) :: r => bif gs.any (Nat.beq g) then dropB gs r else (g, c.map scal) :: dropB gs r
theorem dropB_look {gs : List Nat} : ∀ {bx : List (Nat × List A)} {g : Nat} {c : List A}, look' (dropB gs bx) g = some c → gs.any (Nat.beq g) = false ∧ ∃ c0, look' bx g = some c0 ∧ c = c0.map scal
  | [], g, c, h => by simp [dropB, look'] at h
  | (g0, c0) :: r, g, c, h => by
    unfold dropB at h
    cases hb : gs.any (Nat.beq g0) with
    | false =>
      rw [hb] at h
      simp only [cond_false, look'] at h ⊢
      cases he : Nat.beq g0 g with
      | true =>
        rw [he] at h
        simp only [cond_true, Option.some.injEq] at h ⊢
        have e : g0 = g := Nat.eq_of_beq_eq_true he
        subst e
        exact ⟨hb, c0, rfl, h.symm⟩
      | false =>
        rw [he] at h
        simp only [cond_false] at h ⊢
        exact dropB_look h
    | true =>
      rw [hb] at h
      simp only [cond_true] at h
      obtain ⟨h1, h2⟩ := dropB_look h
      refine ⟨h1, ?_⟩
      have e : Nat.beq g0 g = false := by
        cases q : Nat.beq g0 g with
        | false => rfl
        | true =>
          have e : g0 = g := Nat.eq_of_beq_eq_true q
          subst e
          rw [hb] at h1
          cases h1
      simp only [look', e, cond_false]
      exact h2
theorem SimG.leftK {G : Gh} {tmps : Array Value} {w w' : World} (h : SimG C n st G tmps w) {gs os : List Nat} (h1 : Fr (lendC C G w gs os) w') : SimG C n ⟨ptrF st.f, dropB gs st.bx, [], st.gen⟩ ⟨G.box, fun _ => none⟩ tmps w' :=
  { size := h.size
    frame := fun t a ha => by
      rw [ptrF_look] at ha
      obtain ⟨a', ha', rfl⟩ := Option.map_eq_some_iff.1 ha
      obtain ⟨v, hv, hr⟩ := h.frame t a' ha'
      exact ⟨v, hv, ptrA_rep (E := enOf C G st.gen w) rfl rfl hr⟩
    box := fun g cells hc => by
      obtain ⟨hg, c0, h0, rfl⟩ := dropB_look hc
      obtain ⟨b, cs, T, q1, q2, q3, q4, q5⟩ := h.box g c0 h0
      have hlt : b < w.heap.size := (h.gbox g b q1).2.1
      have hn : ¬ (lentBox G gs b ∨ ∃ lim, lentRow G os b lim) := by
        rintro (⟨g', hg', hb'⟩ | ⟨lim, g', hg', r, hr, hra⟩)
        · have e := h.inj _ _ _ hb' q1
          subst e
          have := List.any_eq_false.1 hg g' hg'
          simp at this
        · exact (h.rowAt hr hra).2.1 g q1
      refine ⟨b, cs, T, q1, (h1.block b hlt hn).trans q2, by simpa using q3, q4, fun i u a hu ha => ?_⟩
      rw [List.getElem?_map] at ha
      obtain ⟨a0, ha0, rfl⟩ := Option.map_eq_some_iff.1 ha
      exact scal_rep (q5 i u a0 hu ha0)
    gbox := fun g b hg => ⟨(h.gbox g b hg).1, Nat.lt_of_lt_of_le (h.gbox g b hg).2.1 h1.size, (h.gbox g b hg).2.2⟩
    inj := h.inj, live := fun g hg => by simp at hg, gown := fun g r hr => by simp at hr, row := fun g b len cap sz pub hr => by simp at hr, mrow := fun g b hr => by simp at hr, xold := h.xold, kold := h.kold, lent := h.lent, fr := h.frLend h1 }
end
section
variable {P : Program} {C : Ctx} {n : Nat} {ops : Array Oper} {Q : Exit → St → Prop} {rest : List Oper} {st : St} {o : Oper}
theorem WO.callPk [Met P] [GC P C] (hg : o.guard = none) {x : Operand} {xs : Array Operand} {tys : Array TypeId} (ho : o.op = .call ⟨.value x, xs, tys⟩) {fid : FuncId} {caps as' : List A} (hx : av st.f x = some (.clo fid caps))
    (hxs : avs st.f xs.toList = some as') (gs os : List Nat) (hgs : nodupB gs = true) (hos : nodupB os = true) (hov : (os.all fun g => st.lv.any fun h => Nat.beq h g) = true) {args : List A} {b0 : List (List A)} {v : Value} {m : Nat}
    (hf : DoesP P fid args b0 m v) (harg : (as' ++ caps).map (lendA st.bx gs os 5) = args) (hb : lendBx st.bx gs os gs = some b0) (hm : os.length = m)
    (h : Q (panOf v) ⟨ptrF st.f, dropB gs st.bx, [], st.gen⟩) : WO P C n ops Q (o :: rest) st := by
  subst hm
  subst harg
  intro tmps w ⟨G, hs⟩
  simp only [wpL, Region.wanted, hg, if_true]
  obtain ⟨fn, hfn, hname, hbody⟩ := hf.ok
  have hr := hs.av hx
  rw [← Act.eval_ds tmps C.ds []] at hr
  generalize hv : Act.eval ⟨tmps, C.ds⟩ x = v' at hr
  cases hr with
  | clo _ vs _ hsz hcd =>
  obtain ⟨h1, h2⟩ := avs_rep hs xs.toList as' hxs
  rw [← Act.eval_ds tmps C.ds []] at h2
  have hrun : (execOp (Act.eval ⟨tmps, C.ds⟩) o).run P w = .ok (.enter fid (xs.map (Act.eval ⟨tmps, C.ds⟩) ++ vs)) w := by
    unfold execOp
    rw [ho]
    show Sem.run P (do let d ← resolve (Act.eval ⟨tmps, C.ds⟩) ⟨.value x, xs, tys⟩ o.type; invoke d.target d.args) w = _
    simp only [resolve, hv, Deferred.ofValue, Sem.run_bind, Sem.run_pure, Result.andThen_ok, invoke, callFunc, run_program, hfn, hname, hbody, Bool.false_eq_true, if_false, Array.empty_append]
  obtain ⟨hlen, hent⟩ := hs.lend (gs := gs) (os := os) (nodup_of hgs) (nodup_of hos) (fun g hg => by
    obtain ⟨y, hy, he⟩ := List.any_eq_true.1 (List.all_eq_true.1 hov g hg)
    exact Nat.eq_of_beq_eq_true he ▸ hy) hb
  have hbl := (lendBx_get hb).1
  unfold Oper.wp
  rw [hrun]
  refine (hf.calls (lendC C G w gs os) (lendG G gs os) _ w (GC.inLend hs) rfl hlen rfl (lendC_fp rfl) hent (by simp at h1; simp [hsz, h1]) (fun i u a hu ha => ?_)).mono fun e w' ⟨he, h3⟩ => ?_
  · simp only [List.getElem?_map, Option.map_eq_some_iff] at ha
    obtain ⟨y, hy, rfl⟩ := ha
    refine Rep.lend hs gs os (by omega) 5 u y ?_
    simp only [Array.getElem?_append] at hu
    split at hu
    · rename_i hlt
      simp only [Array.size_map] at hlt
      have hlt' : i < as'.length := by simp at h1; omega
      rw [List.getElem?_append_left hlt'] at hy
      obtain ⟨z, hz, hzr⟩ := h2 i y hy
      simp only [Array.getElem?_map, Option.map_eq_some_iff] at hu
      obtain ⟨z', hz', rfl⟩ := hu
      have : z = z' := by simp at hz; rw [hz'] at hz; exact (Option.some.inj hz).symm
      subst this
      exact hzr
    · rename_i hge
      simp only [Array.size_map] at hge hu
      have hge' : as'.length ≤ i := by simp at h1; omega
      rw [List.getElem?_append_right hge'] at hy
      refine hcd (i - xs.size) u y hu ?_
      have : xs.size = as'.length := by simpa using h1
      rw [this]
      exact hy
  · subst he
    exact ⟨rfl, _, ⟨_, hs.leftK h3⟩, h⟩
end
section
variable {P : Program} {C : Ctx} {n : Nat} {ops : Array Oper} {Q : Exit → St → Prop} {rest : List Oper}
variable {f : List (Nat × A)} {bx : List (Nat × List A)} {lv : List Nat} {gen : Nat} {op : Op} {ty : TypeId} {pos : String} {af : Array Edge} {dst : Option Nat}
theorem callPk [Met P] [GC P C] {x : Operand} {xs : Array Operand} {tys : Array TypeId} {fid : FuncId} {caps as' args : List A} {b0 : List (List A)} {v : Value} {m : Nat} (gs os : List Nat) (hx : av f x = some (.clo fid caps)) (hxs : avs f xs.toList = some as')
    (harg : (as' ++ caps).map (lendA bx gs os 5) = args) (hb : lendBx bx gs os gs = some b0) (hm : os.length = m) (hf : DoesP P fid args b0 m v)
    (hgs : nodupB gs = true) (hos : nodupB os = true) (hov : (os.all fun g => lv.any fun h => Nat.beq h g) = true) (h : Q (panOf v) ⟨ptrF f, dropB gs bx, [], gen⟩) :
    WO P C n ops Q (⟨dst, .call ⟨.value x, xs, tys⟩, ty, pos, af, none⟩ :: rest) ⟨f, bx, lv, gen⟩ :=
  WO.callPk (st := ⟨f, bx, lv, gen⟩) rfl rfl hx hxs gs os hgs hos hov hf harg hb hm h
theorem nilNeq {t t' : Nat} {x : Operand} (hx : av f x = some (.d (.v .nilIface))) (hB : ifaceB P t = true) :
    Pu P C n ⟨f, bx, lv, gen⟩ ⟨dst, .binOp .neq t x (.const .nilIface) t', ty, pos, af, none⟩ (.d (.v (.bool false))) := by
  obtain ⟨ms, hu⟩ := ifaceB_of hB
  refine PuOK.pu fun G tmps w hs => ?_
  have hrx := hs.av hx
  generalize hvx : Act.eval ⟨tmps, []⟩ x = vx at hrx
  cases hrx with | d hrx => cases hrx with | v _ _ =>
  refine ⟨.bool false, ?_, .d (.v _ rfl)⟩
  unfold execOp
  show Sem.run P _ w = _
  have he : (Act.eval ⟨tmps, []⟩ (Operand.const Value.nilIface)) = Value.nilIface := rfl
  simp only [hvx, he, eqGuard, binOp]
  simp [equal_nil w hu]
  rfl
theorem ifNeq {t t' u : Nat} {v : Value} {x : Operand} (hx : av f x = some (.d (.v (.iface u v)))) (hB : ifaceB P t = true) :
    Pu P C n ⟨f, bx, lv, gen⟩ ⟨dst, .binOp .neq t x (.const .nilIface) t', ty, pos, af, none⟩ (.d (.v (.bool true))) := by
  obtain ⟨ms, hu⟩ := ifaceB_of hB
  refine PuOK.pu fun G tmps w hs => ?_
  have hrx := hs.av hx
  generalize hvx : Act.eval ⟨tmps, []⟩ x = vx at hrx
  cases hrx with | d hrx => cases hrx with | v _ _ =>
  refine ⟨.bool true, ?_, .d (.v _ rfl)⟩
  unfold execOp
  show Sem.run P _ w = _
  have he : (Act.eval ⟨tmps, []⟩ (Operand.const Value.nilIface)) = Value.nilIface := rfl
  simp only [hvx, he, eqGuard, binOp]
  simp [equal_ni w hu]
  rfl
theorem assertYes (T : Tab P) {x : Operand} {t i : Nat} {td : TyD} {l : List Value} (ht : look' T.l t = some td) (hk : td.k.agg = true) (hlo : ∀ v ∈ l, okc v = true) (hx : av f x = some (.d (.v (.iface t (.agg l.toArray))))) : Pu P C n ⟨f, bx, lv, gen⟩ ⟨dst, .typeAssert x i t true, ty, pos, af, none⟩ (.tup [.ag (l.map D.v), .d (.v (.bool true))]) := by
  refine PuOK.pu fun G tmps w hs => ?_
  have hr := hs.av hx
  generalize hv : Act.eval ⟨tmps, []⟩ x = v at hr
  cases hr with
  | d hr =>
  have hok : okc (.iface t (.agg l.toArray)) = true := by cases hr with | v _ h => exact h
  have hr := repV_inj hr
  subst hr
  obtain ⟨u, hu, hag⟩ : ∃ u, P.underlying t = some u ∧ (match u with | .interface _ => false | _ => true) = true := by
    have := T.isAgg ht w
    unfold isAgg at this
    cases hu : P.underlying t with
    | none => simp [underlying, hu] at this
    | some u =>
      refine ⟨u, rfl, ?_⟩
      cases u <;> first | rfl | (simp [underlying, hu, hk] at this)
  refine ⟨.tuple #[.agg l.toArray, .bool true], ?_, ?_⟩
  · unfold execOp
    simp only [hv, Instr.typeAssert, Sem.run_bind, run_underlying hu, Result.andThen_ok, Sem.run_pure]
    cases u <;> simp_all
  · refine .tup _ _ rfl fun k u x hu hx => ?_
    match k with
    | 0 =>
      simp at hu hx; subst hu; subst hx
      refine .ag _ _ (by simp) fun k u x hu hx => ?_
      simp only [List.getElem?_map, Option.map_eq_some_iff] at hx
      obtain ⟨y, hy, rfl⟩ := hx
      have hu : l[k]? = some u := by simpa using hu
      rw [hu] at hy
      cases hy
      exact .v _ (hlo u (List.mem_of_getElem? hu))
    | 1 => simp at hu hx; subst hu; subst hx; exact .d (.v _ rfl)
    | k + 2 => simp at hu
end
/-! ### the end of a function whose results are cells -/
theorem fin0 {P : Program} (T : Tab P) {C : Ctx} {n : Nat} {st : St} {G : Gh} {tmps : Array Value} {w : World} {fn : Func} {rs : List RV} {r : A} {l : List A} (hs : SimG C n st G tmps w) (hbx : C.bx = []) (hr : fn.results = (rs.map RV.var).toArray) (hl : resV T st.f st.bx rs = some l) (hno : norm [] (oneA l) = r) :
    ∃ v, (results fn tmps).run P w = .ok v w ∧ ∃ v1 G', Ending.returned v = .returned v1 ∧ SimG C 0 ⟨[], [], List.range 0, 0⟩ G' #[] w ∧ Rep (enOf C G' 0 w) v1 r := by
  obtain ⟨vs, hvs, hvl, hvr⟩ := run_resV T hs rs l hl
  refine ⟨_, run_resultsV hr hvs, _, ⟨fun _ => none, fun _ => none⟩, rfl, ?_, ?_⟩
  · exact { size := rfl, frame := fun t a ha => by simp [look] at ha, box := fun g cells hc => by simp [look'] at hc, gbox := fun g b hb => by simp at hb, inj := fun g g' b hb => by simp at hb,
            live := fun g hg => by simp at hg, gown := fun g r hr => by simp at hr, row := fun g b len cap sz pub hr => by simp at hr, mrow := fun g b hr => by simp at hr, xold := hs.xold, kold := hs.kold, lent := fun i b hb => by rw [hbx] at hb; simp at hb, fr := hs.fr }
  · rw [← hno]
    refine Rep.norm (order := []) (E := enOf C G st.gen w) (E2 := enOf C ⟨fun _ => none, fun _ => none⟩ 0 w) (fun b o u hu hn => ⟨hu, fun hp => hn ?_⟩) (fun g r' hg hr' => ?_) (by simp [enOf]) (oneA_rep hvl hvr)
    · rcases (hp : pvOf C ⟨fun _ => none, fun _ => none⟩ b o) with hp | ⟨g, hp⟩ | ⟨g, len, cap, sz, pub, hp, hle⟩
      · exact Or.inl hp
      · cases hp
      · cases hp
    · cases hr'
theorem WO'.deferEnd {P : Program} {C : Ctx} {n : Nat} {ops : Array Oper} {B : Exit → Act → World → Prop} {y : Code} {f : List (Nat × A)} {bx : List (Nat × List A)} {lv : List Nat} {gen : Nat} {ty : TypeId} {pos : String} {af : Array Edge} {x : Operand} {tys : Array TypeId} {fid : FuncId} (hx : av f x = some (.clo fid [.ptr 0 0, .ptr 1 0, .ptr 2 0]))
    (h : ∀ b0 b1 b2 tmps w G, SimG C n ⟨f, bx, lv, gen⟩ G tmps w → G.box 0 = some b0 → G.box 1 = some b1 → G.box 2 = some b2 → y.wp P B ⟨tmps, dfr fid b0 b1 b2 :: C.ds⟩ w) : WO' P C n ops (Exit.then (y.wp P B) B) [⟨none, .defer ⟨.value x, #[], tys⟩, ty, pos, af, none⟩] ⟨f, bx, lv, gen⟩ :=
  WO'.defer (st := ⟨f, bx, lv, gen⟩) rfl rfl rfl hx fun b0 b1 b2 tmps w G hs e0 e1 e2 => h b0 b1 b2 tmps w G hs e0 e1 e2
theorem leaves_fin {P : Program} (T : Tab P) {C : Ctx} {n : Nat} {st2 : St} {G2 G' : Gh} {tmps2 : Array Value} {w2 w3 : World} {ds2 ds3 : List Deferred} {b0 b1 b2 : Nat} {fn : Func} {rs : List RV} {r : A} {l : List A} {s0 s1 s2 gen' : Nat} {bx' : List (Nat × List A)} (hbx : C.bx = [])
    (hs2 : SimG { C with bx := [b0, b1, b2], ds := ds2 } n st2 G2 tmps2 w2) (k0 : look st2.f s0 = some (.ptr 0 0)) (k1 : look st2.f s1 = some (.ptr 1 0)) (k2 : look st2.f s2 = some (.ptr 2 0))
    (hs3 : SimG { C with bx := [b0, b1, b2], ds := ds3 } 0 ⟨[], bx', [], gen'⟩ G' #[] w3) (hr : fn.results = (rs.map RV.var).toArray) (hl : resV T [(s0, .ptr 0 0), (s1, .ptr 1 0), (s2, .ptr 2 0)] bx' rs = some l) (hno : norm [] (oneA l) = r) :
    ∃ v, (results fn tmps2).run P w3 = .ok v w3 ∧ ∃ v1 G', Ending.returned v = .returned v1 ∧ SimG C 0 ⟨[], [], List.range 0, 0⟩ G' #[] w3 ∧ Rep (enOf C G' 0 w3) v1 r := by
  have key : ∀ (i b s : Nat), [b0, b1, b2][i]? = some b → look st2.f s = some (.ptr i 0) → ∃ v, tmps2[s]? = some v ∧ Rep (enOf C G' gen' w3) v (.ptr i 0) := by
    intro i b s hb hk
    obtain ⟨v, hv, hr⟩ := hs2.frame s _ hk
    refine ⟨v, hv, ?_⟩
    cases hr with
    | ptr _ _ _ b' _ h1 h2 =>
      have e : b' = b := by
        have h3 := hs2.lent i b hb
        have h1 : G2.box i = some b' := h1
        rw [h3] at h1
        exact (Option.some.inj h1).symm
      subst e
      have h4 := hs3.lent i b' hb
      exact .ptr _ _ _ b' (hs3.gbox i b' h4).1 h4 h2
  have hs4 : SimG C n ⟨[(s0, .ptr 0 0), (s1, .ptr 1 0), (s2, .ptr 2 0)], bx', [], gen'⟩ G' tmps2 w3 := by
    have h5 := hs3.chg (bs := C.bx) (ds := C.ds) (fun i b hb => by rw [hbx] at hb; simp at hb)
    exact { h5 with
      size := hs2.size
      frame := fun t a ha => by
        have ha : look [(s0, A.ptr 0 0), (s1, A.ptr 1 0), (s2, A.ptr 2 0)] t = some a := ha
        rw [look_cons, look_cons, look_cons] at ha
        split at ha
        · rename_i e
          cases ha
          exact e ▸ key 0 b0 s0 rfl k0
        · split at ha
          · rename_i e
            cases ha
            exact e ▸ key 1 b1 s1 rfl k1
          · split at ha
            · rename_i e
              cases ha
              exact e ▸ key 2 b2 s2 rfl k2
            · simp [look] at ha }
  exact fin0 T hs4 hbx hr hl hno
theorem Does.of_W' {P : Program} [Met P] {f : FuncId} {fn : Func} {c : Code} {n : Nat} {args : List A} {r : A} (hf : P.funcs[f]? = some fn) (hname : (fn.name == "runtime.NumGoroutine") = false) (hb : fn.body = some c) (hn : fn.ntmps = n)
    (hlen : Nat.ble args.length n = true) (h : ∀ C, NB C 0 → GC P C → C.bx = [] → C.ds = [] →
      W' P C n c (bodyPostD P fn fun e w' => ∃ v G', e = .returned v ∧ SimG C 0 ⟨[], [], List.range 0, 0⟩ G' #[] w' ∧ Rep (enOf C G' 0 w') v r) ⟨args0 0 args, [], [], 0⟩) : Does P f args r 0 := by
  have hlen := Nat.le_of_ble_eq_true hlen
  refine ⟨⟨fn, hf, hname, by rw [hb]; rfl⟩, fun C vals w hG hw hp hx hsz hrep => ?_⟩
  subst hw
  refine calls_of_wp_defers hf hb (wp_ds hp.2.2.2 (h C ⟨by rw [hp.2.2.1]; rfl⟩ hG hp.2.2.1 hp.2.2.2 (vals ++ Array.replicate (fn.ntmps - vals.size) undef) C.w0 ⟨G0, ?_⟩))
  refine { size := by simp [hn]; omega, frame := fun t a ha => ?_, box := fun g cells hc => by simp [look'] at hc, gbox := fun g b hb => by simp [G0] at hb, inj := fun g g' b hb => by simp [G0] at hb,
           live := fun g hg => by simp at hg, gown := fun g r hr => by simp [G0] at hr, row := fun g b len cap sz pub hr => by simp [G0] at hr, mrow := fun g b hr => by simp [G0] at hr, xold := fun b o hb => ⟨hx b o hb, hp.1 b⟩, kold := fun b o hb => absurd hb (hp.2.1 b o), lent := fun i b hb => by rw [hp.2.2.1] at hb; simp at hb,
           fr := ⟨rfl, rfl, rfl, Nat.le_refl _, fun _ _ _ => rfl, fun _ _ _ hb => absurd hb (hp.2.1 _ _), TyKept.refl _⟩ }
  obtain ⟨_, h1⟩ := args0_look args 0 t a ha
  have h2 : t < args.length := (List.getElem?_eq_some_iff.1 (by simpa using h1)).1
  have h3 : t < vals.size := by omega
  have h4 : vals[t]? = some vals[t] := by simp [h3]
  exact ⟨vals[t], by rw [Array.getElem?_append_left h3]; exact h4, hrep t _ a h4 (by simpa using h1)⟩
/-! ### a deferred closure that asks for the panic's value -/
section
variable {P : Program} {ops : Array Oper} {Q : Exit → Act → List Frame → World → Prop} {rest : List Nat} {i : Nat} {a : Act} {cs : List Frame} {w : World} {o : Oper}
theorem opsS_recover {tm : Array Value} {ds : List Deferred} {d : Nat} (ho : ops[i]? = some o) (hg : o.guard = none) (hop : o.op = .call ⟨.builtin .recover, #[], #[]⟩) (hd : o.dst = some d)
    (h : match recoverD cs with | some (v, cs') => wpOpsS P ops Q rest ⟨tm.setIfInBounds d v, ds⟩ cs' w | none => wpOpsS P ops Q rest ⟨tm.setIfInBounds d .nilIface, ds⟩ cs w) : wpOpsS P ops Q (i :: rest) ⟨tm, ds⟩ cs w := by
  simp only [wpOpsS, ho, Region.wanted, hg, if_true]
  have hrun : (execOp (Act.eval ⟨tm, ds⟩) o).run P w = .ok .recover w := by
    unfold execOp
    rw [hop]
    simp [resolve, invoke, builtin, Sem.run_bind, Sem.run_pure]
  rw [hrun, hd]
  exact h
theorem opsS_copy {tm : Array Value} {ds : List Deferred} {d d0 : Nat} {v : Value} (ho : ops[i]? = some o) (hg : o.guard = none) (hop : o.op = .assign (.tmp d0)) (hd : o.dst = some d) (hv : tm[d0]? = some v) (h : wpOpsS P ops Q rest ⟨tm.setIfInBounds d v, ds⟩ cs w) : wpOpsS P ops Q (i :: rest) ⟨tm, ds⟩ cs w := by
  simp only [wpOpsS, ho, Region.wanted, hg, if_true]
  have he : Act.eval ⟨tm, ds⟩ (.tmp d0) = v := by
    show tm.getD d0 undef = v
    rw [Array.getD_eq_getD_getElem?, hv]; rfl
  have hrun : (execOp (Act.eval ⟨tm, ds⟩) o).run P w = .ok (.value v) w := by
    unfold execOp
    rw [hop, ← he]
    rfl
  rw [hrun]
  show Oper.upon P o ⟨tm, ds⟩ (fun a' w' => wpOpsS P ops Q rest a' cs w') (fun e a' w' => Q e a' cs w') (.ok (.value v) w)
  rw [Oper.upon_value, hd]
  exact h
theorem opsS_nil (h : Q .normal a cs w) : wpOpsS P ops Q [] a cs w := h
end
end Go.Ab
namespace Go.Tb
open Go.Ab
section
variable {l : List UInt8}
structure Vd (l : List UInt8) (k : Nat) : Prop where
  v : ∀ level i v j, i ≤ l.length → valJ l k level i = .ok v j → checkJ v level = 0 ∧ (printJ v).length + i ≤ j
  a : ∀ level i v j, i ≤ l.length → level ≤ 16 → arrJ l k level i = .ok v j → checkJ v level = 0 ∧ (printJ v).length + i ≤ j + 1
  ag : ∀ level i acc v j, i ≤ l.length → level ≤ 16 → arrGo l k level i acc = .ok v j → ∃ x r, v = .mk 5 0 (B #[]) [] (acc ++ x :: r) ∧ checkJs (x :: r) (level + 1) = 0 ∧ (itemsJ (x :: r) true).length + 1 + i ≤ j
  o : ∀ level i v j, i ≤ l.length → level ≤ 16 → objJ l k level i = .ok v j → checkJ v level = 0 ∧ (printJ v).length + i ≤ j + 1
  og : ∀ level i keys acc v j, i ≤ l.length → level ≤ 16 → objGo l k level i keys acc = .ok v j → ∃ s ks x r, v = .mk 6 0 (B #[]) (keys ++ s :: ks) (acc ++ x :: r) ∧ ks.length = r.length ∧ (∀ s' ∈ s :: ks, plainB s' = true) ∧ rept keys (s :: ks) = false ∧ checkJs (x :: r) (level + 1) = 0 ∧ (membersJ (s :: ks) (x :: r) true).length + 1 + i ≤ j
end
end Go.Tb
namespace Go.Tb
open Go.Ab
def EW {α : Type} : PE α → Prop
  | .ok _ _ => True
  | .no _ w => w = 2 ∨ w = 4 ∨ w = 10 ∨ w = 20
theorem e10 {α : Type} {a : Nat} : EW (.no a 10 : PE α) := .inr (.inr (.inl rfl))
theorem EW.of {α β : Type} {a : Nat} {w : Int} (h : EW (.no a w : PE α)) : EW (.no a w : PE β) := h
section
variable {l : List UInt8}
theorem takeJ_e {c : UInt8} {i : Nat} : EW (takeJ l c i) := by
  unfold takeJ; split
  · trivial
  · exact e10
theorem wordJ_e {x : List UInt8} {i : Nat} : EW (wordJ l x i) := by
  cases h : wordJ l x i with
  | ok => trivial
  | no a w => rw [wordJ_no h]; exact e10
theorem escJ_e {i : Nat} : EW (escJ l i) := by
  rw [escJ_eq]
  split
  · trivial
  · split
    · trivial
    · split
      · trivial
      · unfold esc1
        have := wordJ_e (l := l) (x := [117, 48, 48]) (i := i)
        cases h : wordJ l [117, 48, 48] i with
        | no a w => rw [h] at this; exact this
        | ok u j =>
          dsimp only
          unfold esc2
          split
          · exact e10
          · split
            · exact e10
            · unfold esc3
              split
              · exact e10
              · split
                · exact e10
                · trivial
theorem textGo_e : ∀ {k i : Nat} {acc : List UInt8}, EW (textGo l k i acc)
  | 0, _, _ => e10
  | k + 1, i, acc => by
    unfold textGo
    split
    · exact e10
    · split
      · trivial
      · split
        · have := escJ_e (l := l) (i := i + 1)
          cases h : escJ l (i + 1) with
          | no a w => rw [h] at this; exact this
          | ok c j => exact textGo_e
        · exact textGo_e
theorem textJ_e {i : Nat} : EW (textJ l i) := by
  unfold textJ
  have := takeJ_e (l := l) (c := 34) (i := i)
  cases h : takeJ l 34 i with
  | no a w => rw [h] at this; exact this
  | ok u j => exact textGo_e
theorem numJ_e {i : Nat} : EW (numJ l i) := by
  unfold numJ
  dsimp only
  generalize (if hereB l i = 45 then i + 1 else i) = i1
  by_cases q : digsJ l i1 = i1
  · rw [if_pos q]; exact e10
  · rw [if_neg q]
    by_cases c : (numP (if (⟨((l.drop i).take (digsJ l i1 - i)).toArray⟩ : ByteArray) = B #[45, 48] then B #[48] else ⟨((l.drop i).take (digsJ l i1 - i)).toArray⟩)).2 = true
    · rw [if_pos c]; trivial
    · rw [if_neg c]; exact .inl rfl
theorem word_e {x : List UInt8} {v : JV} {i : Nat} : EW (match wordJ l x i with | .no a w => .no a w | .ok _ j => .ok v j) := by
  have := wordJ_e (l := l) (x := x) (i := i)
  cases h : wordJ l x i with
  | no a w => rw [h] at this; exact this
  | ok u j => trivial
structure Er (l : List UInt8) (k : Nat) : Prop where
  v : ∀ level i, EW (valJ l k level i)
  a : ∀ level i, EW (arrJ l k level i)
  ag : ∀ level i acc, EW (arrGo l k level i acc)
  o : ∀ level i, EW (objJ l k level i)
  og : ∀ level i keys acc, EW (objGo l k level i keys acc)
theorem errs : ∀ k, Er l k
  | 0 => ⟨fun _ _ => by unfold valJ; exact e10, fun _ _ => by unfold arrJ; exact e10, fun _ _ _ => by unfold arrGo; exact e10, fun _ _ => by unfold objJ; exact e10, fun _ _ _ _ => by unfold objGo; exact e10⟩
  | k + 1 => by
    have ih := errs k
    refine ⟨fun level i0 => ?_, fun level i0 => ?_, fun level i acc => ?_, fun level i0 => ?_, fun level i0 keys acc => ?_⟩
    · rw [valJ_eq]
      split
      · exact word_e
      · split
        · exact word_e
        · split
          · exact word_e
          · split
            · have ht := textJ_e (l := l) (i := skipB l i0)
              cases hr : textJ l (skipB l i0) with
              | no a w => rw [hr] at ht; exact ht
              | ok t j => trivial
            · split
              · split
                · exact .inr (.inr (.inr rfl))
                · split
                  · exact ih.a _ _
                  · exact ih.o _ _
              · exact numJ_e
    · rw [arrJ_eq]
      split
      · trivial
      · exact ih.ag _ _ _
    · rw [arrGo_eq]
      have hv := ih.v (level + 1) i
      cases hr : valJ l k (level + 1) i with
      | no a w => rw [hr] at hv; exact hv
      | ok v j =>
        dsimp only
        split
        · exact ih.ag _ _ _
        · have ht := takeJ_e (l := l) (c := 93) (i := skipB l j)
          cases hr2 : takeJ l 93 (skipB l j) with
          | no a w => rw [hr2] at ht; exact ht
          | ok u j2 => trivial
    · rw [objJ_eq]
      split
      · trivial
      · exact ih.og _ _ _ _
    · rw [objGo_eq]
      have ht := textJ_e (l := l) (i := skipB l i0)
      cases hr : textJ l (skipB l i0) with
      | no a w => rw [hr] at ht; exact ht
      | ok t j =>
        dsimp only
        split
        · exact .inr (.inl rfl)
        · have ht2 := takeJ_e (l := l) (c := 58) (i := skipB l j)
          cases hr2 : takeJ l 58 (skipB l j) with
          | no a w => rw [hr2] at ht2; exact ht2
          | ok u j1 =>
            dsimp only
            have hv := ih.v (level + 1) j1
            cases hr3 : valJ l k (level + 1) j1 with
            | no a w => rw [hr3] at hv; exact hv
            | ok v j2 =>
              dsimp only
              split
              · exact ih.og _ _ _ _
              · have ht3 := takeJ_e (l := l) (c := 125) (i := skipB l j2)
                cases hr4 : takeJ l 125 (skipB l j2) with
                | no a w => rw [hr4] at ht3; exact ht3
                | ok u j3 => trivial
theorem parse_e : EW (parseJ l) := by
  unfold parseJ
  have hv := (errs (l := l) (3 * l.length + 1)).v 1 0
  cases hr : valJ l (3 * l.length + 1) 1 0 with
  | no a w => rw [hr] at hv; exact hv
  | ok v j => dsimp only; split; exact e10; trivial
end
end Go.Tb
namespace Go.Ab
open Go.RowKit
theorem RepD.sub {w : World} {pv : Nat → Nat → Prop} {v : Value} {es : List (List D)} (h : RepD w pv v (.sl es)) {i j sz : Nat} (hij : i ≤ j) (hj : j ≤ es.length) (hsz : ∀ e ∈ es, e.length = sz) :
    ∃ a cap, v = .slice a es.length cap ∧ es.length ≤ cap ∧ RepD w pv (sliced a i j cap sz) (.sl ((es.take j).drop i)) := by
  cases h with
  | nil =>
    have e1 : j = 0 := by simpa using hj
    subst e1
    have e2 : i = 0 := by omega
    subst e2
    exact ⟨none, 0, rfl, Nat.le_refl _, .nil⟩
  | emp a cap hm =>
    have e1 : j = 0 := by simpa using hj
    subst e1
    have e2 : i = 0 := by omega
    subst e2
    refine ⟨some a, cap, rfl, Nat.zero_le _, ?_⟩
    simp only [sliced, List.take_zero, List.drop_zero, Nat.sub_zero]
    split
    · exact .emp a cap hm
    · exact .emp _ cap hm
  | sl b off len cap sz' es u hl hc hm hs hu hr =>
    refine ⟨_, cap, by rw [hl], by omega, ?_⟩
    rcases Nat.eq_or_lt_of_le hij with e | hlt
    · subst e
      rw [show (es.take i).drop i = [] from List.drop_eq_nil_of_le (List.length_take_le _ _)]
      simp only [sliced, Nat.sub_self]
      split
      · exact .emp _ _ (by omega)
      · exact .emp _ _ (by omega)
    · have e : sz' = sz := by
        obtain ⟨x, hx⟩ : ∃ x, es[0]? = some x := ⟨es[0]'(by omega), by simp⟩
        rw [← hs 0 x hx, hsz x (List.mem_of_getElem? hx)]
      subst e
      have hne : cap ≠ i := by omega
      have ha : ∀ (k : Nat) (x : List D), ((es.take j).drop i)[k]? = some x → es[i + k]? = some x ∧ k < j - i := fun k x hk => by
        have hk' := hk
        rw [List.getElem?_drop] at hk
        have h1 := (List.getElem?_eq_some_iff.1 hk).1
        rw [List.length_take] at h1
        rw [List.getElem?_take, if_pos (by omega)] at hk
        exact ⟨hk, by omega⟩
      simp only [sliced, if_neg hne, Option.map_some]
      rw [show (Addr.add ⟨b, off, none⟩ (i * sz')) = ⟨b, off + i * sz', none⟩ from by simp [Addr.add]]
      refine .sl b (off + i * sz') (j - i) (cap - i) sz' _ (fun k c => u (i + k) c) ?_ (by omega) (by omega) (fun k x hk => hs _ x (ha k x hk).1) (fun k c hk hc' => ?_) (fun k c x d hk hd => hr _ c x d (ha k x hk).1 hd)
      · rw [List.length_drop, List.length_take]; omega
      · have := hu (i + k) c (by omega) hc'
        rw [show off + (i + k) * sz' + c = off + i * sz' + k * sz' + c from by rw [Nat.add_mul]; omega] at this
        exact this
section
variable {P : Program} (T : Tab P) {C : Ctx} {n : Nat}
variable {f : List (Nat × A)} {bx : List (Nat × List A)} {lv : List Nat} {gen : Nat} {ty : TypeId} {pos : String} {af : Array Edge} {dst : Option Nat} {G : Gh} {tmps : Array Value} {w : World}
end
end Go.Ab
namespace Go.Ab
open Go.RowKit
section
variable {P : Program} {C : Ctx} {n : Nat} {f : List (Nat × A)} {bx : List (Nat × List A)} {lv : List Nat} {gen : Nat} {ty : TypeId} {pos : String} {af : Array Edge} {dst : Option Nat}
def byteSlB (P : Program) (t u : TypeId) : Bool := match P.underlying t, P.underlying u with
  | some (.slice e), some .string => (match P.underlying e with | some (.int .u8) => true | _ => false)
  | _, _ => false
theorem byteSlB_of {t u : TypeId} (h : byteSlB P t u = true) : ∃ e, P.underlying t = some (.slice e) ∧ P.underlying u = some .string ∧ P.underlying e = some (.int .u8) := by
  unfold byteSlB at h
  split at h
  · rename_i e h1 h2
    refine ⟨e, h1, h2, ?_⟩
    split at h
    · assumption
    · cases h
  · cases h
theorem convB {t u : Nat} {x : Operand} {c : Int} {s : ByteArray} (hx : av f x = some (.d (.sl [[.v (.int .u8 c)]]))) (hB : byteSlB P t u = true) (hs : ByteArray.empty.push (UInt8.ofNat c.toNat) = s) : Pu P C n ⟨f, bx, lv, gen⟩ ⟨dst, .convert t u x, ty, pos, af, none⟩ (.d (.v (.string s))) := by
  subst hs
  obtain ⟨e, h1, h2, h3⟩ := byteSlB_of hB
  refine PuOK.pu fun G tmps w hs => ?_
  have hrx := hs.av hx
  generalize hvx : Act.eval ⟨tmps, []⟩ x = vx at hrx
  cases hrx with | d hrx =>
  cases hrx with
  | sl b off len cap sz es u' hl hc hm hsz hu hr =>
  have hlen : len = 1 := by simpa using hl.symm
  subst hlen
  have hz : sz = 1 := by have := hsz 0 [.v (.int .u8 c)] rfl; simpa using this.symm
  subst hz
  have hcell := (hu 0 0 (by decide) (by decide)).1
  have hval := hr 0 0 [.v (.int .u8 c)] (.v (.int .u8 c)) rfl rfl
  have hval : u' 0 0 = .int .u8 c := repV_inj hval
  rw [hval] at hcell
  have hl : (loadCells ⟨b, off, none⟩ 1).run P w = .ok ([c].map (Value.int .u8)).toArray w := run_loadCells_list w ⟨b, off, none⟩ [.int .u8 c] fun j v hj => by
    match j with
    | 0 =>
      simp at hj; subst hj
      have hcell : cellAt w b off = some (.int .u8 c) := by simpa using (show cellAt w b (off + 0 * 1 + 0) = some (.int .u8 c) from hcell)
      exact hcell
    | j + 1 => simp at hj
  refine ⟨.string (ByteArray.empty.push (UInt8.ofNat c.toNat)), ?_, .d (.v _ (by simp [okc, maxLen]))⟩
  show Sem.run P (execOp _ _) w = .ok _ w
  unfold execOp
  simp only [hvx, convert, Sem.run_bind, run_underlying h1, run_underlying h2, Result.andThen_ok, run_underlying h3]
  have hb := run_bytesToString (P := P) w ⟨b, off, none⟩ 1 cap [c] hl
  show Result.andThen (Sem.run P (Conv.bytesToString _) w) _ = _
  rw [hb]
  rfl
end
end Go.Ab
namespace Go.Ab
theorem W.gen {P : Program} {C : Ctx} {n : Nat} {c : Code} {Q : Exit → St → Prop} {f : List (Nat × A)} {bx : List (Nat × List A)} {lv : List Nat} {gen : Nat} (g : Nat) (h : Nat.ble gen g = true) (hW : W P C n c Q ⟨f, bx, lv, g⟩) : W P C n c Q ⟨f, bx, lv, gen⟩ :=
  fun tmps w ⟨G, hs⟩ => hW tmps w ⟨G, SimG.later hs (g := g) (Nat.le_of_ble_eq_true h)⟩
end Go.Ab
