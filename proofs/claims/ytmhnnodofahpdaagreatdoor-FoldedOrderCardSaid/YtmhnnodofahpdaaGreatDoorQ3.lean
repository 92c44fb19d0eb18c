import Derived.Test.YtmhnnodofahpdaaGreatDoorQ2
import Derived.Laws.Slices
import Derived.Lib.AppendStr
import Derived.Lib.Builder
import Derived.Lib.UnsafeStr
namespace Go.Tb
open Go.Ab
/-! the keys in their order -/
def ltK (a b : ByteArray) : Prop := lessTs (cutB a 59) (cutB b 59) = true
theorem cut_inj {a b : ByteArray} (h : cutB a 59 = cutB b 59) : a = b := by rw [← joinB_cut a 59, h, joinB_cut]
theorem ltK_irrefl (a : ByteArray) : ¬ ltK a a := by unfold ltK; rw [less_irrefl]; simp
theorem ltK_trans (a b d : ByteArray) (h : ltK a b) (g : ltK b d) : ltK a d := less_trans h g
theorem cmpK_cut {l : List Smp} (h : OkL l) {a b : ByteArray} (ha : has l a) (hb : has l b) : cmpK (stks l) a b = cmpTs (cutB a 59) (cutB b 59) := by
  unfold cmpK
  rw [stks_get l h, stks_get l h, if_pos ha, if_pos hb]
  rfl
theorem cmpK_laws (m : List (ByteArray × List ByteArray)) : Cmp (cmpK m) := ⟨fun _ _ => cmpTs_anti _ _, fun _ _ _ => cmpTs_tr _ _ _⟩
theorem keys_sorted {l : List Smp} (h : OkL l) {d : List ByteArray} (hp : d.Perm ((sums l).map (·.1))) (hs : d.Pairwise fun a b => ¬ cmpK (stks l) b a < 0) : d.Pairwise ltK ∧ ∀ k, k ∈ d ↔ has l k := by
  have hm : ∀ k, k ∈ d ↔ has l k := fun k => hp.mem_iff.trans (sums_keys l k)
  have hn : d.Nodup := hp.nodup_iff.2 (sums_nodup l)
  refine ⟨?_, hm⟩
  rw [List.pairwise_iff_getElem] at hs ⊢
  intro i j hi hj hij
  have h1 := hs i j hi hj hij
  have ha : has l d[i] := (hm _).1 (List.getElem_mem hi)
  have hb : has l d[j] := (hm _).1 (List.getElem_mem hj)
  rw [cmpK_cut h hb ha] at h1
  have h2 : lessTs (cutB d[j] 59) (cutB d[i] 59) = false := by rw [lessTs_cmp, decide_eq_false_iff_not]; exact h1
  unfold ltK
  cases h3 : lessTs (cutB d[i] 59) (cutB d[j] 59) with
  | true => rfl
  | false => exact absurd (cut_inj (less_total h3 h2)) ((List.pairwise_iff_getElem.1 hn) i j hi hj hij)
theorem keysF_spec {l : List Smp} (h : OkL l) : (keysF l).Pairwise ltK ∧ ∀ k, k ∈ keysF l ↔ has l k := by
  have c := cmpK_laws (stks l)
  refine keys_sorted h (List.mergeSort_perm _ _) ?_
  have := List.pairwise_mergeSort (le := fun x y => decide (cmpK (stks l) x y ≤ 0)) (fun a b d p q => by simp only [decide_eq_true_eq] at p q ⊢; exact c.tr a b d p q)
    (fun a b => by have := c.anti a b; simp only [Bool.or_eq_true, decide_eq_true_eq]; omega) ((sums l).map (·.1))
  exact this.imp fun {a b} e => by have := c.anti a b; simp only [decide_eq_true_eq] at e; omega
theorem keysF_of {l : List Smp} (h : OkL l) {d : List ByteArray} (hp : d.Perm ((sums l).map (·.1))) (hs : d.Pairwise fun a b => ¬ cmpK (stks l) b a < 0) : d = keysF l := by
  obtain ⟨h1, h2⟩ := keys_sorted h hp hs
  obtain ⟨h3, h4⟩ := keysF_spec h
  exact uniq_sorted ltK_irrefl ltK_trans h1 h3 fun k => (h2 k).trans (h4 k).symm
/-! the text -/
theorem textF_congr {m m' : List (ByteArray × Int)} : ∀ (ks : List ByteArray) (b : ByteArray), (∀ k ∈ ks, (mget m k).getD 0 = (mget m' k).getD 0) → textF m ks b = textF m' ks b
  | [], _, _ => rfl
  | k :: r, b, h => by
    simp only [textF]
    rw [h k List.mem_cons_self, textF_congr r _ fun z hz => h z (List.mem_cons_of_mem _ hz)]
def wtF (l : List Smp) (k : ByteArray) : Int := min 1000000000001 (tot l k)
theorem sums_wt {l : List Smp} (h : OkL l) {k : ByteArray} (hk : has l k) : (mget (sums l) k).getD 0 = wtF l k := by
  rw [sums_get l h, if_pos hk]; rfl
theorem print_same {l m : List Smp} (hl : OkL l) (hm : OkL m) (ht : ∀ k, tot l k = tot m k) (hh : ∀ k, has l k ↔ has m k) : printF l = printF m := by
  have hk : keysF l = keysF m := uniq_sorted ltK_irrefl ltK_trans (keysF_spec hl).1 (keysF_spec hm).1 fun k => ((keysF_spec hl).2 k).trans ((hh k).trans ((keysF_spec hm).2 k).symm)
  unfold printF
  rw [if_pos (okL_iff.2 hl), if_pos (okL_iff.2 hm), hk]
  refine textF_congr _ _ fun k q => ?_
  have q2 : has m k := ((keysF_spec hm).2 k).1 q
  rw [sums_wt hl ((hh k).2 q2), sums_wt hm q2]
  unfold wtF
  rw [ht k]
/-! the reference's list -/
theorem putF_nil (x : Smp) : putF [] x = [x] := rfl
theorem putF_cons (y : Smp) (r : List Smp) (x : Smp) : putF (y :: r) x = if lessTs y.stack x.stack then y :: putF r x else if lessTs x.stack y.stack then x :: y :: r else ⟨x.thread, x.tm, x.weight + y.weight, x.stack⟩ :: r := by
  unfold putF putAt
  rw [List.takeWhile_cons]
  cases h : lessTs y.stack x.stack with
  | true =>
    simp only [if_true, List.length_cons, List.drop_succ_cons, List.take_succ_cons]
    split <;> (try split) <;> rfl
  | false =>
    simp only [Bool.false_eq_true, if_false, List.length_nil, List.drop_zero, List.take_zero, List.nil_append]
abbrev SortS (l : List Smp) : Prop := l.Pairwise fun a b => lessTs a.stack b.stack = true
theorem less_ne {a b : List ByteArray} (h : lessTs a b = true) : a ≠ b := fun e => by rw [e, less_irrefl] at h; cases h
theorem put_mem (x : Smp) : ∀ {l : List Smp}, SortS l → ∀ {z : Smp}, z ∈ putF l x → (z ∈ l ∧ z.stack ≠ x.stack) ∨ (z.stack = x.stack ∧ ((z.weight = x.weight ∧ ∀ y ∈ l, y.stack ≠ x.stack) ∨ ∃ y ∈ l, y.stack = x.stack ∧ z.weight = x.weight + y.weight))
  | [], _, z, h => by
    rw [putF_nil, List.mem_singleton] at h
    subst h
    exact .inr ⟨rfl, .inl ⟨rfl, fun y hy => by cases hy⟩⟩
  | y :: r, hl, z, h => by
    have h1 := List.pairwise_cons.1 hl
    rw [putF_cons] at h
    split at h
    · rename_i q
      rcases List.mem_cons.1 h with e | h
      · subst e; exact .inl ⟨List.mem_cons_self, less_ne q⟩
      · rcases put_mem x h1.2 h with ⟨a, b⟩ | ⟨a, ⟨b, d⟩ | ⟨w, hw, b⟩⟩
        · exact .inl ⟨List.mem_cons_of_mem _ a, b⟩
        · refine .inr ⟨a, .inl ⟨b, fun w hw => ?_⟩⟩
          rcases List.mem_cons.1 hw with e | hw
          · subst e; exact less_ne q
          · exact d w hw
        · exact .inr ⟨a, .inr ⟨w, List.mem_cons_of_mem _ hw, b⟩⟩
    · rename_i q
      split at h
      · rename_i q2
        have hne : ∀ w ∈ y :: r, w.stack ≠ x.stack := fun w hw => by
          rcases List.mem_cons.1 hw with e | hw
          · subst e; exact Ne.symm (less_ne q2)
          · exact Ne.symm (less_ne (less_trans q2 (h1.1 w hw)))
        rcases List.mem_cons.1 h with e | h
        · subst e; exact .inr ⟨rfl, .inl ⟨rfl, hne⟩⟩
        · exact .inl ⟨h, hne z h⟩
      · rename_i q2
        have e : y.stack = x.stack := less_total (by simpa using q) (by simpa using q2)
        rcases List.mem_cons.1 h with e2 | h
        · subst e2; exact .inr ⟨rfl, .inr ⟨y, List.mem_cons_self, e, rfl⟩⟩
        · exact .inl ⟨List.mem_cons_of_mem _ h, by rw [← e]; exact Ne.symm (less_ne (h1.1 z h))⟩
theorem put_new (x : Smp) : ∀ (l : List Smp), ∃ z ∈ putF l x, z.stack = x.stack
  | [] => ⟨x, by rw [putF_nil]; simp, rfl⟩
  | y :: r => by
    rw [putF_cons]
    split
    · obtain ⟨z, hz, e⟩ := put_new x r
      exact ⟨z, List.mem_cons_of_mem _ hz, e⟩
    · split
      · exact ⟨x, List.mem_cons_self, rfl⟩
      · exact ⟨_, List.mem_cons_self, rfl⟩
theorem put_old (x : Smp) : ∀ {l : List Smp} {z : Smp}, z ∈ l → z.stack ≠ x.stack → z ∈ putF l x
  | y :: r, z, h, hne => by
    rw [putF_cons]
    split
    · rcases List.mem_cons.1 h with e | h
      · subst e; exact List.mem_cons_self
      · exact List.mem_cons_of_mem _ (put_old x h hne)
    · rename_i q
      split
      · exact List.mem_cons_of_mem _ h
      · rename_i q2
        rcases List.mem_cons.1 h with e | h
        · subst e; exact absurd (less_total (by simpa using q) (by simpa using q2)) hne
        · exact List.mem_cons_of_mem _ h
theorem put_sorted (x : Smp) : ∀ {l : List Smp}, SortS l → SortS (putF l x)
  | [], _ => by rw [putF_nil]; exact List.pairwise_singleton _ _
  | y :: r, hl => by
    have h1 := List.pairwise_cons.1 hl
    rw [putF_cons]
    split
    · rename_i q
      refine List.pairwise_cons.2 ⟨fun z hz => ?_, put_sorted x h1.2⟩
      rcases put_mem x h1.2 hz with ⟨a, _⟩ | ⟨a, _⟩
      · exact h1.1 z a
      · rw [a]; exact q
    · rename_i q
      split
      · rename_i q2
        refine List.pairwise_cons.2 ⟨fun z hz => ?_, hl⟩
        rcases List.mem_cons.1 hz with e | hz
        · subst e; exact q2
        · exact less_trans q2 (h1.1 z hz)
      · rename_i q2
        have e : y.stack = x.stack := less_total (by simpa using q) (by simpa using q2)
        exact List.pairwise_cons.2 ⟨fun z hz => by show lessTs x.stack z.stack = true; rw [← e]; exact h1.1 z hz, h1.2⟩
structure PutOk (l all : List Smp) : Prop where
  srt : SortS all
  has : ∀ k, has all k ↔ has l k
  el : ∀ x ∈ all, cutB (keyS x) 59 = x.stack ∧ x.weight = tot l (keyS x)
theorem keyS_eq {x y : Smp} (h : x.stack = y.stack) : keyS x = keyS y := by unfold keyS; rw [h]
theorem PutOk.put {l all : List Smp} (h : PutOk l all) {x : Smp} (hx : OkS x) : PutOk (l ++ [x]) (putF all x) where
  srt := put_sorted x h.srt
  has k := by
    rw [has_snoc, ← h.has k]
    constructor
    · rintro ⟨z, hz, e⟩
      rcases put_mem x h.srt hz with ⟨a, _⟩ | ⟨a, _⟩
      · exact .inl ⟨z, a, e⟩
      · exact .inr ((keyS_eq a).symm.trans e)
    · rintro (⟨z, hz, e⟩ | e)
      · by_cases q : z.stack = x.stack
        · obtain ⟨z', hz', e'⟩ := put_new x all
          exact ⟨z', hz', (keyS_eq e').trans ((keyS_eq q).symm.trans e)⟩
        · exact ⟨z, put_old x hz q, e⟩
      · obtain ⟨z', hz', e'⟩ := put_new x all
        exact ⟨z', hz', (keyS_eq e').trans e⟩
  el z hz := by
    rcases put_mem x h.srt hz with ⟨a, b⟩ | ⟨a, ⟨b, d⟩ | ⟨y, hy, b, d⟩⟩
    · obtain ⟨h1, h2⟩ := h.el z a
      refine ⟨h1, ?_⟩
      rw [tot_snoc, if_neg fun e => b (by rw [← h1, ← e, hx.cut]), h2]; omega
    · refine ⟨by rw [keyS_eq a, hx.cut, a], ?_⟩
      have hn : ¬ Tb.has l (keyS x) := fun e => by
        obtain ⟨y, hy, e2⟩ := (h.has _).2 e
        exact d y hy (by rw [← (h.el y hy).1, e2, hx.cut])
      rw [tot_snoc, keyS_eq a, if_pos rfl, tot_none hn, b]; omega
    · refine ⟨by rw [keyS_eq a, hx.cut, a], ?_⟩
      rw [tot_snoc, keyS_eq a, if_pos rfl, d, (h.el y hy).2, keyS_eq b]; omega
theorem puts_ok (l : List Smp) (h : OkL l) : PutOk l (putsF l) := by
  revert h
  refine snoc_ind (p := fun l => OkL l → PutOk l (putsF l)) (fun _ => ⟨List.Pairwise.nil, fun k => Iff.rfl, fun x hx => by cases hx⟩) (fun l x ih h => ?_) l
  unfold putsF
  rw [List.foldl_append]
  exact (ih fun y hy => h y (List.mem_append_left _ hy)).put (h x (by simp))
theorem tot_one {l : List Smp} (h : OkL l) {k : ByteArray} : has l k → 1 ≤ tot l k := by
  revert h
  refine snoc_ind (p := fun l => OkL l → has l k → 1 ≤ tot l k) (fun _ ⟨y, hy, _⟩ => by cases hy) (fun l x ih h hk => ?_) l
  have hl : OkL l := fun y hy => h y (List.mem_append_left _ hy)
  have h0 := tot_pos hl k
  have h1 := (h x (by simp)).lo
  rw [tot_snoc]
  split
  · omega
  · rename_i q
    have := ih hl ((has_snoc.1 hk).resolve_right q)
    omega
theorem rtext_eq {l : List Smp} (h : OkL l) : ∀ (all : List Smp) (b : ByteArray), (∀ x ∈ all, x.weight = tot l (keyS x) ∧ has l (keyS x)) → rtextF all b = textF (sums l) (all.map keyS) b
  | [], _, _ => rfl
  | x :: r, b, hx => by
    obtain ⟨h1, h2⟩ := hx x List.mem_cons_self
    have h3 := tot_one h h2
    simp only [rtextF, textF, List.map_cons]
    rw [sums_wt h h2]
    unfold wtF
    by_cases q : tot l (keyS x) ≤ 1000000000000
    · rw [if_pos (wt_iff.2 ⟨by omega, by omega⟩), if_neg (by omega), rtext_eq h r _ fun z hz => hx z (List.mem_cons_of_mem _ hz), h1,
        show min 1000000000001 (tot l (keyS x)) = tot l (keyS x) by omega]
      simp only [ByteArray.append_assoc]
    · rw [if_neg (fun e => by have := (wt_iff.1 e).2; omega), if_pos (by omega)]
theorem rprint_eq (l : List Smp) : rprintF l = printF l := by
  unfold rprintF printF
  by_cases h : badL l = 0
  · rw [if_pos h, if_pos h]
    have hl := okL_iff.1 h
    have p := puts_ok l hl
    rw [rtext_eq hl _ _ fun x hx => ⟨(p.el x hx).2, (p.has _).1 ⟨x, hx, rfl⟩⟩]
    congr 1
    refine uniq_sorted ltK_irrefl ltK_trans ?_ (keysF_spec hl).1 fun k => ?_
    · rw [List.pairwise_map]
      refine List.Pairwise.imp_of_mem (fun {a b} ha hb e => ?_) p.srt
      unfold ltK
      rw [(p.el a ha).1, (p.el b hb).1]
      exact e
    · rw [(keysF_spec hl).2 k, ← p.has k, List.mem_map]
      rfl
  · rw [if_neg h, if_neg h]
end Go.Tb
namespace Go.Tb
open Go.Ab
/-! lines -/
/-! reading -/
/-! a printed line is read -/
def backF (l : List Smp) : List Smp := (keysF l).map fun k => ⟨0, 0, wtF l k, cutB k 59⟩
theorem nodup_sub {α : Type} : ∀ {a b : List α}, a.Nodup → (∀ x ∈ a, x ∈ b) → a.length ≤ b.length
  | [], _, _, _ => Nat.zero_le _
  | x :: a, b, hn, h => by
    have h1 := List.nodup_cons.1 hn
    obtain ⟨p, q, rfl⟩ := List.append_of_mem (h x List.mem_cons_self)
    have := nodup_sub (b := p ++ q) h1.2 fun y hy => by
      have := h y (List.mem_cons_of_mem _ hy)
      simp only [List.mem_append, List.mem_cons] at this ⊢
      rcases this with q | q | q
      · exact .inl q
      · exact absurd (q ▸ hy) h1.1
      · exact .inr q
    simp only [List.length_append, List.length_cons] at this ⊢
    omega
theorem ltK_nodup {l : List ByteArray} (h : l.Pairwise ltK) : l.Nodup := List.Pairwise.imp (R := ltK) (S := fun a b => a ≠ b) (fun {a b} e q => ltK_irrefl a (by rw [← q] at e; exact e)) h
theorem back_len {l : List Smp} (h : OkL l) : (backF l).length ≤ l.length := by
  unfold backF
  have e : (l.map keyS).length = l.length := List.length_map _
  rw [List.length_map, ← e]
  exact nodup_sub (ltK_nodup (keysF_spec h).1) fun k hk => by
    obtain ⟨x, hx, e⟩ := ((keysF_spec h).2 k).1 hk
    exact List.mem_map.2 ⟨x, hx, e⟩
end Go.Tb
namespace Go.Ab
open Go.RowKit Go.MapKept
section
variable {C : Ctx} {n : Nat} {st : St} {G : Gh} {tmps : Array Value} {w : World}
theorem SimG.newMap (h : SimG C n st G tmps w) : ∃ G', SimG C n { st with lv := st.gen :: st.lv, gen := st.gen + 1 } G' tmps (w.alloc (.map #[] 0)) ∧
    Rep (enOf C G' (st.gen + 1) (w.alloc (.map #[] 0))) (.map (some w.heap.size)) (.mp st.gen []) := by
  let own' : Nat → Option Row := fun g => if g = st.gen then some (.mp w.heap.size) else G.own g
  have hb : Below w.heap.size w (w.alloc (.map #[] 0)) := (Below.refl _ w).alloc (Nat.le_refl _) _
  have hnew : (w.alloc (.map #[] 0)).heap[w.heap.size]? = some (.map #[] 0) := heap_alloc_new w _
  obtain ⟨_, hs'⟩ := h.grow hb own' (st.gen + 1) (st.gen :: st.lv) (Nat.le_succ _) (fun g r hg hr => by simpa [own', Nat.ne_of_lt hg] using hr)
    (fun g r hr => by
      simp only [own'] at hr
      split at hr
      · omega
      · exact Nat.lt_succ_of_lt (h.gown g r hr))
    (fun g hg => by
      rcases List.mem_cons.1 hg with rfl | hg
      · exact ⟨_, by simp [own']; rfl⟩
      · obtain ⟨r, hr⟩ := h.live g hg
        exact ⟨r, by simp only [own', if_neg (Nat.ne_of_lt (h.gown g r hr))]; exact hr⟩)
    (fun g b len cap sz pub hg hr => by
      simp only [own'] at hr
      split at hr
      · cases hr
      · exact absurd (h.gown g _ hr) (by omega))
    (fun g b hg hr => by
      simp only [own'] at hr
      split at hr
      · simp only [Option.some.injEq, Row.mp.injEq] at hr
        subst hr
        refine ⟨Nat.le_refl _, fun g' hg' => ?_, #[], 0, hnew⟩
        simp only [own'] at hg'
        split at hg'
        · omega
        · obtain ⟨_, _, _, me, clock, h3⟩ := h.mrow g' _ hg'
          have := (Array.getElem?_eq_some_iff.1 h3).1
          omega
      · exact absurd (h.gown g _ hr) (by omega))
  refine ⟨⟨G.box, own'⟩, hs', .mp _ _ _ (by simp [enOf]) rfl (fun r hr => ?_)⟩
  have hr2 : own' st.gen = some r := hr
  simp only [own', if_true, Option.some.injEq] at hr2
  subst hr2
  exact ⟨rfl, #[], 0, hnew, Go.MapKept.stamped_empty 0, rfl, by simp⟩
theorem SimG.putMap (h : SimG C n st G tmps w) {g b : Nat} (hg : G.own g = some (.mp b)) (me : Array MapEntry) (clock : Nat) (hst : Stamped me clock) {es : List (Value × List D)} (hme : me.size = es.length)
    (hent : ∀ (i : Nat) (m : MapEntry) (k : Value) (l : List D), me[i]? = some m → es[i]? = some (k, l) → m.key = k ∧ okc k = true ∧ RepV w (pvOf C G) m.val l) (lv : List Nat) (hlv : ∀ g' ∈ lv, g' ∈ st.lv ∧ g' ≠ g) :
    ∃ G' : Gh, G'.box = G.box ∧ SimG C n { st with lv := st.gen :: lv, gen := st.gen + 1 } G' tmps { w with heap := w.heap.setIfInBounds b (.map me clock) } ∧
      Rep (enOf C G' (st.gen + 1) { w with heap := w.heap.setIfInBounds b (.map me clock) }) (.map (some b)) (.mp st.gen es) := by
  obtain ⟨hmine, hnb, huniq, me0, clock0, hcur⟩ := h.mrow g b hg
  have hnb2 : ∀ g' len cap sz pub, G.own g' ≠ some (.blk b len cap sz pub) := fun g' len cap sz pub e => by
    obtain ⟨_, _, _, cur, T, h4, _⟩ := h.row g' b len cap sz pub e
    rw [hcur] at h4
    cases h4
  obtain ⟨hnew, hoth⟩ := heap_set (o' := Obj.map me clock) hcur
  let own' : Nat → Option Row := fun g' => if g' = st.gen then some (.mp b) else if g' = g then none else G.own g'
  generalize hw' : ({ w with heap := w.heap.setIfInBounds b (.map me clock) } : World) = w'
  have e1 : w'.heap = w.heap.setIfInBounds b (.map me clock) := by rw [← hw']
  have e2 : w'.os = w.os := by rw [← hw']
  have e3 : w'.tape = w.tape := by rw [← hw']
  have e4 : w'.output = w.output := by rw [← hw']
  rw [← e1] at hnew hoth
  have hsz : w'.heap.size = w.heap.size := by rw [e1]; simp
  have hnocell : ∀ o, Ab.cellAt w b o = none := fun o => by simp [Ab.cellAt, World.cell?, hcur]
  have hcell : ∀ b' o u, Ab.cellAt w b' o = some u → Ab.cellAt w' b' o = some u := fun b' o u hu => by
    have hne : b' ≠ b := fun e => by subst e; rw [hnocell] at hu; cases hu
    rw [cellAt_same (hoth b' hne)]; exact hu
  have htk : TyKept w w' := fun b' cs T f h => ⟨cs, f, by rw [hoth b' (fun e => by rw [e, hcur] at h; cases h)]; exact h⟩
  have hgl := h.gown g _ hg
  have hpv : ∀ b' o, pvOf C ⟨G.box, own'⟩ b' o → pvOf C G b' o := by
    rintro b' o (hp | hp | ⟨g', len', cap', sz', pub', hp, hl'⟩)
    · exact .inl hp
    · exact .inr (.inl hp)
    · simp only [own'] at hp
      split at hp
      · cases hp
      · split at hp
        · cases hp
        · exact .inr (.inr ⟨g', len', cap', sz', pub', hp, hl'⟩)
  have hfr : Fr C w' := ⟨e2.trans h.fr.os, e3.trans h.fr.tape, e4.trans h.fr.output, by rw [hsz]; exact h.fr.size, fun b' h1 h2 => by
    rw [hoth b' (fun e => by subst e; exact hmine.1.elim (fun hm => by omega) h2)]; exact h.fr.block b' h1 h2, fun b' o u hk hu => hcell b' o u (h.fr.cells b' o u hk hu), h.fr.ty.trans htk⟩
  have hold : ∀ g' r', g' < st.gen → own' g' = some r' → G.own g' = some r' ∧ g' ≠ g := fun g' r' hg' hr' => by
    simp only [own', if_neg (Nat.ne_of_lt hg')] at hr'
    split at hr'
    · cases hr'
    · rename_i hne; exact ⟨hr', hne⟩
  have hle : (enOf C G st.gen w).le (enOf C ⟨G.box, own'⟩ (st.gen + 1) w') := leOf h.fr hfr (fun b' o u hu hn => ⟨hcell b' o u hu, fun hp => hn (hpv b' o hp)⟩) (fun _ _ h => h)
    (fun g' r' hg' hr' => (hold g' r' hg' hr').1) (Nat.le_succ _) (fun g' b' len' cap' sz' pub' hg' hr' => hoth b' (fun e => by subst e; exact hnb2 _ _ _ _ _ (hold g' _ hg' hr').1)) (fun g' b' hg' hr' => by
      obtain ⟨h1, h2⟩ := hold g' _ hg' hr'
      exact hoth b' (fun e => by subst e; exact h2 (huniq g' h1))) htk
  refine ⟨⟨G.box, own'⟩, rfl, { size := h.size, frame := h.frame_mono hle, inj := h.inj, xold := h.xold, kold := h.kold, lent := h.lent, fr := hfr, box := ?_, gbox := ?_, live := ?_, gown := ?_, row := ?_, mrow := ?_ }, ?_⟩
  · intro g' cells hc
    obtain ⟨b', cs, T', h1, h2, h3, h4, h5⟩ := h.box g' cells hc
    have : b' ≠ b := fun e => hnb g' (by rw [← e]; exact h1)
    exact ⟨b', cs, T', h1, by rw [hoth b' this]; exact h2, h3, h4, fun i u a hu ha => (h5 i u a hu ha).mono hle⟩
  · intro g' b' hb
    obtain ⟨h1, h2, h3⟩ := h.gbox g' b' hb
    exact ⟨Nat.lt_succ_of_lt h1, by rw [hsz]; exact h2, h3⟩
  · intro g' hg'
    rcases List.mem_cons.1 hg' with rfl | hg'
    · exact ⟨_, by simp [own']; rfl⟩
    · obtain ⟨h1, h2⟩ := hlv g' hg'
      obtain ⟨r', hr'⟩ := h.live g' h1
      exact ⟨r', by simp only [own', if_neg (Nat.ne_of_lt (h.gown g' r' hr')), if_neg h2]; exact hr'⟩
  · intro g' r' hr'
    simp only [own'] at hr'
    split at hr'
    · simp only; omega
    · split at hr'
      · cases hr'
      · exact Nat.lt_succ_of_lt (h.gown g' r' hr')
  · intro g' b' len' cap' sz' pub' hr'
    have un : ∀ g2 len2 cap2 sz2 pub2, own' g2 = some (.blk b' len2 cap2 sz2 pub2) → G.own g2 = some (.blk b' len2 cap2 sz2 pub2) := by
      intro g2 len2 cap2 sz2 pub2 h2
      simp only [own'] at h2
      split at h2
      · cases h2
      · split at h2
        · cases h2
        · exact h2
    obtain ⟨h4, h5, h6, cur2, T2, h7, h8⟩ := h.row g' b' len' cap' sz' pub' (un g' len' cap' sz' pub' hr')
    have hne : b' ≠ b := fun e => by subst e; exact hnb2 _ _ _ _ _ (un g' len' cap' sz' pub' hr')
    exact ⟨h4, h5, fun g2 len2 cap2 sz2 pub2 h2 => h6 g2 len2 cap2 sz2 pub2 (un g2 len2 cap2 sz2 pub2 h2), cur2, T2, by rw [hoth b' hne]; exact h7, h8⟩
  · intro g' b' hr'
    simp only [own'] at hr'
    split at hr'
    · rename_i e
      simp only [Option.some.injEq, Row.mp.injEq] at hr'
      subst hr'
      refine ⟨hmine, hnb, fun g2 h2 => ?_, me, clock, hnew⟩
      simp only [own'] at h2
      split at h2
      · omega
      · split at h2
        · cases h2
        · rename_i e1 e2; exact absurd (huniq g2 h2) e2
    · split at hr'
      · cases hr'
      · rename_i e1 e2
        obtain ⟨h4, h5, h6, me2, cl2, h7⟩ := h.mrow g' b' hr'
        have hne : b' ≠ b := fun e => by subst e; exact e2 (huniq g' hr')
        refine ⟨h4, h5, fun g2 h2 => ?_, me2, cl2, by rw [hoth b' hne]; exact h7⟩
        simp only [own'] at h2
        split at h2
        · simp only [Option.some.injEq, Row.mp.injEq] at h2; exact absurd h2.symm hne
        · split at h2
          · cases h2
          · exact h6 g2 h2
  · refine .mp _ _ _ (by simp [enOf]) rfl (fun r hr => ?_)
    have hr2 : own' st.gen = some r := hr
    simp only [own', if_true, Option.some.injEq] at hr2
    subst hr2
    refine ⟨rfl, me, clock, hnew, hst, hme, fun i m k l hm hk => ?_⟩
    obtain ⟨h1, h2, h3⟩ := hent i m k l hm hk
    exact ⟨h1, h2, h3.mono hle.cell⟩
end
section
variable {P : Program} (T : Tab P)
theorem Tab.u_map {t k e : Nat} {d : TyD} (h : look' T.l t = some d) (hk : d.k = .map k e) : P.underlying t = some (.map k e) := by
  have := T.kd h
  rw [hk] at this
  simp only [kdOK] at this
  split at this
  · rename_i k' e' he; simp only [Bool.and_eq_true, beq_iff_eq] at this; rw [he, this.1, this.2]
  · cases this
def notSt : Kd → Bool
  | .st _ => false
  | _ => true
variable {α β : Type} [DecidableEq α] {kf : α → Value} {vf : β → D}
theorem MeIs.find {w : World} {pv : Nat → Nat → Prop} {k : TypeId} (hkt : KeyT P k kf) {me : Array MapEntry} {l : List (α × β)} (h : MeIs w pv kf vf me l) (hn : (l.map (·.1)).Nodup) (a : α) :
    ((Instr.findKey k (kf a) me.toList).run P w = .ok none w ∧ (∀ p ∈ l, p.1 ≠ a) ∧ mget l a = none) ∨
      ∃ j e p, (Instr.findKey k (kf a) me.toList).run P w = .ok (some (j, e.val)) w ∧ me[j]? = some e ∧ l[j]? = some p ∧ p.1 = a ∧ e.key = kf a ∧ mget l a = some p.2 ∧ RepD w pv e.val (vf p.2) := by
  obtain ⟨d, hd, hk⟩ := hkt.ty
  have hall : ∀ x ∈ me.toList, IsKey d x.key := by
    intro x hx
    obtain ⟨i, hi⟩ := List.mem_iff_getElem?.1 hx
    have hi' : me[i]? = some x := by simpa using hi
    have hlt : i < l.length := by rw [← h.1]; exact (Array.getElem?_eq_some_iff.1 hi').1
    rw [(h.2 i x l[i] hi' (by simp [hlt])).1]
    exact hk _
  rcases findNow_spec (hk a) me.toList 0 hall with ⟨h1, h2⟩ | ⟨j, e, h1, h2, h3⟩
  · refine .inl ⟨run_findKey hd h1, ?_, ?_⟩
    · intro p hp e
      obtain ⟨i, hi⟩ := List.mem_iff_getElem?.1 hp
      have hlt : i < me.size := by rw [h.1]; exact (List.getElem?_eq_some_iff.1 hi).1
      have := (h.2 i me[i] p (by simp [hlt]) hi).1
      exact h2 me[i] (by simp) (by rw [this, e])
    · refine mget_new fun p hp e => ?_
      obtain ⟨i, hi⟩ := List.mem_iff_getElem?.1 hp
      have hlt : i < me.size := by rw [h.1]; exact (List.getElem?_eq_some_iff.1 hi).1
      have := (h.2 i me[i] p (by simp [hlt]) hi).1
      exact h2 me[i] (by simp) (by rw [this, e])
  · have hj : me[j]? = some e := by simpa using h2
    have hlt : j < l.length := by rw [← h.1]; exact (Array.getElem?_eq_some_iff.1 hj).1
    obtain ⟨h4, h5, h6⟩ := h.2 j e l[j] hj (by simp [hlt])
    have h7 : (l[j]).1 = a := hkt.inj _ _ (h4.symm.trans h3)
    refine .inr ⟨j, e, l[j], ?_, hj, by simp [hlt], h7, h3, ?_, h6⟩
    · have := run_findKey (P := P) (w := w) hd h1
      simpa using this
    · have := mget_at hn (j := j) (p := l[j]) (by simp [hlt])
      rw [h7] at this
      exact this
theorem run_mapPut {w : World} {pv : Nat → Nat → Prop} {mt k e : Nat} {td : TyD} (ht : look' T.l mt = some td) (htk : td.k = .map k e) (hkt : KeyT P k kf) {b : Nat} {me : Array MapEntry} {clock : Nat} (hb : w.heap[b]? = some (.map me clock)) {l : List (α × β)}
    (hst : Stamped me clock) (h : MeIs w pv kf vf me l) (hn : (l.map (·.1)).Nodup) (a : α) (hka : okc (kf a) = true) {v : Value} {y : β} (hv : RepD w pv v (vf y)) :
    ∃ me' clock', (Instr.mapUpdate mt (.map (some b)) (kf a) v).run P w = .ok () { w with heap := w.heap.setIfInBounds b (.map me' clock') } ∧ Stamped me' clock' ∧ MeIs w pv kf vf me' (mput l a y) := by
  obtain ⟨d, hd, hk⟩ := hkt.ty
  have hm := T.u_map ht htk
  rcases h.find hkt hn a with ⟨h1, h2, _⟩ | ⟨j, en, p, h1, h2, h3, h4, h5, _, _⟩
  · refine ⟨me.push ⟨kf a, v, clock⟩, clock + 1, ?_, stamped_push hst (fun x hx => ?_), ?_⟩
    · unfold Instr.mapUpdate
      simp only [Sem.run_bind, run_underlying hm, Result.andThen_ok, Go.MapKept.run_getObj_map hb, run_checkKey hd (hk a), h1]
      exact Go.MapKept.run_setObj_map _ hb
    · obtain ⟨i, hi⟩ := List.mem_iff_getElem?.1 hx
      have hi' : me[i]? = some x := by simpa using hi
      have hlt : i < l.length := by rw [← h.1]; exact (Array.getElem?_eq_some_iff.1 hi').1
      rw [(h.2 i x l[i] hi' (by simp [hlt])).1]
      exact fun e => h2 l[i] (by simp) (hkt.inj _ _ e)
    · rw [mput_new h2]
      refine ⟨by simp [h.1], fun i m p hm hp => ?_⟩
      rw [Array.getElem?_push] at hm
      split at hm
      · rename_i hi
        rw [List.getElem?_append_right (by rw [hi, h.1]; exact Nat.le_refl _)] at hp
        have : i - l.length = 0 := by rw [hi, h.1]; omega
        rw [this] at hp
        simp only [List.getElem?_cons_zero, Option.some.injEq] at hp
        simp only [Option.some.injEq] at hm
        subst hm; subst hp
        exact ⟨rfl, hka, hv⟩
      · have hlt : i < l.length := by rw [← h.1]; exact (Array.getElem?_eq_some_iff.1 hm).1
        rw [List.getElem?_append_left hlt] at hp
        exact h.2 i m p hm hp
  · refine ⟨me.modify j fun e => { e with key := kf a, val := v }, clock, ?_, stamped_modify hst j _ (fun _ _ => rfl) (fun e _ he => by rw [h2] at he; cases he; exact h5.symm), ?_⟩
    · unfold Instr.mapUpdate
      simp only [Sem.run_bind, run_underlying hm, Result.andThen_ok, Go.MapKept.run_getObj_map hb, run_checkKey hd (hk a), h1, h2, Option.map_some, Option.getD_some, h5, run_keyThatStays (hk a)]
      exact Go.MapKept.run_setObj_map _ hb
    · subst h4
      rw [mput_at hn h3]
      refine ⟨by simp [h.1], fun i m q hm hq => ?_⟩
      rw [Array.getElem?_modify] at hm
      rw [List.getElem?_set] at hq
      by_cases hij : j = i
      · subst hij
        rw [if_pos rfl] at hm hq
        rw [h2] at hm
        rw [if_pos (List.getElem?_eq_some_iff.1 h3).1] at hq
        simp only [Option.map_some, Option.some.injEq] at hm hq
        subst hm; subst hq
        exact ⟨rfl, hka, hv⟩
      · rw [if_neg hij] at hm hq
        exact h.2 i m q hm hq
theorem run_mapGet {w : World} {pv : Nat → Nat → Prop} {mt k e : Nat} {td ed : TyD} (ht : look' T.l mt = some td) (htk : td.k = .map k e) (he : look' T.l e = some ed) (hkt : KeyT P k kf) {z : β} {zx : Value} (hzc : ed.z = [zx]) (hzk : notSt ed.k = true) (hz : RepD w pv zx (vf z)) {b : Nat} {me : Array MapEntry} {clock : Nat}
    (hb : w.heap[b]? = some (.map me clock)) {l : List (α × β)} (h : MeIs w pv kf vf me l) (hn : (l.map (·.1)).Nodup) (a : α) (ok : Bool) :
    ∃ v, (Instr.lookup mt (.map (some b)) (kf a) ok).run P w = .ok (if ok then .tuple #[v, .bool (mget l a).isSome] else v) w ∧ RepD w pv v (vf ((mget l a).getD z)) := by
  obtain ⟨d, hd, hk⟩ := hkt.ty
  have hm := T.u_map ht htk
  rcases h.find hkt hn a with ⟨h1, h2, h3⟩ | ⟨j, en, p, h1, h2, h3, h4, h5, h6, h7⟩
  · obtain ⟨i, zv, hi, _, _, hiz, hzl, _, _, hkz⟩ := T.info he
    have hzv : zv = zx := by
      rw [hzc] at hzl
      cases hke : ed.k <;> rw [hke] at hzk hkz <;> cases zv <;> simp_all [Value.cells, notSt]
    subst hzv
    refine ⟨zv, ?_, by rw [h3]; exact hz⟩
    unfold Instr.lookup
    simp only [Sem.run_bind, run_underlying hm, Result.andThen_ok, Go.MapKept.run_getObj_map hb, Sem.run_pure, run_checkKey hd (hk a), h1, h3, Option.isSome_none]
    have : (zeroValue e).run P w = .ok zv w := by simp [zeroValue, typeInfo, Sem.run_bind, run_program, hi, hiz, Result.andThen]
    simp only [this, Result.andThen_ok]
  · refine ⟨en.val, ?_, by rw [h6]; exact h7⟩
    unfold Instr.lookup
    simp only [Sem.run_bind, run_underlying hm, Result.andThen_ok, Go.MapKept.run_getObj_map hb, Sem.run_pure, run_checkKey hd (hk a), h1, h6, Option.isSome_some]
end
end Go.Ab
namespace Go.Ab
open Go.RowKit Go.MapKept
def oneD : A → Option D
  | .d x => some x
  | .own _ es => some (.sl es)
  | .fl es => some (.sl es)
  | _ => none
theorem oneD_rep {E : En} {v : Value} {a : A} {x : D} (h : oneD a = some x) (hr : Rep E v a) : RepD E.w E.pv v x := by
  cases hr <;> simp only [oneD, Option.some.injEq] at h <;> first | (cases h; done) | (subst h; assumption)
def MapAt {α β : Type} (w : World) (pv : Nat → Nat → Prop) (b : Nat) (kf : α → Value) (vf : β → D) (l : List (α × β)) : Prop := ∃ me clock, w.heap[b]? = some (.map me clock) ∧ Go.MapKept.Stamped me clock ∧ MeIs w pv kf vf me l
theorem MapAt.of {α β : Type} {w : World} {pv : Nat → Nat → Prop} {kf : α → Value} {vf : β → D} {b : Nat} {v : Value} {l : List (α × β)} (h : RowM w pv (.mp b) v (mes kf vf l)) : v = .map (some b) ∧ MapAt w pv b kf vf l := by
  obtain ⟨h1, me, clock, h2, h3⟩ := MeIs.of h
  exact ⟨h1, me, clock, h2, h3⟩
theorem MeIs.mono {α β : Type} {w w' : World} {pv pv' : Nat → Nat → Prop} {kf : α → Value} {vf : β → D} {me : Array MapEntry} {l : List (α × β)} (h : ∀ b o u, cellAt w b o = some u → ¬ pv b o → cellAt w' b o = some u ∧ ¬ pv' b o) (hm : MeIs w pv kf vf me l) : MeIs w' pv' kf vf me l :=
  ⟨hm.1, fun i m p h1 h2 => ⟨(hm.2 i m p h1 h2).1, (hm.2 i m p h1 h2).2.1, (hm.2 i m p h1 h2).2.2.mono h⟩⟩
section
variable {P : Program} (T : Tab P) {C : Ctx} {n : Nat} {ops : Array Oper} {Q : Exit → St → Prop} {rest : List Oper}
variable {f : List (Nat × A)} {bx : List (Nat × List A)} {lv : List Nat} {gen : Nat} {d : Nat} {ty : TypeId} {pos : String} {af : Array Edge} {dst : Option Nat}
variable {α β : Type} [DecidableEq α] {kf : α → Value} {vf : β → D}
theorem mkMap {t : TypeId} (hd : Nat.blt d n = true) (h : WO P C n ops Q rest ⟨(d, .mp gen []) :: f, bx, gen :: lv, gen + 1⟩) : WO P C n ops Q (⟨some d, .makeMap t none, ty, pos, af, none⟩ :: rest) ⟨f, bx, lv, gen⟩ := by
  refine WO.step (st := ⟨f, bx, lv, gen⟩) rfl fun tmps w ⟨G, hs⟩ => ?_
  obtain ⟨G', hs', hr⟩ := hs.newMap
  refine gives_value (v := .map (some w.heap.size)) (w' := w.alloc (.map #[] 0)) ?_ ⟨_, ⟨G', hs'.put (dst := some d) (dstOK_lt (dst := some d) hd) hr⟩, h⟩
  unfold execOp
  show Sem.run P _ w = .ok _ _
  simp [Instr.makeMap, Sem.run_bind, Result.andThen]
omit [DecidableEq α] in
theorem SimG.mapAt {st : St} {G : Gh} {tmps : Array Value} {w : World} (hs : SimG C n st G tmps w) {v : Value} {g : Nat} {l : List (α × β)} (hr : Rep (enOf C G st.gen w) v (.mp g (mes kf vf l))) (hgl : g ∈ st.lv) :
    ∃ b, G.own g = some (.mp b) ∧ v = .map (some b) ∧ MapAt w (pvOf C G) b kf vf l := by
  obtain ⟨r, hgr⟩ := hs.live g hgl
  cases hr with
  | mp _ _ _ hgg h1 hrow =>
  have hx := hrow r hgr
  cases r with
  | nil => exact hx.elim
  | zero b => exact hx.elim
  | blk b len cap sz pub => exact hx.elim
  | mp b =>
    obtain ⟨h2, h3⟩ := MapAt.of (kf := kf) (vf := vf) hx
    exact ⟨b, hgr, h2, h3⟩
theorem mapPut (s : Nat) {mt k e : Nat} {td : TyD} {m kx x : Operand} {g : Nat} {l : List (α × β)} {a : α} {y : β} {xa : A} (hm : av f m = some (.mp g (mes kf vf l))) (hl : look f s = some (.mp g (mes kf vf l))) (hk : av f kx = some (.d (.v (kf a)))) (hx : av f x = some xa) (hxd : oneD xa = some (vf y))
    (ht : look' T.l mt = some td) (htk : td.k = .map k e) (hkt : KeyT P k kf) (hgl : (lv.any fun h => Nat.beq h g) = true) (hsn : Nat.blt s n = true) (hn : (l.map (·.1)).Nodup) {es' : List (Value × List D)} (hes : mes kf vf (mput l a y) = es') {lv' : List Nat} (hlv : gen :: dropId lv g = lv')
    (h : WO P C n ops Q rest ⟨(s, .mp gen es') :: f, bx, lv', gen + 1⟩) : WO P C n ops Q (⟨none, .mapUpdate mt m kx x, ty, pos, af, none⟩ :: rest) ⟨f, bx, lv, gen⟩ := by
  subst hes; subst hlv
  refine WO.step (st := ⟨f, bx, lv, gen⟩) rfl fun tmps w ⟨G, hs⟩ => ?_
  have hrm := hs.av hm
  have hrk := hs.av hk
  have hrx := oneD_rep hxd (hs.av hx)
  obtain ⟨vs, hvs, hrs⟩ := hs.frame s _ hl
  generalize hv : Act.eval ⟨tmps, []⟩ m = v at hrm
  generalize hvk : Act.eval ⟨tmps, []⟩ kx = vk at hrk
  obtain ⟨b, hgb, rfl, me, clock, hb, hst, hmi⟩ := hs.mapAt hrm (memAny hgl)
  obtain ⟨b2, hgb2, rfl, _⟩ := hs.mapAt hrs (memAny hgl)
  have e : b2 = b := by have := hgb2.symm.trans hgb; simpa using this
  subst e
  cases hrk with | d hrk => cases hrk with | v _ hok =>
  obtain ⟨me', clock', hrun, hst', hmi'⟩ := run_mapPut T ht htk hkt hb hst hmi hn a hok hrx
  have h0 : (execOp (Act.eval ⟨tmps, []⟩) ⟨none, .mapUpdate mt m kx x, ty, pos, af, none⟩).run P w = .ok .skip { w with heap := w.heap.setIfInBounds b2 (.map me' clock') } := by
    unfold execOp
    show Sem.run P _ w = .ok _ _
    simp only [hv, hvk, Sem.run_bind, hrun, Result.andThen_ok, Sem.run_pure]
  obtain ⟨G', _, hs', hr'⟩ := hs.putMap hgb me' clock' hst' (es := mes kf vf (mput l a y)) (by rw [hmi'.1]; simp [mes]) (fun i m k l' hm hk => by
    simp only [mes, List.getElem?_map, Option.map_eq_some_iff] at hk
    obtain ⟨p, hp, e⟩ := hk
    simp only [Prod.mk.injEq] at e
    obtain ⟨rfl, rfl⟩ := e
    exact hmi'.2 i m p hm hp) (dropId lv g) (fun g' hg' => dropId_mem hg')
  refine gives_skip h0 ⟨_, ⟨G', ?_⟩, h⟩
  have := hs'.set (d := s) (Nat.le_of_ble_eq_true hsn) hr'
  rwa [set_same hvs] at this
theorem mapGet {mt k e : Nat} {td ed : TyD} {m kx : Operand} {g : Nat} {l : List (α × β)} {a : α} {z : β} {zx : Value} (hm : av f m = some (.mp g (mes kf vf l))) (hk : av f kx = some (.d (.v (kf a))))
    (ht : look' T.l mt = some td) (htk : td.k = .map k e) (he : look' T.l e = some ed) (hkt : KeyT P k kf) (hgl : (lv.any fun h => Nat.beq h g) = true) (hzc : ed.z = [zx]) (hzk : notSt ed.k = true) (hz : ∀ w pv, RepD w pv zx (vf z)) (hn : (l.map (·.1)).Nodup) {r : D} (hr : vf ((mget l a).getD z) = r) :
    Pu P C n ⟨f, bx, lv, gen⟩ ⟨dst, .lookup mt m kx false, ty, pos, af, none⟩ (.d r) := by
  subst hr
  refine PuOK.pu fun G tmps w hs => ?_
  have hrm := hs.av hm
  have hrk := hs.av hk
  generalize hv : Act.eval ⟨tmps, []⟩ m = v at hrm
  generalize hvk : Act.eval ⟨tmps, []⟩ kx = vk at hrk
  obtain ⟨b, hgb, rfl, me, clock, hb, hst, hmi⟩ := hs.mapAt hrm (memAny hgl)
  cases hrk with | d hrk => cases hrk with | v _ hok =>
  obtain ⟨u, h1, h2⟩ := run_mapGet (P := P) T ht htk he hkt hzc hzk (hz _ _) hb hmi hn a false
  refine ⟨u, ?_, .d h2⟩
  unfold execOp
  show Sem.run P _ w = .ok _ _
  simp only [hv, hvk, Sem.run_bind, h1, Result.andThen_ok, Sem.run_pure]
  rfl
end
structure DoesH (P : Program) [Met P] (H : Ctx → Prop) (f : FuncId) (args : List A) (r : A) (k : Nat) : Prop where
  ok : FnOK P f
  calls : ∀ (C : Ctx) (vals : Array Value) (w : World), GC P C → C.w0 = w → C.pure → H C → (∀ b o, C.x b o → b < w.heap.size) → vals.size = args.length →
    (∀ (i : Nat) (u : Value) (a : A), vals[i]? = some u → args[i]? = some a → Rep (enOf C G0 0 w) u a) →
    Calls P f vals w fun e w' => ∃ v G', e = .returned v ∧ SimG C 0 ⟨[], [], List.range k, k⟩ G' #[] w' ∧ Rep (enOf C G' k w') v r
theorem DoesH.of_V {P : Program} (T : Tab P) [Met P] {H : Ctx → Prop} {f : FuncId} {fn : Func} {c : Code} {rs : List RV} {n : Nat} {args : List A} {r : A} (hf : P.funcs[f]? = some fn) (hname : (fn.name == "runtime.NumGoroutine") = false) (hb : fn.body = some c) (hn : fn.ntmps = n)
    (hr : fn.results = (rs.map RV.var).toArray) (hlen : Nat.ble args.length n = true) (h : ∀ C, NB C 0 → GC P C → H C → (∀ b, ¬ C.fp b) → W P C n c (QV T rs r 0) ⟨args0 0 args, [], [], 0⟩) : DoesH P H f args r 0 := by
  have hlen := Nat.le_of_ble_eq_true hlen
  refine ⟨⟨fn, hf, hname, by rw [hb]; rfl⟩, fun C vals w hG hw hp hH hx hsz hrep => ?_⟩
  subst hw
  refine calls_of_wp hf hb (wp_mono (wp_ds hp.2.2.2 (h C ⟨by rw [hp.2.2.1]; rfl⟩ hG hH hp.1 (vals ++ Array.replicate (fn.ntmps - vals.size) undef) C.w0 ⟨G0, ?_⟩)) ?_)
  · refine { size := by simp [hn]; omega, frame := fun t a ha => ?_, box := fun g cells hc => by simp [look'] at hc, gbox := fun g b hb => by simp [G0] at hb, inj := fun g g' b hb => by simp [G0] at hb,
             live := fun g hg => by simp at hg, gown := fun g r hr => by simp [G0] at hr, row := fun g b len cap sz pub hr => by simp [G0] at hr, mrow := fun g b hr => by simp [G0] at hr, xold := fun b o hb => ⟨hx b o hb, hp.1 b⟩, kold := fun b o hb => absurd hb (hp.2.1 b o), lent := fun i b hb => by rw [hp.2.2.1] at hb; simp at hb,
             fr := ⟨rfl, rfl, rfl, Nat.le_refl _, fun _ _ _ => rfl, fun _ _ _ hb => absurd hb (hp.2.1 _ _), TyKept.refl _⟩ }
    obtain ⟨_, h1⟩ := args0_look args 0 t a ha
    have h2 : t < args.length := (List.getElem?_eq_some_iff.1 (by simpa using h1)).1
    have h3 : t < vals.size := by omega
    have h4 : vals[t]? = some vals[t] := by simp [h3]
    exact ⟨vals[t], by rw [Array.getElem?_append_left h3]; exact h4, hrep t _ a h4 (by simpa using h1)⟩
  · rintro e ⟨tmps, df⟩ w' ⟨hd, st, ⟨G, hs⟩, he, l, order, hl, hno, hol, hnd, hov⟩
    have ho0 : order = [] := List.eq_nil_of_length_eq_zero hol
    subst ho0
    have hmain : ∃ v, (results fn tmps).run P w' = .ok v w' ∧ ∃ v_1 G', Ending.returned v = .returned v_1 ∧ SimG C 0 ⟨[], [], List.range 0, 0⟩ G' #[] w' ∧ Rep (enOf C G' 0 w') v_1 r := by
      obtain ⟨vs, hvs, hvl, hvr⟩ := run_resV T hs rs l hl
      refine ⟨_, run_resultsV hr hvs, _, G0, rfl, ?_, ?_⟩
      · exact { size := rfl, frame := fun t a ha => by simp [look] at ha, box := fun g cells hc => by simp [look'] at hc, gbox := fun g b hb => by simp [G0] at hb, inj := fun g g' b hb => by simp [G0] at hb,
                 live := fun g hg => by simp at hg, gown := fun g r hr => by simp [G0] at hr, row := fun g b len cap sz pub hr => by simp [G0] at hr, mrow := fun g b hr => by simp [G0] at hr, xold := hs.xold, kold := hs.kold, lent := fun i b hb => by rw [hp.2.2.1] at hb; simp at hb, fr := hs.fr }
      · rw [← hno]
        refine Rep.norm (order := []) (E := enOf C G st.gen w') (E2 := enOf C G0 0 w') (fun b o u hu hn => ⟨hu, fun hp => hn (.inl ((pvOf_G0 C b o).1 hp))⟩) (fun g r' hg => by simp at hg) (by simp [enOf]) (oneA_rep hvl hvr)
    cases e with
    | normal => exact ⟨hd.trans hp.2.2.2, hmain⟩
    | ret => exact ⟨hd.trans hp.2.2.2, hmain⟩
    | exit _ => exact he.elim
    | goto _ => exact he.elim
    | panic _ => exact he.elim
    | outgrown => exact he.elim
section
variable {P : Program} {C : Ctx} {n : Nat}
variable {f : List (Nat × A)} {bx : List (Nat × List A)} {lv : List Nat} {gen : Nat} {d : Nat} {ty : TypeId} {pos : String} {af : Array Edge} {dst : Option Nat}
variable {α β : Type} [DecidableEq α]
end
end Go.Ab
namespace Go.Ab
open Go.RowKit
/-! ### whatever the states are -/
section
variable {P : Program} {ops : Array Oper} {md : Region.Mode} {m : Nat} {S E : Type} (Y : Nat → E → S → Prop) (ef : Nat → E → S → S)
def Closed (md : Region.Mode) (ops : Array Oper) (listed : Array Bool) : Prop :=
  ∀ j oj, ops[j]? = some oj → listed.getD j false = true → ∀ e ∈ oj.after, Region.binds md e = true → listed.getD e.on false = true
def reachB (md : Region.Mode) (ops : Array Oper) : Nat → Nat → Nat → Bool
  | 0, _, _ => false
  | k + 1, j, i => behindB md ops j i || (match ops[j]? with | some o => o.after.toList.any fun e => Region.binds md e && reachB md ops k e.on i | none => false)
theorem Closed.add {listed : Array Bool} (hc : Closed md ops listed) {i : Nat} (hi : i ∈ Region.ready md ops listed) : Closed md ops (listed.setIfInBounds i true) := by
  intro j oj hoj hl e he hb
  obtain ⟨_, oi, hoi, hall⟩ := mem_ready.1 hi
  by_cases hji : i = j
  · subst hji
    rw [hoi] at hoj
    cases hoj
    exact getD_set_true (hall e he hb)
  · rw [getD_set_ne false hji] at hl
    exact getD_set_true (hc j oj hoj hl e he hb)
variable {Y} {ef}
def ceG (Y : Nat → E → S → Prop) (ef : Nat → E → S → S) (Q : S → Prop) : List Oper → Nat → S → Prop
  | [], _, σ => Q σ
  | _ :: rest, i, σ => ∃ e, Y i e σ ∧ ceG Y ef Q rest (i + 1) (ef i e σ)
end
/-! ### one operation that turns the ghost -/
end Go.Ab
namespace Go.Ab
open Go.RowKit
structure Par where
  bx0 : List (Nat × List A)
  bx1 : List (Nat × List A)
  lv0 : List Nat
  lv1 : List Nat
  gen0 : Nat
  gen1 : Nat
section
variable {P : Program} {C : Ctx} {n : Nat} (S : Par) {ops : Array Oper} (c : Nat)
abbrev SC := Fr' × Bool
def XEv (P : Program) (C : Ctx) (n : Nat) (S : Par) (ops : Array Oper) (o : Oper) (a : A) (φ : Fr') : Prop :=
  o.guard = none ∧ ∃ p, (∀ t x, look p t = some x → φ t = some x ∧ t ∈ o.looksAt ops) ∧
    ∀ g, WO P C n ops (fun e st => e = .normal ∧ st = St.put ⟨p ++ g, S.bx1, S.lv1, S.gen1⟩ o.dst a) [o] ⟨p ++ g, S.bx0, S.lv0, S.gen0⟩
def YC (P : Program) (C : Ctx) (n : Nat) (S : Par) (ops : Array Oper) (c : Nat) (i : Nat) (a : A) (σ : SC) : Prop :=
  ∃ o, ops[i]? = some o ∧ dstOK n o.dst = true ∧ ((i = c ∧ σ.2 = false ∧ XEv P C n S ops o a σ.1) ∨
    (i ≠ c ∧ (behindB .any ops i c = false → YA P C n S.bx0 S.lv0 S.gen0 ops o a σ.1) ∧ (behindB .any ops c i = false → YA P C n S.bx1 S.lv1 S.gen1 ops o a σ.1) ∧
      (σ.2 = false → behindB .any ops i c = false) ∧ (σ.2 = true → behindB .any ops c i = false)))
def efC (ops : Array Oper) (c : Nat) (i : Nat) (a : A) (σ : SC) : SC :=
  match ops[i]? with
  | none => σ
  | some o => (putF σ.1 o.dst a, if i = c then true else σ.2)
variable {S} {c}
def CC (P : Program) (C : Ctx) (n : Nat) (S : Par) (ops : Array Oper) (c : Nat) (Q : St → Prop) (l : List Oper) (i : Nat) (f : List (Nat × A)) (ph : Bool) : Prop :=
  ceG (YC P C n S ops c) (efC ops c) (fun σ => ∃ f', (∀ t, look f' t = σ.1 t) ∧ σ.2 = true ∧ Q ⟨f', S.bx1, S.lv1, S.gen1⟩) l i (look f, ph)
variable {op : Op} {ty : TypeId} {pos : String} {af : Array Edge} {a : A} {d i : Nat} {rest : List Oper} {f : List (Nat × A)} {Q : St → Prop} {o : Oper} {ph : Bool}
theorem CC.nil_ (h : Q ⟨f, S.bx1, S.lv1, S.gen1⟩) : CC P C n S ops c Q [] i f true := ⟨f, fun _ => rfl, rfl, h⟩
variable {bx0 bx1 : List (Nat × List A)} {lv0 lv1 : List Nat} {gen0 gen1 : Nat}
theorem CC.nil (h : Q ⟨f, bx1, lv1, gen1⟩) : CC P C n ⟨bx0, bx1, lv0, lv1, gen0, gen1⟩ ops c Q [] i f true :=
  CC.nil_ (S := ⟨bx0, bx1, lv0, lv1, gen0, gen1⟩) h
end
end Go.Ab
namespace Go.Ab
open Go.RowKit
/-! ### whatever the states are: with paths in place of edges -/
section
variable {P : Program} {ops : Array Oper} {md : Region.Mode} {m : Nat} {S E : Type} {Y : Nat → E → S → Prop} {ef : Nat → E → S → S}
def loose (md : Region.Mode) (ops : Array Oper) (i j : Nat) : Prop := reachB md ops ops.size i j = false ∧ reachB md ops ops.size j i = false
end
/-! ### what a renumbering leaves as it is -/
def monoB (o o' : List Nat) : Bool := (List.range o.length).all fun g => !(pos o g == some g) || pos o' g == some g
end Go.Ab
namespace Go.Ab
open Go.RowKit
section
variable {P : Program} {C : Ctx} {n : Nat} {ops : Array Oper} {Q : Exit → St → Prop} {f : List (Nat × A)} {bx : List (Nat × List A)} {lv : List Nat} {gen : Nat}
end
end Go.Ab
namespace Go.Ab
open Go.RowKit
structure ParD where
  bxF : Nat → List (Nat × List A)
  bxT : Nat → List (Nat × List A)
  lv : Nat → List Nat
  gen : Nat → Nat
  ord : Nat → List Nat
  g0 : Nat
  z : List A
  cs : List Nat
  al : Nat
  R : List PanicEntry → Prop
def ParD.bx (S : ParD) (k : Nat) (b : Bool) : List (Nat × List A) := bif b then S.bxT k else S.bxF k
def alw (S : ParD) (ops : Array Oper) (i k : Nat) (b : Bool) : Bool :=
  ((List.range S.cs.length).all fun j => bif Nat.blt j k then !reachB .any ops ops.size (S.cs.getD j 0) i else !reachB .any ops ops.size i (S.cs.getD j 0)) &&
  (bif b then !reachB .any ops ops.size S.al i else (Nat.blt S.al ops.size && !reachB .any ops ops.size i S.al))
section
variable {P : Program} (T : Tab P) {C : Ctx} {n : Nat} (S : ParD) {ops : Array Oper}
abbrev SD := Fr' × Nat × Bool
def XEd (P : Program) (C : Ctx) (n : Nat) (S : ParD) (ops : Array Oper) (o : Oper) (a : A) (k : Nat) (b : Bool) (φ : Fr') : Prop :=
  o.guard = none ∧ ∃ p, (∀ t x, look p t = some x → φ t = some x ∧ t ∈ o.looksAt ops) ∧
    ∀ g, WO P C n ops (fun e st => (e = .normal ∧ st = St.put ⟨p ++ g, S.bx (k + 1) b, S.lv (k + 1), S.gen (k + 1)⟩ o.dst a) ∨ ∃ c, e = .panic c ∧ S.R c) [o] ⟨p ++ g, S.bx k b, S.lv k, S.gen k⟩
def YD (P : Program) (T : Tab P) (C : Ctx) (n : Nat) (S : ParD) (ops : Array Oper) (i : Nat) (a : A) (σ : SD) : Prop :=
  ∃ o, ops[i]? = some o ∧ dstOK n o.dst = true ∧ σ.2.1 ≤ S.cs.length ∧ alw S ops i σ.2.1 σ.2.2 = true ∧
    ((S.cs[σ.2.1]? = some i ∧ i ≠ S.al ∧ (∀ b, alw S ops i σ.2.1 b = true → XEd P C n S ops o a σ.2.1 b σ.1) ∧ (alw S ops i σ.2.1 false = true → ren (S.ord (σ.2.1 + 1)) a = a)) ∨
     (i ∉ S.cs ∧ i = S.al ∧ σ.2.2 = false ∧ o.guard = none ∧ a = .ptr S.g0 0 ∧ ∃ e d dt, o.op = .alloc e ∧ o.dst = some d ∧ look' T.l e = some dt ∧ S.z = dt.z.map fun v => A.d (.v v)) ∨
     (i ∉ S.cs ∧ i ≠ S.al ∧ ∀ k b, k ≤ S.cs.length → alw S ops i k b = true → YA P C n (S.bx k b) (S.lv k) (S.gen k) ops o a σ.1 ∧ (b = false → ren (S.ord k) a = a)))
def efD (S : ParD) (ops : Array Oper) (i : Nat) (a : A) (σ : SD) : SD :=
  match ops[i]? with
  | none => σ
  | some o => (putF σ.1 o.dst a, (if S.cs[σ.2.1]? = some i then σ.2.1 + 1 else σ.2.1), if i = S.al then true else σ.2.2)
variable {T} {S}
theorem loose.symm {md : Region.Mode} {i j : Nat} (h : loose md ops i j) : loose md ops j i := ⟨h.2, h.1⟩
def okD1 (S : ParD) (nb k : Nat) : Prop := (orderB (S.ord k) (S.gen k) nb = true ∧ pos (S.ord k) (S.gen k) = some S.g0) ∧ SubBR (S.ord k) ((S.gen k, S.z) :: S.bxF k) (S.bxT k) ∧ lvR (S.ord k) (S.lv k) (S.lv k) = true
def okD (S : ParD) (nb : Nat) : Nat → Prop
  | 0 => okD1 S nb 0
  | k + 1 => okD1 S nb (k + 1) ∧ monoB (S.ord k) (S.ord (k + 1)) = true ∧ okD S nb k
theorem okD.at {nb : Nat} : ∀ {m : Nat}, okD S nb m → ∀ k, k ≤ m → okD1 S nb k
  | 0, h, k, hk => by
    obtain rfl : k = 0 := by omega
    exact h
  | m + 1, h, k, hk => by
    rcases Nat.lt_or_ge k (m + 1) with hlt | hge
    · exact okD.at h.2.2 k (by omega)
    · obtain rfl : k = m + 1 := by omega
      exact h.1
theorem okD.mono {nb : Nat} : ∀ {m : Nat}, okD S nb m → ∀ k, k < m → monoB (S.ord k) (S.ord (k + 1)) = true
  | 0, _, k, hk => absurd hk (Nat.not_lt_zero _)
  | m + 1, h, k, hk => by
    rcases Nat.lt_or_ge k m with hlt | hge
    · exact okD.mono h.2.2 k hlt
    · obtain rfl : k = m := by omega
      exact h.2.1
def CD (P : Program) (T : Tab P) (C : Ctx) (n : Nat) (S : ParD) (ops : Array Oper) (Q : St → Prop) (l : List Oper) (i : Nat) (f : List (Nat × A)) (k : Nat) (b : Bool) : Prop :=
  ceG (YD P T C n S ops) (efD S ops) (fun σ => ∃ f', (∀ t, look f' t = σ.1 t) ∧ σ.2 = (S.cs.length, true) ∧ Q ⟨f', S.bxT S.cs.length, S.lv S.cs.length, S.gen S.cs.length⟩) l i (look f, k, b)
def AllFix (o : List Nat) : List (Nat × A) → Prop
  | [] => True
  | (_, a) :: r => ren o a = a ∧ AllFix o r
theorem AllFix.at {o : List Nat} : ∀ {f : List (Nat × A)}, AllFix o f → ∀ t a, look f t = some a → ren o a = a
  | [], _, t, a, h => by simp [look] at h
  | (s, x) :: r, hf, t, a, h => by
    rw [look_cons] at h
    split at h
    · cases h; exact hf.1
    · exact hf.2.at t a h
variable {op : Op} {ty : TypeId} {pos : String} {af : Array Edge} {a : A} {d i k : Nat} {rest : List Oper} {f : List (Nat × A)} {Q : St → Prop} {b : Bool}
theorem CD.nil (h : Q ⟨f, S.bxT S.cs.length, S.lv S.cs.length, S.gen S.cs.length⟩) (hk : Nat.beq k S.cs.length = true) : CD P T C n S ops Q [] i f k true := by
  have := Nat.eq_of_beq_eq_true hk
  subst this
  exact ⟨f, fun _ => rfl, rfl, h⟩
def allD (p : Nat → Bool → Prop) : Nat → Prop
  | 0 => p 0 false ∧ p 0 true
  | k + 1 => p (k + 1) false ∧ p (k + 1) true ∧ allD p k
theorem allD.at {p : Nat → Bool → Prop} : ∀ {m : Nat}, allD p m → ∀ k b, k ≤ m → p k b
  | 0, h, k, b, hk => by
    obtain rfl : k = 0 := by omega
    cases b
    · exact h.1
    · exact h.2
  | m + 1, h, k, b, hk => by
    rcases Nat.lt_or_ge k (m + 1) with hlt | hge
    · exact h.2.2.at k b (by omega)
    · obtain rfl : k = m + 1 := by omega
      cases b
      · exact h.1
      · exact h.2.1
end
end Go.Ab
namespace Go.Ab
end Go.Ab
namespace Go.Ab
open Go.RowKit
def boxE (es : List (List D)) (k : Nat) : List A := es.flatten.map A.d ++ List.replicate k .any
section
variable {C : Ctx} {n : Nat} {st : St} {G : Gh} {tmps : Array Value} {w : World}
end
section
variable {P : Program} (T : Tab P) {C : Ctx} {n : Nat} {ops : Array Oper} {Q : Exit → St → Prop} {rest : List Oper}
variable {f : List (Nat × A)} {bx : List (Nat × List A)} {lv : List Nat} {gen : Nat} {d : Nat} {op : Op} {ty : TypeId} {pos : String} {af : Array Edge} {a : A} {dst : Option Nat} {c : Code}
end
end Go.Ab
namespace Go.Ab
theorem noIdL_append : ∀ (l m : List A), noIdL (l ++ m) = (noIdL l && noIdL m)
  | [], m => by simp [noIdL]
  | a :: l, m => by simp [noIdL, noIdL_append l m, Bool.and_assoc]
theorem noIdL_ds : ∀ l : List D, noIdL (l.map A.d) = true
  | [] => rfl
  | d :: l => by simp [noIdL, noId, noIdL_ds l]
theorem noIdL_anys : ∀ k : Nat, noIdL (List.replicate k A.any) = true
  | 0 => rfl
  | k + 1 => by simp [List.replicate_succ, noIdL, noId, noIdL_anys k]
theorem renL_boxE (o : List Nat) (es : List (List D)) (k : Nat) : renL o (boxE es k) = boxE es k :=
  renL_noId o _ (by unfold boxE; rw [noIdL_append, noIdL_ds, noIdL_anys]; rfl)
section
variable {P : Program} {C : Ctx} {n : Nat} {ops : Array Oper} {Q : Exit → St → Prop} {rest : List Oper}
variable {f : List (Nat × A)} {bx : List (Nat × List A)} {lv : List Nat} {gen : Nat} {d : Nat} {ty : TypeId} {pos : String} {af : Array Edge}
end
end Go.Ab
namespace Go.Ab
open Go.RowKit
section
variable {P : Program} (T : Tab P) {C : Ctx} {n : Nat} {ops : Array Oper} {Q : Exit → St → Prop} {rest : List Oper}
variable {f f' : List (Nat × A)} {bx bx' : List (Nat × List A)} {lv : List Nat} {gen : Nat} {d : Nat} {op : Op} {ty : TypeId} {pos : String} {af : Array Edge} {a : A} {dst : Option Nat} {c : Code}
end
end Go.Ab
namespace Go.Ab
open Go.RowKit
section
variable {P : Program} (T : Tab P) {C : Ctx} {n : Nat} {ops : Array Oper} {Q : Exit → St → Prop} {rest : List Oper}
variable {f : List (Nat × A)} {bx : List (Nat × List A)} {lv : List Nat} {gen : Nat} {d : Nat} {op : Op} {ty : TypeId} {pos : String} {af : Array Edge} {a : A} {dst : Option Nat} {c : Code}
theorem RowX.same {w : World} {pv : Nat → Nat → Prop} {r : Row} {v v' : Value} {es es' : List (List D)} (h : RowX w pv r v es) (h' : RowX w pv r v' es') : v = v' := by
  cases r with
  | nil => exact h.1.trans h'.1.symm
  | zero b => exact h.1.trans h'.1.symm
  | blk b len cap sz pub => exact h.1.trans h'.1.symm
  | mp b => exact h.elim
end
end Go.Ab
namespace Go.Ab
open Go.RowKit
def loA (f : List (Nat × A)) : Option Operand → Option Int
  | none => some 0
  | some x => match av f x with | some (.d (.v (.int _ v))) => some v | _ => none
def hiA (f : List (Nat × A)) (len : Nat) : Option Operand → Option Int
  | none => some (len : Int)
  | some x => match av f x with | some (.d (.v (.int _ v))) => some v | _ => none
theorem RepD.sub {w : World} {pv : Nat → Nat → Prop} {v : Value} {es : List (List D)} (h : RepD w pv v (.sl es)) {i j sz : Nat} (hij : i ≤ j) (hj : j ≤ es.length) (hsz : ∀ e ∈ es, e.length = sz) :
    ∃ a cap, v = .slice a es.length cap ∧ es.length ≤ cap ∧ RepD w pv (sliced a i j cap sz) (.sl ((es.take j).drop i)) := by
  cases h with
  | nil =>
    have e1 : j = 0 := by simpa using hj
    subst e1
    have e2 : i = 0 := by omega
    subst e2
    exact ⟨none, 0, rfl, Nat.le_refl _, .nil⟩
  | emp a cap hm =>
    have e1 : j = 0 := by simpa using hj
    subst e1
    have e2 : i = 0 := by omega
    subst e2
    refine ⟨some a, cap, rfl, Nat.zero_le _, ?_⟩
    simp only [sliced, List.take_zero, List.drop_zero, Nat.sub_zero]
    split
    · exact .emp a cap hm
    · exact .emp _ cap hm
  | sl b off len cap sz' es u hl hc hm hs hu hr =>
    refine ⟨_, cap, by rw [hl], by omega, ?_⟩
    rcases Nat.eq_or_lt_of_le hij with e | hlt
    · subst e
      rw [show (es.take i).drop i = [] from List.drop_eq_nil_of_le (List.length_take_le _ _)]
      simp only [sliced, Nat.sub_self]
      split
      · exact .emp _ _ (by omega)
      · exact .emp _ _ (by omega)
    · have e : sz' = sz := by
        obtain ⟨x, hx⟩ : ∃ x, es[0]? = some x := ⟨es[0]'(by omega), by simp⟩
        rw [← hs 0 x hx, hsz x (List.mem_of_getElem? hx)]
      subst e
      have hne : cap ≠ i := by omega
      have ha : ∀ (k : Nat) (x : List D), ((es.take j).drop i)[k]? = some x → es[i + k]? = some x ∧ k < j - i := fun k x hk => by
        have hk' := hk
        rw [List.getElem?_drop] at hk
        have h1 := (List.getElem?_eq_some_iff.1 hk).1
        rw [List.length_take] at h1
        rw [List.getElem?_take, if_pos (by omega)] at hk
        exact ⟨hk, by omega⟩
      simp only [sliced, if_neg hne, Option.map_some]
      rw [show (Addr.add ⟨b, off, none⟩ (i * sz')) = ⟨b, off + i * sz', none⟩ from by simp [Addr.add]]
      refine .sl b (off + i * sz') (j - i) (cap - i) sz' _ (fun k c => u (i + k) c) ?_ (by omega) (by omega) (fun k x hk => hs _ x (ha k x hk).1) (fun k c hk hc' => ?_) (fun k c x d hk hd => hr _ c x d (ha k x hk).1 hd)
      · rw [List.length_drop, List.length_take]; omega
      · have := hu (i + k) c (by omega) hc'
        rw [show off + (i + k) * sz' + c = off + i * sz' + k * sz' + c from by rw [Nat.add_mul]; omega] at this
        exact this
section
variable {P : Program} (T : Tab P) {C : Ctx} {n : Nat}
variable {f : List (Nat × A)} {bx : List (Nat × List A)} {lv : List Nat} {gen : Nat} {ty : TypeId} {pos : String} {af : Array Edge} {dst : Option Nat} {G : Gh} {tmps : Array Value} {w : World}
theorem bounds_run (b : Bool) {lo hi : Option Operand} {len cap : Nat} {i j : Int} (hs : SimG C n ⟨f, bx, lv, gen⟩ G tmps w) (hlo : loA f lo = some i) (hhi : hiA f len hi = some j) (h0 : 0 ≤ i) (hij : i ≤ j) (hj : j ≤ len) (hc : len ≤ cap) :
    (Instr.sliceBounds b len cap (lo.map (Act.eval ⟨tmps, []⟩)) (hi.map (Act.eval ⟨tmps, []⟩)) none).run P w = .ok (i.toNat, j.toNat, cap) w := by
  have ev : ∀ (x : Operand) (v : Int), (match av f x with | some (.d (.v (.int _ v))) => some v | _ => none) = some v → ∃ k, Act.eval ⟨tmps, []⟩ x = .int k v := fun x v h => by
    split at h
    · rename_i k v' hav
      simp only [Option.some.injEq] at h
      subst h
      have hr := hs.av hav
      generalize Act.eval ⟨tmps, []⟩ x = y at hr
      cases hr with | d hr => cases hr with | v _ _ => exact ⟨k, rfl⟩
    · cases h
  have ehj : (j.toNat : Int) = j := Int.toNat_of_nonneg (by omega)
  have hh : ((match hi.map (Act.eval ⟨tmps, []⟩) with | some v => Instr.sliceBound v cap (if b then .sliceAcap else .sliceAlen) | none => pure len : Sem Nat)).run P w = .ok j.toNat w := by
    cases hi with
    | none =>
      simp only [hiA, Option.some.injEq] at hhi
      subst hhi
      simp
    | some x =>
      obtain ⟨k, e⟩ := ev x j hhi
      simp only [Option.map_some, e]
      exact run_sliceBound w k j cap _ (by omega) (by omega)
  have hl : ((match lo.map (Act.eval ⟨tmps, []⟩) with | some v => Instr.sliceBound v j.toNat (if (none : Option Value).isSome then .slice3C else .sliceB) | none => pure 0 : Sem Nat)).run P w = .ok i.toNat w := by
    cases lo with
    | none =>
      simp only [loA, Option.some.injEq] at hlo
      subst hlo
      simp
    | some x =>
      obtain ⟨k, e⟩ := ev x i hlo
      simp only [Option.map_some, e]
      exact run_sliceBound w k i j.toNat _ (by omega) (by omega)
  unfold Instr.sliceBounds
  cases hi with
  | none =>
    cases lo with
    | none =>
      simp only [Option.map_none, Sem.run_bind, Sem.run_pure, Result.andThen_ok] at hh hl ⊢
      simp_all
    | some x =>
      simp only [Option.map_none, Option.map_some, Sem.run_bind, Sem.run_pure, Result.andThen_ok] at hh hl ⊢
      simp only [Result.ok.injEq, and_true] at hh
      rw [← hh] at hl ⊢
      simp_all
  | some y =>
    cases lo with
    | none =>
      simp only [Option.map_none, Option.map_some, Sem.run_bind, Sem.run_pure, Result.andThen_ok] at hh hl ⊢
      rw [hh]
      simp_all
    | some x =>
      simp only [Option.map_some, Sem.run_bind, Sem.run_pure, Result.andThen_ok] at hh hl ⊢
      rw [hh]
      simp_all
theorem sliceV {α : Type} {fn : α → List D} {t e : Nat} {x : Operand} {lo hi : Option Operand} {td ed : TyD} {a : A} {l r : List α} {i j : Int} (hx : av f x = some a) (hes : slOf a = some (l.map fn)) (ht : look' T.l t = some td) (hk : td.k = .slice e) (he : look' T.l e = some ed)
    (hn : ∀ x, (fn x).length = ed.n) (hlo : loA f lo = some i) (hhi : hiA f l.length hi = some j) (h0 : 0 ≤ i) (hij : i ≤ j) (hj : j ≤ (l.length : Int)) (hr : (l.take j.toNat).drop i.toNat = r) :
    Pu P C n ⟨f, bx, lv, gen⟩ ⟨dst, .slice t x lo hi none, ty, pos, af, none⟩ (.d (.sl (r.map fn))) := by
  subst hr
  refine PuOK.pu fun G tmps w hs => ?_
  have hrx := slOf_rep hes (hs.av hx)
  obtain ⟨a', cap, hv, hcap, hrep⟩ := hrx.sub (i := i.toNat) (j := j.toNat) (sz := ed.n) (by omega) (by rw [List.length_map]; omega) (fun y hy => by obtain ⟨z, _, rfl⟩ := List.mem_map.1 hy; exact hn z)
  rw [List.length_map] at hv hcap
  have hu := T.u_slice ht hk
  have hpe : P.elem t = e := by simp [Program.elem, hu]
  have hu' : P.underlying t = some (.slice (P.elem t)) := by rw [hpe]; exact hu
  refine ⟨sliced a' i.toNat j.toNat cap ed.n, ?_, .d (by rw [← List.map_take, ← List.map_drop] at hrep; exact hrep)⟩
  unfold execOp
  show Sem.run P _ w = _
  simp only [Sem.run_bind, run_sliceAt_slice w t _ _ _ _ hu', hv, run_slice_any w t a' l.length cap hu', Option.map_none, bounds_run (P := P) true hs hlo hhi h0 hij hj hcap, Result.andThen_ok, hpe, T.sizeOf he]
  rfl
end
end Go.Ab
namespace Go.Ab
open Go.RowKit
section
variable {P : Program} (T : Tab P) {C : Ctx} {n : Nat} {ops : Array Oper} {Q : Exit → St → Prop} {rest : List Oper}
variable {f f' : List (Nat × A)} {bx bx' : List (Nat × List A)} {lv : List Nat} {gen : Nat} {d : Nat} {op : Op} {ty : TypeId} {pos : String} {af : Array Edge} {a : A} {dst : Option Nat} {c : Code} {o : Oper}
theorem RowX.slice {w : World} {pv : Nat → Nat → Prop} {r : Row} {v : Value} {es : List (List D)} (h : RowX w pv r v es) : ∃ a l c, v = .slice a l c := by
  cases r with
  | nil => exact ⟨_, _, _, h.1⟩
  | zero b => exact ⟨_, _, _, h.1⟩
  | blk b len cap sz pub => exact ⟨_, _, _, h.1⟩
  | mp b => exact h.elim
theorem SimG.recell {G : Gh} {tmps : Array Value} {w : World} (hs : SimG C n ⟨f, bx, lv, gen⟩ G tmps w) {g0 : Nat} {cells cells' : List A} (hb : look' bx g0 = some cells) (hlen : cells'.length = cells.length)
    (hc : ∀ b cs T, G.box g0 = some b → w.heap[b]? = some (.cells cs T (0, 0)) → (∀ (i : Nat) (x : Value) (a : A), cs[i]? = some x → cells[i]? = some a → Rep (enOf C G gen w) x a) → ∀ (i : Nat) (x : Value) (a : A), cs[i]? = some x → cells'[i]? = some a → Rep (enOf C G gen w) x a) :
    SimG C n ⟨f, (g0, cells') :: bx, lv, gen⟩ G tmps w := by
  refine { hs with box := fun g' l hl => ?_ }
  simp only [look'_cons] at hl
  split at hl
  · rename_i e
    subst e
    simp only [Option.some.injEq] at hl
    subst hl
    obtain ⟨b, cs, T', h1, h2, h3, h4, h5⟩ := hs.box g0 cells hb
    exact ⟨b, cs, T', h1, h2, by rw [hlen]; exact h3, h4, hc b cs T' h1 h2 h5⟩
  · exact hs.box g' l hl
end
end Go.Ab
namespace Go.Ab
open Go.RowKit Go.MapKept
section
variable {P : Program} (T : Tab P) {C : Ctx} {n : Nat} {ops : Array Oper} {Q : Exit → St → Prop} {rest : List Oper}
variable {f : List (Nat × A)} {bx : List (Nat × List A)} {lv : List Nat} {gen : Nat} {d : Nat} {ty : TypeId} {pos : String} {af : Array Edge} {dst : Option Nat}
variable {α β : Type} [DecidableEq α] {kf : α → Value} {vf : β → D}
theorem mapPutB (gq jq : Nat) {mt k e : Nat} {td : TyD} {m kx x : Operand} {g : Nat} {cq : List A} {l : List (α × β)} {a : α} {y : β} {xa : A} (hm : av f m = some (.mp g (mes kf vf l))) (hq : look' bx gq = some cq) (hj : cq[jq]? = some (.mp g (mes kf vf l)))
    (hk : av f kx = some (.d (.v (kf a)))) (hx : av f x = some xa) (hxd : oneD xa = some (vf y))
    (ht : look' T.l mt = some td) (htk : td.k = .map k e) (hkt : KeyT P k kf) (hgl : (lv.any fun h => Nat.beq h g) = true) (hn : (l.map (·.1)).Nodup) {es' : List (Value × List D)} (hes : mes kf vf (mput l a y) = es') {lv' : List Nat} (hlv : gen :: dropId lv g = lv') {cq' : List A} (hcq : cq.set jq (.mp gen es') = cq')
    (h : WO P C n ops Q rest ⟨f, (gq, cq') :: bx, lv', gen + 1⟩) : WO P C n ops Q (⟨none, .mapUpdate mt m kx x, ty, pos, af, none⟩ :: rest) ⟨f, bx, lv, gen⟩ := by
  subst hcq; subst hes; subst hlv
  refine WO.step (st := ⟨f, bx, lv, gen⟩) rfl fun tmps w ⟨G, hs⟩ => ?_
  have hrm := hs.av hm
  have hrk := hs.av hk
  have hrx := oneD_rep hxd (hs.av hx)
  generalize hv : Act.eval ⟨tmps, []⟩ m = v at hrm
  generalize hvk : Act.eval ⟨tmps, []⟩ kx = vk at hrk
  obtain ⟨b, hgb, rfl, me, clock, hb, hst, hmi⟩ := hs.mapAt hrm (memAny hgl)
  cases hrk with | d hrk => cases hrk with | v _ hok =>
  obtain ⟨me', clock', hrun, hst', hmi'⟩ := run_mapPut T ht htk hkt hb hst hmi hn a hok hrx
  have h0 : (execOp (Act.eval ⟨tmps, []⟩) ⟨none, .mapUpdate mt m kx x, ty, pos, af, none⟩).run P w = .ok .skip { w with heap := w.heap.setIfInBounds b (.map me' clock') } := by
    unfold execOp
    show Sem.run P _ w = .ok _ _
    simp only [hv, hvk, Sem.run_bind, hrun, Result.andThen_ok, Sem.run_pure]
  obtain ⟨b0, cs0, T0, p1, p2, p3, p4, p5⟩ := hs.box gq cq hq
  have hjl : jq < cs0.size := by rw [p3]; exact (List.getElem?_eq_some_iff.1 hj).1
  have hx0 : cs0[jq]? = some cs0[jq] := by simp [hjl]
  have hrep := p5 jq _ _ hx0 hj
  obtain ⟨b2, hgb2, hval, _⟩ := hs.mapAt hrep (memAny hgl)
  have e2 : b2 = b := by have := hgb2.symm.trans hgb; simpa using this
  subst e2
  obtain ⟨G', hGb, hs', hr'⟩ := hs.putMap hgb me' clock' hst' (es := mes kf vf (mput l a y)) (by rw [hmi'.1]; simp [mes]) (fun i m k l' hm hk => by
    simp only [mes, List.getElem?_map, Option.map_eq_some_iff] at hk
    obtain ⟨p, hp, e⟩ := hk
    simp only [Prod.mk.injEq] at e
    obtain ⟨rfl, rfl⟩ := e
    exact hmi'.2 i m p hm hp) (dropId lv g) (fun g' hg' => dropId_mem hg')
  refine gives_skip h0 ⟨_, ⟨G', hs'.recell hq (by simp) fun b3 cs3 T3 q1 q2 q3 i x' a' hx ha => ?_⟩, h⟩
  by_cases e : jq = i
  · subst e
    have hlt : jq < (cq.set jq (.mp gen (mes kf vf (mput l a y)))).length := (List.getElem?_eq_some_iff.1 ha).1
    rw [List.length_set] at hlt
    rw [List.getElem?_set_self hlt] at ha
    simp only [Option.some.injEq] at ha
    subst ha
    rw [hGb, p1] at q1
    simp only [Option.some.injEq] at q1
    subst q1
    have hne : b0 ≠ b2 := fun e => by rw [e, hb] at p2; cases p2
    rw [(heap_set (o' := Obj.map me' clock') hb).2 b0 hne, p2] at q2
    simp only [Option.some.injEq, Obj.cells.injEq] at q2
    rw [← q2.1, hx0] at hx
    simp only [Option.some.injEq] at hx
    subst hx
    rw [hval]
    exact hr'
  · rw [List.getElem?_set_ne e] at ha
    exact q3 i x' a' hx ha
end
end Go.Ab
namespace Go.Ab
open Go.RowKit
def bd (c : UInt8) : List D := [.v (.int .u8 c.toNat)]
def bds (s : ByteArray) : List (List D) := s.data.toList.map bd
theorem bds_len (s : ByteArray) : (bds s).length = s.size := by rw [bds, List.length_map, Array.length_toList]; rfl
theorem bds_one {s : ByteArray} : ∀ (e : List D), e ∈ bds s → e.length = 1 := by
  intro e he
  obtain ⟨c, _, rfl⟩ := List.mem_map.1 he
  rfl
theorem bds_hr {arr : Array Value} {s : ByteArray} {w : World} {pv : Nat → Nat → Prop} (h : ∀ (i : Nat) (c : UInt8), s.data[i]? = some c → arr[i]? = some (.int .u8 c.toNat)) :
    ∀ (i j : Nat) (e : List D) (d : D), (bds s)[i]? = some e → e[j]? = some d → ∃ u, arr[i * 1 + j]? = some u ∧ RepD w pv u d := by
  intro i j e d hi hj
  simp only [bds, List.getElem?_map, Option.map_eq_some_iff] at hi
  obtain ⟨c, hc, rfl⟩ := hi
  match j with
  | 0 =>
    simp [bd] at hj
    subst hj
    refine ⟨_, by rw [Nat.mul_one, Nat.add_zero]; exact h i c (by simpa using hc), .v _ ?_⟩
    have := c.toNat_lt
    simp [okc, IntKind.min, IntKind.max, IntKind.signed, IntKind.bits]
    omega
  | j + 1 => simp [bd] at hj
theorem strCells_get {s : ByteArray} {i : Nat} {c : UInt8} (h : s.data[i]? = some c) : (Lib.strCells s)[i]? = some (.int .u8 c.toNat) := by
  simp only [Lib.strCells, List.getElem?_map, Array.getElem?_toList, h, Option.map_some]
theorem strCells_one (s : ByteArray) : ∀ u ∈ Lib.strCells s, u.oneCell' = true := fun u hu => by
  obtain ⟨i, hi⟩ := List.mem_iff_getElem?.1 hu
  have hj : i < s.data.size := by have := (List.getElem?_eq_some_iff.1 hi).1; rw [Lib.strCells_length] at this; exact this
  have hc : s.data[i]? = some s.data[i] := by simp [hj]
  rw [strCells_get hc] at hi
  rw [← Option.some.inj hi]
  rfl
theorem zero_one : ∀ u ∈ (Value.int IntKind.u8 0).cells.toList, u.oneCell' = true := fun u hu => by
  simp [Value.cells] at hu
  subst hu
  rfl
theorem strCells_cat (a b : ByteArray) : Lib.strCells (a ++ b) = Lib.strCells a ++ Lib.strCells b := by simp [Lib.strCells]
theorem size_cat (a b : ByteArray) : (a ++ b).size = a.size + b.size := by simp [ByteArray.size_append]
theorem xs_bf {E : En} {v : Value} {g T : Nat} {s : ByteArray} (h : Rep E v (.xs g (bds s))) (hT : v = .slice none 0 0 ∨ ∃ b n c cs f, v = .slice (some ⟨b, 0, none⟩) n c ∧ 0 < n ∧ E.w.heap[b]? = some (.cells cs T f)) : Rep E v (.bf g T s) := by
  cases h with
  | xs _ _ _ hg h1 h =>
  refine .bf v g T s hg h1 fun r hr => ?_
  have hx := h r hr
  cases r with
  | nil => exact ⟨hx.1, by rw [← bds_len, hx.2]; rfl⟩
  | zero b =>
    obtain ⟨h2, h3⟩ := hx
    rcases hT with hT | ⟨b', n, c, cs, f, hT, hn, _⟩
    · rw [hT] at h2; cases h2
    · rw [hT] at h2; simp only [Value.slice.injEq] at h2; omega
  | mp b => exact hx.elim
  | blk b len cap sz pub =>
    obtain ⟨h2, h3, h4, h5, h6⟩ := hx
    rcases hT with hT | ⟨b', n, c, cs, f, hT, hn, hT2⟩
    · rw [hT] at h2; cases h2
    · rw [hT] at h2
      simp only [Value.slice.injEq, Option.some.injEq, Addr.mk.injEq, and_true] at h2
      obtain ⟨rfl, rfl, rfl⟩ := h2
      have hsz : sz = 1 := by
        have h0 : 0 < (bds s).length := by omega
        rw [← h5 _ (List.getElem_mem h0), bds_one _ (List.getElem_mem h0)]
      subst hsz
      refine ⟨hT, by rw [← bds_len]; exact h3, rfl, h4, ⟨cs, f, hT2⟩, fun i c' hc => ?_⟩
      obtain ⟨u, h7, h8⟩ := h6 i 0 (bd c') (.v (.int .u8 c'.toNat)) (by simp only [bds, List.getElem?_map, Array.getElem?_toList, hc, Option.map_some]) rfl
      cases h8
      rw [Nat.mul_one, Nat.add_zero] at h7
      exact h7
structure AppB (P : Program) (w : World) (A : Array TypeId) (ty : TypeId) (x2 : Value) (m : ByteArray) (T : TypeId) : Prop where
  emp : m.size = 0 → (Builtin.append_ A ty #[.slice none 0 0, x2]).run P w = .ok (.slice none 0 0) w
  new : 0 < m.size → (Builtin.append_ A ty #[.slice none 0 0, x2]).run P w = .ok (.slice (some ⟨w.heap.size, 0, none⟩) m.size (grownCap w m.size 0 T))
    (w.drew.alloc (.cells ((Lib.strCells m).toArray ++ Builtin.zeroCells (Value.int .u8 0).cells (grownCap w m.size 0 T - m.size)) T))
  room : ∀ (b n cap : Nat) (cur : Array Value), w.heap[b]? = some (.cells cur T (0, 0)) → n + m.size ≤ cap → n + m.size ≤ cur.size →
    (Builtin.append_ A ty #[.slice (some ⟨b, 0, none⟩) n cap, x2]).run P w = .ok (.slice (some ⟨b, 0, none⟩) (n + m.size) cap) (w.setRow b (cur.toList.take n ++ Lib.strCells m ++ cur.toList.drop (n + m.size)).toArray)
  grow : ∀ (b n cap : Nat) (olds : List Value), olds.length = n → (∀ j u, olds[j]? = some u → w.cell? ((⟨b, 0, none⟩ : Addr).add j) = some u) → cap < n + m.size → n + m.size ≤ 140737488355328 →
    (Builtin.append_ A ty #[.slice (some ⟨b, 0, none⟩) n cap, x2]).run P w = .ok (.slice (some ⟨w.heap.size, 0, none⟩) (n + m.size) (grownCap w (n + m.size) cap T))
      (w.drew.alloc (.cells (olds.toArray ++ (Lib.strCells m).toArray ++ Builtin.zeroCells (Value.int .u8 0).cells (grownCap w (n + m.size) cap T - (n + m.size))) T))
theorem AppB.string {P : Program} {w : World} {t u ty T : TypeId} {i : TypeInfo} (ht : P.underlying t = some (.slice T)) (hu : P.underlying u = some .string) (hi : P.info? T = some i) (hz : i.zero = some (.int .u8 0)) (hs : i.size = 1) (hb : i.bytes = 1) {m : ByteArray} (hm : m.size ≤ 140737488355328) :
    AppB P w #[t, u] ty (.string m) m T := by
  refine ⟨fun h0 => ?_, fun h0 => ?_, fun b n cap cur hc h1 h2 => Lib.run_append_room_string (P := P) w t u ty T i ht hu hi hs b n cap cur hc m h1 h2, fun b n cap olds ho hcell h1 h2 => ?_⟩
  · have hf := Lib.run_firstCells_string (P := P) w 1 m
    rw [h0] at hf
    simp [Builtin.append_, run_underlying ht, run_underlying hu, sizeOf, typeInfo, hi, hs, Builtin.lenOf, h0, hf]
  · have hr := run_append_nil_string (P := P) w t u ty T i (.int .u8 0) ht hu hi hz m h0 (by omega) (by rw [hb]; omega)
    have e1 : (m.data.map fun b => Value.int .u8 b.toNat) = (Lib.strCells m).toArray := by apply Array.ext'; simp [Lib.strCells]
    rw [e1] at hr
    exact hr
  · exact Lib.run_append_grow_string (P := P) w t u ty T i (.int .u8 0) ht hu hi hz ⟨b, 0, none⟩ n cap olds (by rw [hs]; omega) hcell m h1 (by omega) (by rw [hb]; exact growslice_fits (by omega) (by omega))
theorem AppB.one {P : Program} {w : World} {t ty T : TypeId} {i : TypeInfo} (ht : P.underlying t = some (.slice T)) (hi : P.info? T = some i) (hz : i.zero = some (.int .u8 0)) (hs : i.size = 1) (hb : i.bytes = 1) {a : Addr} {c : Nat} {m : ByteArray} (hm : 0 < m.size) (hm2 : m.size ≤ 140737488355328)
    (hcell : ∀ j u, (Lib.strCells m)[j]? = some u → w.cell? (a.add j) = some u) : AppB P w #[t, t] ty (.slice (some a) m.size c) m T := by
  have hl : (Lib.strCells m).length = m.size * i.size := by rw [Lib.strCells_length, hs, Nat.mul_one]
  refine ⟨fun h0 => by omega, fun h0 => ?_, fun b n cap cur hc h1 h2 => ?_, fun b n cap olds ho hcell2 h1 h2 => ?_⟩
  · have hr := run_append_nil (P := P) w t ty T i (.int .u8 0) ht hi hz a m.size c (Lib.strCells m) hl hcell h0 (by omega) (by rw [hb]; omega)
    exact hr
  · have hr := run_append_room (P := P) w t ty T i ht hi b n cap cur hc a m.size c (Lib.strCells m) hl hcell (Lib.strCells_oneCell m) h1 (by rw [hs, Nat.mul_one, Lib.strCells_length]; exact h2)
    rw [hs, Nat.mul_one, Lib.strCells_length] at hr
    exact hr
  · exact run_append_grow (P := P) w t ty T i (.int .u8 0) ht hi hz ⟨b, 0, none⟩ n cap olds (by rw [hs]; omega) hcell2 a m.size c (Lib.strCells m) hl hcell h1 (by omega) (growslice_fits (by omega) (by rw [hb]; omega))
section
variable {P : Program} {C : Ctx} {n : Nat} {st : St} {G : Gh} {tmps : Array Value} {w : World}
theorem bytes_core (h : SimG C n st G tmps w) {g : Nat} {r : Row} (hg : G.own g = some r) {v : Value} {T : Nat} {s : ByteArray} (hv : v.oneCell' = true) (hx : RowB w r v T s) {A : Array TypeId} {ty : TypeId} {x2 : Value} {m : ByteArray} (ha : AppB P w A ty x2 m T)
    (hb : s.size + m.size ≤ 140737488355328) :
    ∃ v' w', (Builtin.append_ A ty #[v, x2]).run P w = .ok v' w' ∧ ∃ G' : Gh, G'.box = G.box ∧ SimG C n { st with lv := st.gen :: dropId st.lv g, gen := st.gen + 1 } G' tmps w' ∧ Rep (enOf C G' (st.gen + 1) w') v' (.bf st.gen T (s ++ m)) := by
  have hlen : (bds (s ++ m)).length = s.size + m.size := by rw [bds_len, size_cat]
  have hmx : s.size + m.size ≤ maxLen := by simp only [maxLen]; omega
  have hlv : ∀ g' ∈ dropId st.lv g, g' ∈ st.lv ∧ g' ≠ g := fun g' hg' => dropId_mem hg'
  have newB : ∀ (cap : Nat) (arr : Array Value), OneC arr → arr.size = cap → s.size + m.size ≤ cap → cap ≤ maxLen → 0 < s.size + m.size → (∃ rest, arr.toList = Lib.strCells (s ++ m) ++ rest) →
      ∃ G' : Gh, G'.box = G.box ∧ SimG C n { st with lv := st.gen :: dropId st.lv g, gen := st.gen + 1 } G' tmps (w.drew.alloc (.cells arr T)) ∧
        Rep (enOf C G' (st.gen + 1) (w.drew.alloc (.cells arr T))) (.slice (some ⟨w.heap.size, 0, none⟩) (s.size + m.size) cap) (.bf st.gen T (s ++ m)) := by
    intro cap arr h1c h1 h2 h3 h4 ⟨rest, h5⟩
    have hb' : Below w.heap.size w (w.drew.alloc (.cells arr T)) := ((Below.refl _ w).drew).alloc (Nat.le_refl _) _
    have hblk : (w.drew.alloc (.cells arr T)).heap[w.heap.size]? = some (.cells arr T (0, 0)) := heap_alloc_new w.drew _
    obtain ⟨G', hG, hs', hr'⟩ := (h.newRow true hb' hblk (cap := cap) (sz := 1) (es := bds (s ++ m)) (by rw [h1, Nat.mul_one]) h1c (by rw [hlen]; exact h2) h3 Nat.one_pos (by rw [hlen]; exact h4) bds_one
      (bds_hr fun i c hc => by
        have := strCells_get hc
        rw [← Array.getElem?_toList, h5, List.getElem?_append_left (by rw [List.getElem?_eq_some_iff] at this; exact this.1)]
        exact this) (fun x => x = g) (dropId st.lv g) hlv).sim
    rw [hlen] at hr'
    exact ⟨G', hG, hs', xs_bf hr' (.inr ⟨_, _, _, arr, (0, 0), rfl, h4, hblk⟩)⟩
  cases r with
  | zero b => exact hx.elim
  | mp b => exact hx.elim
  | nil =>
    obtain ⟨rfl, hs0⟩ := hx
    have e0 : s ++ m = m := by
      have : s = ByteArray.empty := by
        apply ByteArray.ext
        exact Array.eq_empty_of_size_eq_zero hs0
      rw [this]; simp
    by_cases hm : m.size = 0
    · refine ⟨_, w, ha.emp hm, ?_⟩
      obtain ⟨G', hG, hs', hr'⟩ := (h.renameRow (m := true) hg (es := bds (s ++ m)) (v := .slice none 0 0) ⟨rfl, rfl, List.eq_nil_of_length_eq_zero (by rw [hlen]; omega)⟩ (dropId st.lv g) hlv).sim
      exact ⟨G', hG, hs', xs_bf hr' (.inl rfl)⟩
    · have hge := grownCap_ge w m.size 0 T
      have hcm := grownCap_le_maxLen w m.size 0 T (by omega)
      refine ⟨_, _, ha.new (by omega), ?_⟩
      have := newB (grownCap w m.size 0 T) ((Lib.strCells m).toArray ++ Builtin.zeroCells (Value.int .u8 0).cells (grownCap w m.size 0 T - m.size)) (by have := oneC_cat (l1 := []) (k := grownCap w m.size 0 T - m.size) (by simp) (strCells_one m) zero_one; exact OneC.mem fun u hu => this.of u (by simpa using hu)) (by
        have hz1 : (Value.int IntKind.u8 0).cells.size = 1 := rfl
        simp only [Array.size_append, List.size_toArray, size_zeroCells, hz1, Lib.strCells_length]
        omega) (by omega) hcm (by omega) ⟨_, by rw [e0]; simp; rfl⟩
      rw [show s.size + m.size = m.size by omega] at this
      exact this
  | blk b len cap sz pub =>
    obtain ⟨rfl, h2, rfl, rfl, ⟨cs, f, hT⟩, h6⟩ := hx
    obtain ⟨hmine, hnb, huniq, cur, T', hcur, hcs, hlc, hcm, _, hpos, _, hone⟩ := h.row g b len cap 1 0 hg
    rw [hcur] at hT
    simp only [Option.some.injEq, Obj.cells.injEq] at hT
    obtain ⟨rfl, rfl, rfl⟩ := hT
    subst h2
    have htk : cur.toList.take s.size = Lib.strCells s := by
      apply List.ext_getElem?
      intro t
      rw [List.getElem?_take]
      split
      · rename_i hlt
        have hc : s.data[t]? = some (s.data[t]'hlt) := Array.getElem?_eq_getElem hlt
        have h7 := h6 t _ hc
        rw [cellAt_row hcur] at h7
        rw [strCells_get hc]
        simpa using h7
      · rename_i hge
        rw [List.getElem?_eq_none (by rw [Lib.strCells_length]; omega)]
    by_cases hroom : s.size + m.size ≤ cap
    · have hfit : s.size + m.size ≤ cur.size := by omega
      refine ⟨_, _, ha.room b s.size cap cur hcur hroom hfit, ?_⟩
      obtain ⟨G', hG, hs', hr'⟩ := (h.growRow true (g := g) (b := b) (len := s.size) (cap := cap) (sz := 1) (arr := (cur.toList.take s.size ++ Lib.strCells m ++ cur.toList.drop (s.size + m.size)).toArray) (es := bds (s ++ m)) (by simpa [pubOf] using hg) hcur (by simp [Lib.strCells_length]; omega) (oneC_splice hone (strCells_one m)) (fun t ht => by simp [pubOf] at ht) (by omega) (by omega) bds_one
        (bds_hr fun i c hc => by
          have := strCells_get hc
          rw [List.getElem?_toArray, htk, ← strCells_cat, List.getElem?_append_left (by rw [List.getElem?_eq_some_iff] at this; exact this.1)]
          exact this) (dropId st.lv g) hlv).sim
      rw [hlen] at hr'
      exact ⟨G', hG, hs', xs_bf hr' (.inr ⟨b, _, _, _, (0, 0), rfl, by omega, setRow_heap w b cur _ _ (0, 0) hcur⟩)⟩
    · have hge := grownCap_ge w (s.size + m.size) cap T'
      have hcm' := grownCap_le_maxLen w (s.size + m.size) cap T' (by omega)
      refine ⟨_, _, ha.grow b s.size cap (Lib.strCells s) (Lib.strCells_length s) (fun j u hj => ?_) (by omega) hb, ?_⟩
      · have hj' : j < s.data.size := by have := (List.getElem?_eq_some_iff.1 hj).1; rw [Lib.strCells_length] at this; exact this
        have hc : s.data[j]? = some s.data[j] := by simp [hj']
        rw [strCells_get hc] at hj
        have h7 := h6 j _ hc
        rw [Option.some.inj hj] at h7
        unfold Addr.add
        split
        · rename_i e; subst e; simpa [cellAt] using h7
        · simpa [cellAt] using h7
      · exact newB (grownCap w (s.size + m.size) cap T') _ (by have := oneC_cat (k := grownCap w (s.size + m.size) cap T' - (s.size + m.size)) (strCells_one s) (strCells_one m) zero_one; exact OneC.mem fun u hu => this.of u (by simpa using hu)) (by
          have hz1 : (Value.int IntKind.u8 0).cells.size = 1 := rfl
          simp only [Array.size_append, List.size_toArray, size_zeroCells, hz1, Lib.strCells_length]
          omega) (by omega) hcm' (by omega) ⟨_, by rw [strCells_cat]; simp [List.append_assoc]; rfl⟩
end
end Go.Ab
namespace Go.Ab
open Go.RowKit
section
variable {P : Program} (T : Tab P) {C : Ctx} {n : Nat} {ops : Array Oper} {Q : Exit → St → Prop} {rest : List Oper}
variable {f : List (Nat × A)} {bx : List (Nat × List A)} {lv : List Nat} {gen : Nat} {d : Nat} {ty : TypeId} {pos : String} {af : Array Edge} {dst : Option Nat}
theorem exec_app {o : Oper} {act : Act} {x y : Operand} {t u : Nat} (ho : o.op = .call ⟨.builtin .append, #[x, y], #[t, u]⟩) {w w' : World} {v' : Value}
    (h : (Builtin.append_ #[t, u] o.type #[act.eval x, act.eval y]).run P w = .ok v' w') : (execOp act.eval o).run P w = .ok (.value v') w' := by
  unfold execOp
  rw [ho]
  show Sem.run P (do let d ← resolve act.eval ⟨.builtin .append, #[x, y], #[t, u]⟩ o.type; invoke d.target d.args) w = _
  simp only [resolve, invoke, builtin, Sem.run_bind, Sem.run_pure, Result.andThen_ok, List.map_toArray, List.map_cons, List.map_nil, h]
def byteT (d : TyD) : Bool := (Nat.beq d.n 1 && Nat.beq d.b 1 && vsEq d.z [.int .u8 0]) && (match d.k with | .int _ => true | _ => false)
theorem Tab.byte {e : Nat} {d : TyD} (h : look' T.l e = some d) (hb : byteT d = true) : ∃ i, P.info? e = some i ∧ i.zero = some (.int .u8 0) ∧ i.size = 1 ∧ i.bytes = 1 := by
  simp only [byteT, Bool.and_eq_true] at hb
  obtain ⟨i, z, hi, h1, h2, hz, hzc, _, _, hk⟩ := T.info h
  have e1 := Nat.eq_of_beq_eq_true hb.1.1.1
  have e2 := Nat.eq_of_beq_eq_true hb.1.1.2
  have e3 := vsEq_eq hb.1.2
  have e4 := hb.2
  refine ⟨i, hi, ?_, by omega, by omega⟩
  rw [hz]
  rw [e3] at hzc
  cases hkd : d.k <;> rw [hkd] at e4 hk <;> first | (cases e4; done) | skip
  cases z <;> simp_all [Value.cells]
theorem appendStrB {x y : Operand} {t u e : Nat} {td ud ed : TyD} {g : Nat} {s m : ByteArray} (hx : av f x = some (.bf g e s)) (hy : av f y = some (.d (.v (.string m)))) (ht : look' T.l t = some td) (hk : td.k = .slice e) (hu : look' T.l u = some ud) (huk : ud.k = .str) (he : look' T.l e = some ed) (heb : byteT ed = true)
    (hgl : (lv.any fun h => Nat.beq h g) = true) (hd : Nat.blt d n = true) (hb : s.size + m.size ≤ 140737488355328) {r : ByteArray} (hr : s ++ m = r) {lv' : List Nat} (hlv : gen :: dropId lv g = lv')
    (h : WO P C n ops Q rest ⟨(d, .bf gen e r) :: f, bx, lv', gen + 1⟩) : WO P C n ops Q (⟨some d, .call ⟨.builtin .append, #[x, y], #[t, u]⟩, ty, pos, af, none⟩ :: rest) ⟨f, bx, lv, gen⟩ := by
  subst hr; subst hlv
  refine WO.step (st := ⟨f, bx, lv, gen⟩) rfl fun tmps w ⟨G, hs⟩ => ?_
  have hr := hs.av hx
  have hr2 := hs.av hy
  obtain ⟨r, hgr⟩ := hs.live g (memAny hgl)
  generalize hv : Act.eval ⟨tmps, []⟩ x = v at hr
  generalize hv2 : Act.eval ⟨tmps, []⟩ y = v2 at hr2
  cases hr with
  | bf _ _ _ _ hgg h1 hrow =>
  cases hr2 with | d hr2 => cases hr2 with | v _ _ =>
  obtain ⟨i, hi, hz, hs1, hb1⟩ := T.byte he heb
  have hus : P.underlying u = some .string := T.u_str hu huk
  obtain ⟨v', w', hrun, G', _, hs', hv'⟩ := bytes_core (ty := ty) hs hgr h1 (hrow r hgr) (AppB.string (P := P) (w := w) (ty := ty) (T.u_slice ht hk) hus hi hz hs1 hb1 (m := m) (by omega)) hb
  rw [← hv, ← hv2] at hrun
  exact gives_value (exec_app rfl hrun) ⟨_, ⟨G', hs'.put (dst := some d) (dstOK_lt (dst := some d) hd) hv'⟩, h⟩
theorem allocB (k : Nat) {e : TypeId} {ed : TyD} (he : look' T.l e = some ed) (hz : vsEq ed.z [.pointer none, .slice none 0 0] = true) (hd : Nat.blt d n = true)
    (h : WO P C n ops Q rest ⟨(d, .ptr gen 0) :: f, (gen, [.np gen e false, .bf (gen + 1) k .empty]) :: bx, (gen + 1) :: lv, gen + 2⟩) : WO P C n ops Q (⟨some d, .alloc e, ty, pos, af, none⟩ :: rest) ⟨f, bx, lv, gen⟩ := by
  refine WO.step (st := ⟨f, bx, lv, gen⟩) rfl fun tmps w ⟨G, hs⟩ => ?_
  obtain ⟨i, z, hi, _, _, hzz, hzc, _, _, _⟩ := T.info he
  rw [vsEq_eq hz] at hzc
  have hza : z.cells = #[.pointer none, .slice none 0 0] := by apply Array.ext'; simpa using hzc
  obtain ⟨G1, hle, hs1, hr1⟩ := hs.mkBox z.cells e [.any, .any] (by rw [hza]; rfl) (fun i u hu => by
    rw [hza] at hu
    match i with
    | 0 => simp at hu; subst hu; rfl
    | 1 => simp at hu; subst hu; rfl
    | i + 2 => simp at hu) (fun i u a hu ha => by
    match i with
    | 0 => simp at ha; subst ha; exact .any _
    | 1 => simp at ha; subst ha; exact .any _
    | i + 2 => simp at ha)
  have hnew : (w.alloc (.cells z.cells e)).heap[w.heap.size]? = some (.cells z.cells e (0, 0)) := heap_alloc_new w _
  have hbx : G1.box gen = some w.heap.size := by
    cases hr1 with
    | ptr _ _ _ b hg hb hx =>
      simp only [Value.pointer.injEq, Option.some.injEq, Addr.mk.injEq, and_true] at hx
      rw [hx]; exact hb
  obtain ⟨G2, hG2, hs2, hr2⟩ := (hs1.nameNil true (gen :: lv |>.tail) (fun _ h => h)).sim
  have hbx2 : G2.box gen = some w.heap.size := by rw [hG2]; exact hbx
  have hbf := xs_bf (T := k) (s := .empty) (g := gen + 1) hr2 (.inl rfl)
  have hs3 := SimG.boxCell (i := 1) (a' := .bf (gen + 1) k .empty) hs2 hs2 rfl rfl (cells := [.any, .any]) (g0 := gen) (by simp [look']) (v := .slice none 0 0) (fun b cs T' hb hh => by
    rw [hbx2] at hb; cases hb
    rw [hnew] at hh
    simp only [Option.some.injEq, Obj.cells.injEq] at hh
    rw [← hh.1, hza]; rfl) (fun _ _ => rfl) hbf
  have hs4 := SimG.boxCell (i := 0) (a' := .np gen e false) hs3 hs3 rfl rfl (cells := [.any, .bf (gen + 1) k .empty]) (g0 := gen) (by simp [look']) (v := .pointer none) (fun b cs T' hb hh => by
    rw [hbx2] at hb; cases hb
    rw [hnew] at hh
    simp only [Option.some.injEq, Obj.cells.injEq] at hh
    rw [← hh.1, hza]; rfl) (fun _ _ => rfl) (.np _ gen e w.heap.size (by simp [enOf]; omega) hbx2 ⟨_, _, hnew⟩ false rfl)
  have hs5 : SimG C n ⟨f, (gen, [.np gen e false, .bf (gen + 1) k .empty]) :: bx, (gen + 1) :: lv, gen + 2⟩ G2 tmps (w.alloc (.cells z.cells e)) := by
    refine { hs4 with box := fun g' c hc => ?_ }
    refine hs4.box g' c ?_
    simp only [look'_cons] at hc ⊢
    split
    · rename_i e1; rw [if_pos e1] at hc; exact hc
    · rename_i e1; rw [if_neg e1] at hc; exact hc
  refine gives_value (v := .pointer (some ⟨w.heap.size, 0, none⟩)) (w' := w.alloc (.cells z.cells e)) ?_ ⟨_, ⟨G2, hs5.put (dst := some d) (dstOK_lt (dst := some d) hd) (.ptr _ gen 0 w.heap.size (by simp [enOf]) hbx2 rfl)⟩, h⟩
  unfold execOp
  show Sem.run P _ w = _
  simp only [Instr.alloc, zeroValue, typeInfo, hi, hzz, newVar, newRow, Sem.run_bind, run_program, run_newObj, Result.andThen_ok, Sem.run_pure]
  rfl
end
structure CopyChecks (P : Program) (e : TypeId) (f : FuncId) : Prop where
  used : ∀ (b : Nat) (w : World), w.cell? ⟨b, 0, none⟩ = some (.pointer (some ⟨b, 0, none⟩)) → Calls P f #[.pointer (some ⟨b, 0, none⟩)] w fun e w' => e = .returned (.tuple #[]) ∧ w' = w
  fresh : ∀ (b : Nat) (w : World), w.cell? ⟨b, 0, none⟩ = some (.pointer none) → w.shape? b = some (e, 2) → w.frozen? ⟨b, 0, none⟩ = false →
    Calls P f #[.pointer (some ⟨b, 0, none⟩)] w fun e w' => e = .returned (.tuple #[]) ∧ w' = w.setCell ⟨b, 0, none⟩ (.pointer (some ⟨b, 0, none⟩))
theorem setCell_row {w : World} {b o : Nat} {cs : Array Value} {T : TypeId} {fr : Nat × Nat} (h : w.heap[b]? = some (.cells cs T fr)) (v : Value) : w.setCell ⟨b, o, none⟩ v = w.setRow b (cs.setIfInBounds o v) := by
  have hlt := (Array.getElem?_eq_some_iff.1 h).1
  have e : w.heap.modify b (fun | .cells c elem frozen => Obj.cells (c.setIfInBounds o v) elem frozen | o => o) = w.heap.modify b (fun | .cells _ elem frozen => Obj.cells (cs.setIfInBounds o v) elem frozen | o => o) := by
    apply Array.ext_getElem?
    intro k
    simp only [Array.getElem?_modify]
    by_cases hk : b = k
    · subst hk; simp only [if_pos rfl, h, Option.map_some]
    · simp only [if_neg hk]
  exact congrArg (fun h => ({ w with heap := h } : World)) e
theorem CopyChecks.does {P : Program} [Met P] {e : TypeId} {f : FuncId} (hok : FnOK P f) (h : CopyChecks P e f) (u : Bool) (a : A) (m : Nat) : DoesB P f [.ptr 0 0] [[.np 0 e u, a]] m (.tup []) [[.np 0 e true, a]] m := by
  refine ⟨hok, rfl, fun C G vals w hG hw hnb _ _ hs hsz hrep => ?_⟩
  obtain ⟨b, cs, T', h1, h2, h3, h4, h5⟩ := hs.box 0 [.np 0 e u, a] (by simp [bxs, look'])
  have hv : vals = #[.pointer (some ⟨b, 0, none⟩)] := by
    apply Array.ext_getElem?
    intro i
    match i with
    | 0 =>
      have h0 : vals[0]? = some (vals[0]'(by simp at hsz; omega)) := by simp at hsz; simp [hsz]
      have := hrep 0 _ _ h0 rfl
      rw [h0]
      generalize vals[0]'(by simp at hsz; omega) = z at this
      cases this with
      | ptr _ _ _ b0 hg hb hx =>
        have e1 : b0 = b := by have := (hb : G.box 0 = some b0).symm.trans h1; simpa using this
        subst e1; rw [hx]; rfl
    | i + 1 => simp at hsz; simp [hsz]
  have hc0 : cs[0]? = some (cs[0]'(by simp at h3; omega)) := by simp at h3; simp [h3]
  have hr0 := h5 0 _ _ hc0 rfl
  have hcell : w.cell? ⟨b, 0, none⟩ = some (cs[0]'(by simp at h3; omega)) := by
    have := cellAt_row h2 0
    rw [hc0] at this
    exact this
  have hrt : Rep (enOf C G (1 + m) w) (.pointer (some ⟨b, 0, none⟩)) (.np 0 e true) ∧ ((u = true ∧ cs[0]'(by simp at h3; omega) = .pointer (some ⟨b, 0, none⟩)) ∨ (u = false ∧ cs[0]'(by simp at h3; omega) = .pointer none ∧ T' = e)) := by
    generalize cs[0]'(by simp at h3; omega) = z at hr0
    cases hr0 with
    | np _ _ _ b0 hg hb hT _ hx =>
      have e1 : b0 = b := by have := (hb : G.box 0 = some b0).symm.trans h1; simpa using this
      subst e1
      refine ⟨.np _ 0 e b0 hg hb hT true rfl, ?_⟩
      obtain ⟨cs', f', hT⟩ := hT
      have hT' : w.heap[b0]? = some (.cells cs' e f') := hT
      rw [h2] at hT'
      simp only [Option.some.injEq, Obj.cells.injEq] at hT'
      cases u with
      | true => exact .inl ⟨rfl, hx⟩
      | false => exact .inr ⟨rfl, hx, hT'.2.1⟩
  obtain ⟨hnp, hcase⟩ := hrt
  subst hv
  rcases hcase with ⟨rfl, hz⟩ | ⟨rfl, hz, rfl⟩
  · rw [hz] at hcell
    refine (h.used b w hcell).mono ?_
    rintro e' w' ⟨rfl, rfl⟩
    exact ⟨_, G, rfl, hs, .tup #[] [] rfl (by simp)⟩
  · rw [hz] at hcell
    refine (h.fresh b w hcell (by simp only [World.shape?, h2]; simp at h3; rw [h3]) (by simp [World.frozen?, h2])).mono ?_
    rintro e' w' ⟨rfl, rfl⟩
    rw [setCell_row h2]
    have hst := hs.store (g := 0) (b := b) (cs := cs) (cs' := cs.setIfInBounds 0 (.pointer (some ⟨b, 0, none⟩))) (T := T') (cells := [.np 0 T' false, a]) (cells' := [.np 0 T' true, a]) (by simp [bxs, look']) h1 h2 ⟨by simpa using h3, fun i u hu => by
      rw [Array.getElem?_setIfInBounds] at hu
      split at hu
      · split at hu
        · simp only [Option.some.injEq] at hu; subst hu; rfl
        · cases hu
      · exact h4 i u hu, fun i u y hu hy => by
      rw [Array.getElem?_setIfInBounds] at hu
      match i with
      | 0 =>
        simp at hy; subst hy
        simp at h3
        simp [h3] at hu
        subst hu
        exact hnp
      | 1 =>
        simp at hy; subst hy
        simp at hu
        exact h5 1 u _ hu rfl
      | i + 2 => simp at hy⟩
    refine ⟨_, G, rfl, ?_, .tup #[] [] rfl (by simp)⟩
    refine { hst with box := fun g' c hc => ?_ }
    refine hst.box g' c ?_
    simp only [bxs, look'_cons] at hc ⊢
    split
    · rename_i e1; rw [if_pos e1] at hc; exact hc
    · rename_i e1; rw [if_neg e1] at hc; simp [look'] at hc
def scal : A → A
  | .d (.v x) => .d (.v x)
  | _ => .any
def scalF (f : List (Nat × A)) : List (Nat × A) := f.map fun p => (p.1, scal p.2)
theorem scalF_look : ∀ (f : List (Nat × A)) (t : Nat), look (scalF f) t = (look f t).map scal
  | [], t => rfl
  | (s, a) :: r, t => by
    simp only [scalF, List.map_cons]
    rw [look_cons, look_cons]
    split
    · rfl
    · exact scalF_look r t
theorem SimG.end_ {C : Ctx} [hN : NB C 0] {n : Nat} {st : St} {G : Gh} {tmps : Array Value} {w w' : World} (h : SimG C n st G tmps w) (hb : Below C.w0.heap.size w w') (hsz : w.heap.size ≤ w'.heap.size) : SimG C n ⟨scalF st.f, [], [], st.gen⟩ G0 tmps w' where
  size := h.size
  frame := fun t a ha => by
    rw [scalF_look] at ha
    obtain ⟨a', ha', rfl⟩ := Option.map_eq_some_iff.1 ha
    obtain ⟨v, hv, hr⟩ := h.frame t a' ha'
    refine ⟨v, hv, ?_⟩
    unfold scal
    split
    · cases hr with | d hr => cases hr with | v _ hx => exact .d (.v _ hx)
    · exact .any _
  box := fun g cells hc => by simp [look'] at hc
  gbox := fun g b hb => by simp [G0] at hb
  inj := fun g g' b hb => by simp [G0] at hb
  live := fun g hg => by simp at hg
  gown := fun g r hr => by simp [G0] at hr
  row := fun g b len cap sz pub hr => by simp [G0] at hr
  mrow := fun g b hr => by simp [G0] at hr
  xold := h.xold
  kold := h.kold
  lent := fun i b hb => by have := hN.h; rw [List.length_eq_zero_iff.1 this] at hb; simp at hb
  fr := ⟨hb.os.trans h.fr.os, hb.tape.trans h.fr.tape, hb.output.trans h.fr.output, Nat.le_trans h.fr.size hsz, fun b h1 h2 => (hb.block b h1).trans (h.fr.block b h1 h2), fun b o u h1 h2 => by
    have hlt := cellAt_lt h2
    rw [cellAt_same (hb.block b hlt)]; exact h.fr.cells b o u h1 h2, fun b cs T f h1 => by
    have hlt := (Array.getElem?_eq_some_iff.1 h1).1
    rw [hb.block b hlt]; exact h.fr.ty b cs T f h1⟩
def StrGives (P : Program) (T e : TypeId) (f : FuncId) : Prop :=
  ∀ (B b : Nat) (l : List UInt8) (w : World), Lib.IsBuilder T e B b (Lib.byteCells l) w → B ≤ w.heap.size → Calls P f #[.pointer (some ⟨b, 0, none⟩)] w fun q w' => q = .returned (.string ⟨l.toArray⟩) ∧ Below B w w'
section
variable {P : Program} {C : Ctx} {n : Nat} {ops : Array Oper} {Q : Exit → St → Prop} {rest : List Oper}
variable {f : List (Nat × A)} {bx : List (Nat × List A)} {lv : List Nat} {gen : Nat} {d : Nat} {ty : TypeId} {pos : String} {af : Array Edge}
theorem strEnd [NB C 0] (hfp : ∀ b, ¬ C.fp b) {x y : Operand} {tys : Array TypeId} {fid : FuncId} {g g2 : Nat} {T e : TypeId} {u : Bool} {s : ByteArray} (hx : av f x = some (.clo fid [])) (hy : av f y = some (.ptr g 0)) (hb : look' bx g = some [.np g T u, .bf g2 e s])
    (hgl : (lv.any fun h => Nat.beq h g2) = true) (hok : FnOK P fid) (hstr : StrGives P T e fid) (hss : s.size ≤ maxLen) (hd : Nat.blt d n = true)
    (h : WO P C n ops Q rest ⟨(d, .d (.v (.string s))) :: scalF f, [], [], gen⟩) : WO P C n ops Q (⟨some d, .call ⟨.value x, #[y], tys⟩, ty, pos, af, none⟩ :: rest) ⟨f, bx, lv, gen⟩ := by
  refine WO.step (st := ⟨f, bx, lv, gen⟩) rfl fun tmps w ⟨G, hs⟩ => ?_
  obtain ⟨fn, hfn, hname, hbody⟩ := hok
  have hrx := hs.av hx
  generalize hv : Act.eval ⟨tmps, []⟩ x = v at hrx
  cases hrx with
  | clo _ vs _ hsz hdd =>
  have hvs : vs = #[] := Array.eq_empty_of_size_eq_zero (by simpa using hsz)
  subst hvs
  have hry := hs.av hy
  generalize hvy : Act.eval ⟨tmps, []⟩ y = vy at hry
  obtain ⟨b, cs, T', h1, h2, h3, h4, h5⟩ := hs.box g _ hb
  have evy : vy = .pointer (some ⟨b, 0, none⟩) := by
    cases hry with
    | ptr _ _ _ b0 hg hb0 hx0 => exact ptr_at hb0 hx0 b h1
  subst evy
  have hrun : (execOp (Act.eval ⟨tmps, []⟩) ⟨some d, .call ⟨.value x, #[y], tys⟩, ty, pos, af, none⟩).run P w = .ok (.enter fid #[.pointer (some ⟨b, 0, none⟩)]) w := by
    unfold execOp
    show Sem.run P (do let d ← resolve (Act.eval ⟨tmps, []⟩) ⟨.value x, #[y], tys⟩ ty; invoke d.target d.args) w = _
    simp only [resolve, hv, hvy, Deferred.ofValue, Sem.run_bind, Sem.run_pure, Result.andThen_ok, invoke, callFunc, run_program, hfn, hname, hbody, Bool.false_eq_true, if_false, Array.empty_append, Array.append_empty, List.map_toArray, List.map_cons, List.map_nil]
  simp at h3
  obtain ⟨p, q, hcs⟩ : ∃ p q, cs = #[p, q] := ⟨cs[0], cs[1], by apply Array.ext_getElem?; intro i; match i with | 0 => simp [h3] | 1 => simp [h3] | i + 2 => simp [h3]⟩
  subst hcs
  have hp := h5 0 p _ rfl rfl
  have hq := h5 1 q _ rfl rfl
  obtain ⟨r, hgr⟩ := hs.live g2 (memAny hgl)
  have mine : ∀ {b lim}, C.mine b lim → C.w0.heap.size ≤ b := fun hm => hm.1.resolve_right (hfp _)
  have hpe : T' = T ∧ (p = .pointer none ∨ p = .pointer (some ⟨b, 0, none⟩)) := by
    cases hp with
    | np _ _ _ b0 hg hb0 hT _ hx0 =>
      have e1 : b0 = b := by have := (hb0 : G.box g = some b0).symm.trans h1; simpa using this
      subst e1
      obtain ⟨cs', f', hT⟩ := hT
      have hT' : w.heap[b0]? = some (.cells cs' T f') := hT
      rw [h2] at hT'
      simp only [Option.some.injEq, Obj.cells.injEq] at hT'
      refine ⟨hT'.2.1, ?_⟩
      cases u with
      | true => exact .inr hx0
      | false => exact .inl hx0
  obtain ⟨rfl, hpe⟩ := hpe
  have hown : w.ownsRow C.w0.heap.size e 1 q (Lib.byteCells s.data.toList).length (Lib.byteCells s.data.toList) ∧ q.ownBlock ≠ some b := by
    cases hq with
    | bf _ _ _ _ hg hq1 hrow =>
    have hx0 := hrow r hgr
    cases r with
    | zero b => exact hx0.elim
    | mp b => exact hx0.elim
    | nil =>
      obtain ⟨rfl, h0⟩ := hx0
      have e0 : s.data.toList = [] := List.eq_nil_of_length_eq_zero (by simpa using h0)
      rw [e0]
      exact ⟨World.ownsRow_nil w _ e 1, by simp [Value.ownBlock]⟩
    | blk b2 len cap sz pub =>
      obtain ⟨rfl, h6, rfl, rfl, ⟨cs', f', hT⟩, h8⟩ := hx0
      obtain ⟨hmine, hnb, huniq, cur, T2, hcur, hcs, hlc, hcm, _, hpos, _⟩ := hs.row g2 b2 len cap 1 0 hgr
      have hT' : w.heap[b2]? = some (.cells cs' e f') := hT
      rw [hcur] at hT'
      simp only [Option.some.injEq, Obj.cells.injEq] at hT'
      obtain ⟨_, rfl, _⟩ := hT'
      have hlen : (Lib.byteCells s.data.toList).length = len := by rw [Lib.byteCells_length, Array.length_toList]; exact h6
      rw [hlen]
      refine ⟨⟨by simpa using hlen, .inr ⟨b2, cap, cur, rfl, mine hmine, hcur, hlc, hcm, hcs, ?_⟩⟩, ?_⟩
      · rw [Nat.mul_one]
        apply List.ext_getElem?
        intro t
        rw [List.getElem?_take]
        have es : (Lib.byteCells s.data.toList) = Lib.strCells s := (Lib.strCells_eq s).symm
        split
        · rename_i hlt
          have hc : s.data[t]? = some (s.data[t]'(by rw [← h6] at hlt; exact hlt)) := Array.getElem?_eq_getElem _
          have h7 := h8 t _ hc
          have h7' : cur[t]? = _ := (cellAt_row hcur t).symm.trans h7
          rw [es, strCells_get hc, Array.getElem?_toList, h7']
        · rename_i hge
          rw [List.getElem?_eq_none (by rw [hlen]; omega)]
      · simp only [Value.ownBlock]
        intro e1
        simp only [Option.some.injEq] at e1
        exact hnb g (e1 ▸ h1)
  have hbat : ∀ p, p = Value.pointer none ∨ p = .pointer (some ⟨b, 0, none⟩) → w.heap[b]? = some (.cells #[p, q] T' (0, 0)) → Lib.IsBuilder T' e C.w0.heap.size b (Lib.byteCells s.data.toList) w := by
    rintro p (rfl | rfl) hh
    · exact .inl ⟨mine (hs.gbox g b h1).2.2, q, hh, hown.1, hown.2⟩
    · exact .inr ⟨mine (hs.gbox g b h1).2.2, q, hh, hown.1, hown.2⟩
  unfold Gives
  have hrun' : (execOp (Act.eval { tmps := tmps, defers := [] }) ⟨some d, .call ⟨.value x, #[y], tys⟩, ty, pos, af, none⟩).run P w = .ok (.enter fid #[.pointer (some ⟨b, 0, none⟩)]) w := hrun
  rw [hrun']
  refine (hstr C.w0.heap.size b s.data.toList w (hbat p hpe h2) hs.fr.size).mono ?_
  rintro e' w' ⟨rfl, hbel⟩
  refine ⟨_, rfl, ⟨(d, .d (.v (.string s))) :: scalF f, [], [], gen⟩, ⟨G0, ?_⟩, h⟩
  have := (hs.end_ hbel hbel.size).put (dst := some d) (dstOK_lt (dst := some d) hd) (v := .string ⟨s.data.toList.toArray⟩) (a := .d (.v (.string s))) (.d (by
    have : (⟨s.data.toList.toArray⟩ : ByteArray) = s := by apply ByteArray.ext; simp
    rw [this]; exact .v _ (by simp [okc, hss])))
  exact this
end
end Go.Ab
namespace Go.Ab
theorem DoesH.does {P : Program} [Met P] {H : Ctx → Prop} {f : FuncId} {args : List A} {r : A} {k : Nat} (h : DoesH P H f args r k) (hH : ∀ C, H C) : Does P f args r k :=
  ⟨h.ok, fun C vals w hG hw hp hx hsz hr => h.calls C vals w hG hw hp (hH C) hx hsz hr⟩
end Go.Ab
namespace Go.Ab
section
variable {P : Program} {C : Ctx} {n : Nat} {c : Code} {Q : Exit → St → Prop} {f : List (Nat × A)} {bx : List (Nat × List A)} {lv : List Nat} {gen : Nat}
end
end Go.Ab
namespace Go.Tb
open Go.Ab
section
variable {P : Program} {T : Tab P} {l : List D} {te ti ts tsl o1 o2 o3 o4 : Nat} {n1 n2 n3 n4 : String}
theorem conf_smp (h : Conf T te l) (he : kdAt T te = .st [(o1, ti, n1), (o2, ti, n2), (o3, ti, n3), (o4, tsl, n4)]) (hi : kdAt T ti = .int .i64) (hs : kdAt T ts = .str) (hl : kdAt T tsl = .slice ts) : ∃ x : Smp, l = x.c := by
  obtain ⟨p, q, r, s, rfl, h1, h2, h3, h4⟩ := conf_st4 h he
  obtain ⟨a, rfl⟩ := conf_int h1 hi
  obtain ⟨b, rfl⟩ := conf_int h2 hi
  obtain ⟨c, rfl⟩ := conf_int h3 hi
  obtain ⟨f, rfl⟩ := conf_sl (f := sc) h4 hl (fun x hx => conf_str hx hs)
  exact ⟨⟨a, b, c, f⟩, rfl⟩
end
end Go.Tb
namespace Go.Tb
open Go.Ab
theorem tot_app (a b : List Smp) (k : ByteArray) : tot (a ++ b) k = tot a k + tot b k := by
  unfold tot
  rw [List.filter_append, List.map_append, sum_app]
theorem tot_nil (k : ByteArray) : tot [] k = 0 := rfl
theorem tot_rev : ∀ (l : List Smp) (k : ByteArray), tot l.reverse k = tot l k
  | [], _ => rfl
  | x :: l, k => by
    rw [List.reverse_cons, tot_app, tot_rev l k, tot_cons l x, tot_cons [] x, tot_nil]
    omega
theorem has_app {a b : List Smp} {k : ByteArray} : has (a ++ b) k ↔ has a k ∨ has b k := by
  unfold has
  constructor
  · rintro ⟨y, hy, e⟩
    rcases List.mem_append.1 hy with hy | hy
    · exact .inl ⟨y, hy, e⟩
    · exact .inr ⟨y, hy, e⟩
  · rintro (⟨y, hy, e⟩ | ⟨y, hy, e⟩)
    · exact ⟨y, List.mem_append_left _ hy, e⟩
    · exact ⟨y, List.mem_append_right _ hy, e⟩
theorem has_rev {a : List Smp} {k : ByteArray} : has a.reverse k ↔ has a k := by
  unfold has
  constructor
  · rintro ⟨y, hy, e⟩; exact ⟨y, List.mem_reverse.1 hy, e⟩
  · rintro ⟨y, hy, e⟩; exact ⟨y, List.mem_reverse.2 hy, e⟩
theorem ok_app {a b : List Smp} : OkL (a ++ b) ↔ OkL a ∧ OkL b :=
  ⟨fun h => ⟨fun x hx => h x (List.mem_append_left _ hx), fun x hx => h x (List.mem_append_right _ hx)⟩, fun h x hx => (List.mem_append.1 hx).elim (h.1 x) (h.2 x)⟩
theorem ok_rev {a : List Smp} : OkL a.reverse ↔ OkL a :=
  ⟨fun h x hx => h x (List.mem_reverse.2 hx), fun h x hx => h x (List.mem_reverse.1 hx)⟩
def otherF (l : List Smp) (i : Nat) (tl : List Smp) : List Smp := (l.drop (i + 1)).reverse ++ l.take i ++ tl
theorem print_err {l : List Smp} (h : ¬ OkL l) : (printF l).2 ≠ 0 := by
  have hb : badL l ≠ 0 := fun e => h (okL_iff.1 e)
  unfold printF
  rw [if_neg hb]
  exact hb
theorem order_law {l : List Smp} {i : Nat} {x : Smp} (hx : l[i]? = some x) {tl : List Smp} (h1 : ∀ k, tot tl k = tot [x] k) (h2 : ∀ k, has tl k ↔ has [x] k) (h3 : OkL tl ↔ OkL [x]) : ((printF l).2 ≠ 0 ∧ (printF (otherF l i tl)).2 ≠ 0) ∨ printF l = printF (otherF l i tl) := by
  have hlt : i < l.length := (List.getElem?_eq_some_iff.1 hx).1
  have hd : l.drop i = x :: l.drop (i + 1) := by rw [List.drop_eq_getElem_cons hlt, (List.getElem?_eq_some_iff.1 hx).2]
  have hl : l = l.take i ++ ([x] ++ l.drop (i + 1)) := by rw [List.singleton_append, ← hd, List.take_append_drop]
  have hok : OkL l ↔ OkL (otherF l i tl) := by
    unfold otherF
    rw [ok_app, ok_app, ok_rev, h3]
    conv => lhs; rw [hl]
    rw [ok_app, ok_app]
    exact ⟨fun ⟨a, b, c⟩ => ⟨⟨c, a⟩, b⟩, fun ⟨⟨c, a⟩, b⟩ => ⟨a, b, c⟩⟩
  by_cases q : OkL l
  · refine .inr (print_same q (hok.1 q) (fun k => ?_) (fun k => ?_))
    · unfold otherF
      rw [tot_app, tot_app, tot_rev, h1]
      conv => lhs; rw [hl]
      rw [tot_app, tot_app]
      omega
    · unfold otherF
      rw [has_app, has_app, has_rev, h2]
      conv => lhs; rw [hl]
      rw [has_app, has_app]
      exact ⟨fun h => h.elim (fun a => .inl (.inr a)) (fun h => h.elim .inr (fun c => .inl (.inl c))), fun h => h.elim (fun h => h.elim (fun c => .inr (.inr c)) .inl) (fun b => .inr (.inl b))⟩
  · exact .inl ⟨print_err q, print_err fun h => q (hok.2 h)⟩
theorem order_one {l : List Smp} {i : Nat} {x : Smp} (hx : l[i]? = some x) : ((printF l).2 ≠ 0 ∧ (printF (otherF l i [x])).2 ≠ 0) ∨ printF l = printF (otherF l i [x]) :=
  order_law hx (fun _ => rfl) (fun _ => Iff.rfl) Iff.rfl
theorem order_two {l : List Smp} {i : Nat} {x : Smp} (hx : l[i]? = some x) {p : Int} (h1 : 1 ≤ p) (h2 : p < x.weight) (h3 : x.weight ≤ 1000000000000) :
    ((printF l).2 ≠ 0 ∧ (printF (otherF l i [⟨x.thread, x.tm, p, x.stack⟩, ⟨x.thread, x.tm, x.weight - p, x.stack⟩])).2 ≠ 0) ∨ printF l = printF (otherF l i [⟨x.thread, x.tm, p, x.stack⟩, ⟨x.thread, x.tm, x.weight - p, x.stack⟩]) := by
  have e : ∀ w : Int, keyS ⟨x.thread, x.tm, w, x.stack⟩ = keyS x := fun _ => rfl
  refine order_law hx (fun k => ?_) (fun k => ?_) ⟨fun h y hy => ?_, fun h y hy => ?_⟩
  · rw [tot_cons, tot_cons, tot_cons, tot_nil]
    simp only [e]
    by_cases q : keyS x = k
    · rw [if_pos q, if_pos q, if_pos q]
      show p + (x.weight - p + 0) = x.weight + 0
      omega
    · rw [if_neg q, if_neg q, if_neg q]
      rfl
  · constructor
    · rintro ⟨y, hy, q⟩
      simp only [List.mem_cons, List.not_mem_nil, or_false] at hy
      rcases hy with rfl | rfl
      · exact ⟨x, by simp, q⟩
      · exact ⟨x, by simp, q⟩
    · rintro ⟨y, hy, q⟩
      rw [List.mem_singleton.1 hy] at q
      exact ⟨_, List.mem_cons_self, q⟩
  · rw [List.mem_singleton.1 hy]
    have h0 := h _ List.mem_cons_self
    exact ⟨h0.ne, by omega, h3, h0.fr⟩
  · have h0 := h x (by simp)
    simp only [List.mem_cons, List.not_mem_nil, or_false] at hy
    rcases hy with rfl | rfl
    · exact ⟨h0.ne, h1, by show p ≤ _; omega, h0.fr⟩
    · exact ⟨h0.ne, by show 1 ≤ x.weight - p; omega, by show x.weight - p ≤ _; omega, h0.fr⟩
end Go.Tb
