import Derived.Test.YtjenenllmjlimaaQ2
import Derived.Laws.MakeOwn
namespace Go.Ab
open Go.RowKit
structure gE where
  bxF : Nat → List (Nat × List A)
  bxT : Nat → List (Nat × List A)
  lv : Nat → List Nat
  gen : Nat → Nat
  ord : Nat → List Nat
  g0 : Nat
  z : List A
  cs : List Nat
  al : Nat
def gE.bx (S : gE) (k : Nat) (b : Bool) : List (Nat × List A) := bif b then S.bxT k else S.bxF k
abbrev vQ (gS : List (List (Nat × List A))) (lvs : List (List Nat)) (gens : List Nat) (cs : List Nat) (al : Nat) : gE := ⟨fun _ => [], fun k => gS.getD k [], fun k => lvs.getD k [], fun k => gens.getD k 0, fun _ => [], 0, [], cs, al⟩
def fk (S : gE) (ops : Array Oper) (i k : Nat) (b : Bool) : Bool :=
  ((List.range S.cs.length).all fun j => bif Nat.blt j k then !cc .any ops ops.size (S.cs.getD j 0) i else !cc .any ops ops.size i (S.cs.getD j 0)) &&
  (bif b then !cc .any ops ops.size S.al i else (Nat.blt S.al ops.size && !cc .any ops ops.size i S.al))
theorem ae {S : gE} {ops : Array Oper} {i k : Nat} {b : Bool} (h : fk S ops i k b = true) (h' : fk S ops i k b = false) : False := by rw [h] at h'; cases h'
section
variable {P : Program} (T : b7 P) {C : Ctx} {n : Nat} (S : gE) {ops : Array Oper}
abbrev SD := cK × Nat × Bool
def vH (C : Ctx) (n : Nat) (S : gE) (b0 : Bool) (σ : SD) (act : Act) (w : World) : Prop :=
  (b0 = true → σ.2.2 = true) ∧ act.defers = [] ∧ ∃ G, c5 C n (S.bx σ.2.1 σ.2.2) (S.lv σ.2.1) (S.gen σ.2.1) σ.1 G act.tmps w ∧ (σ.2.2 = false → ∀ t a, σ.1 t = some a → br (S.ord σ.2.1) a = a)
def wb (P : Program) (C : Ctx) (n : Nat) (S : gE) (ops : Array Oper) (o : Oper) (a : A) (k : Nat) (b : Bool) (φ : cK) : Prop :=
  o.guard = none ∧ ∃ p, (∀ t x, look p t = some x → φ t = some x ∧ t ∈ o.looksAt ops) ∧
    ∀ g, WO P C n ops (fun e st => e = .normal ∧ st = St.put ⟨p ++ g, S.bx (k + 1) b, S.lv (k + 1), S.gen (k + 1)⟩ o.dst a) [o] ⟨p ++ g, S.bx k b, S.lv k, S.gen k⟩
def YD (P : Program) (T : b7 P) (C : Ctx) (n : Nat) (S : gE) (ops : Array Oper) (i : Nat) (a : A) (σ : SD) : Prop :=
  ∃ o, ops[i]? = some o ∧ c8 n o.dst = true ∧ σ.2.1 ≤ S.cs.length ∧ fk S ops i σ.2.1 σ.2.2 = true ∧
    ((S.cs[σ.2.1]? = some i ∧ i ≠ S.al ∧ (∀ b, fk S ops i σ.2.1 b = true → wb P C n S ops o a σ.2.1 b σ.1) ∧ (fk S ops i σ.2.1 false = true → br (S.ord (σ.2.1 + 1)) a = a)) ∨
     (i ∉ S.cs ∧ i = S.al ∧ σ.2.2 = false ∧ o.guard = none ∧ a = .ptr S.g0 0 ∧ ∃ e d dt, o.op = .alloc e ∧ o.dst = some d ∧ au T.l e = some dt ∧ S.z = dt.z.map fun v => A.d (.v v)) ∨
     (i ∉ S.cs ∧ i ≠ S.al ∧ ∀ k b, k ≤ S.cs.length → fk S ops i k b = true → YA P C n (S.bx k b) (S.lv k) (S.gen k) ops o a σ.1 ∧ (b = false → br (S.ord k) a = a)))
def rh (S : gE) (ops : Array Oper) (i : Nat) (a : A) (σ : SD) : SD :=
  match ops[i]? with
  | none => σ
  | some o => (bk σ.1 o.dst a, (if S.cs[σ.2.1]? = some i then σ.2.1 + 1 else σ.2.1), if i = S.al then true else σ.2.2)
variable {T} {S}
theorem mf {o : Oper} {a : A} {k : Nat} {b : Bool} {φ : cK} {dst : Option Nat} {x : A} (hd : ∀ d, dst = some d → d ∉ o.looksAt ops) : wb P C n S ops o a k b (bk φ dst x) ↔ wb P C n S ops o a k b φ := by
  constructor
  · rintro ⟨h0, p, h1, h2⟩
    exact ⟨h0, p, fun t y hy => ⟨(dV hd (h1 t y hy).2).symm.trans (h1 t y hy).1, (h1 t y hy).2⟩, h2⟩
  · rintro ⟨h0, p, h1, h2⟩
    exact ⟨h0, p, fun t y hy => ⟨(dV hd (h1 t y hy).2).trans (h1 t y hy).1, (h1 t y hy).2⟩, h2⟩
theorem pV {i k c : Nat} {b : Bool} (h : S.cs[k]? = some c) (hl : loose .any ops i c) : fk S ops i (k + 1) b = fk S ops i k b := by
  unfold fk
  congr 1
  rw [Bool.eq_iff_iff, List.all_eq_true, List.all_eq_true]
  have hk : S.cs.getD k 0 = c := by simp [List.getD_eq_getElem?_getD, h]
  have key : ∀ j, (bif Nat.blt j (k + 1) then !cc .any ops ops.size (S.cs.getD j 0) i else !cc .any ops ops.size i (S.cs.getD j 0)) = (bif Nat.blt j k then !cc .any ops ops.size (S.cs.getD j 0) i else !cc .any ops ops.size i (S.cs.getD j 0)) := fun j => by
    rcases Nat.lt_trichotomy j k with hj | rfl | hj
    · have h1 : Nat.blt j (k + 1) = true := by simp [Nat.blt_eq]; omega
      have h2 : Nat.blt j k = true := by simp [Nat.blt_eq]; omega
      rw [h1, h2]
    · have h1 : Nat.blt j (j + 1) = true := by simp [Nat.blt_eq]
      have h2 : Nat.blt j j = false := by cases q : Nat.blt j j with | false => rfl | true => simp [Nat.blt_eq] at q
      rw [h1, h2, hk, hl.1, hl.2]
      rfl
    · have h1 : Nat.blt j (k + 1) = false := by cases q : Nat.blt j (k + 1) with | false => rfl | true => simp [Nat.blt_eq] at q; omega
      have h2 : Nat.blt j k = false := by cases q : Nat.blt j k with | false => rfl | true => simp [Nat.blt_eq] at q; omega
      rw [h1, h2]
  exact ⟨fun h j hj => by rw [← key]; exact h j hj, fun h j hj => by rw [key]; exact h j hj⟩
theorem nX {i k : Nat} (hlt : S.al < ops.size) (hl : loose .any ops i S.al) : fk S ops i k true = fk S ops i k false := by
  unfold fk
  have h : Nat.blt S.al ops.size = true := by rw [Nat.blt_eq]; exact hlt
  rw [hl.1, hl.2, h]
  rfl
theorem loose.symm {md : Region.Mode} {i j : Nat} (h : loose md ops i j) : loose md ops j i := ⟨h.2, h.1⟩
theorem kb {i : Nat} {o : Oper} (h : ops[i]? = some o) (a : A) (σ : SD) : rh S ops i a σ = (bk σ.1 o.dst a, (if S.cs[σ.2.1]? = some i then σ.2.1 + 1 else σ.2.1), if i = S.al then true else σ.2.2) := by unfold rh; rw [h]
theorem pO {i k c : Nat} {b : Bool} (h : S.cs[k]? = some c) (hl : loose .any ops i c) (ha : fk S ops i (k + 1) b = true) : fk S ops i k b = true := by rw [← pV h hl]; exact ha
theorem qz {i k c : Nat} {b : Bool} (h : S.cs[k]? = some c) (hl : loose .any ops i c) (ha : fk S ops i k b = true) : fk S ops i (k + 1) b = true := by rw [pV h hl]; exact ha
theorem wO (hch : ∀ k c c', S.cs[k]? = some c → S.cs[k + 1]? = some c' → cc .any ops ops.size c' c = true) {i j : Nat} {oi oj : Oper} (hi : ops[i]? = some oi) (hj : ops[j]? = some oj) (hij : i ≠ j) (hap : oi.apart ops oj = true) (hl : loose .any ops i j) :
    lE (YD P T C n S ops) (rh S ops) i j := by
  obtain ⟨a1, a2, a3⟩ := Oper.apart_spec hap
  rintro a b ⟨φ, k, ph⟩ ⟨oi', hi', di, hk, ai, hyi⟩ ⟨oj', hj', dj, hk2, aj, hyj⟩
  rw [hi] at hi'
  cases hi'
  rw [hj] at hj'
  cases hj'
  have hcomm : bk (bk φ oi.dst a) oj.dst b = bk (bk φ oj.dst b) oi.dst a := jG φ a b a2
  have mem_of : ∀ {k c : Nat}, S.cs[k]? = some c → c ∈ S.cs := fun h => List.mem_of_getElem? h
  have klt : ∀ {k c : Nat}, S.cs[k]? = some c → k + 1 ≤ S.cs.length := fun h => (List.getElem?_eq_some_iff.1 h).1
  rw [kb hi] at aj hyj hk2
  simp only [kb hi, kb hj]
  simp only at hk ai hyi hk2 aj hyj
  rcases hyi with ⟨ci, nai, xi, fi⟩ | ⟨nci, ali, rfl, gi, ei, hi6⟩ | ⟨nci, nai, yi⟩
  · -- i is of the chain
    simp only [if_pos ci, if_neg nai] at aj hyj hk2
    rcases hyj with ⟨cj, _⟩ | ⟨ncj, alj, rfl, gj, ej, hj6⟩ | ⟨ncj, naj, yj⟩
    · exact absurd (hch k i j ci cj) (by rw [hl.2]; simp)
    · have hsi : loose .any ops i S.al := by rw [← alj]; exact hl
      have hlt : S.al < ops.size := by rw [← alj]; exact (Array.getElem?_eq_some_iff.1 hj).1
      have n1 : ¬ S.cs[k]? = some j := fun h => ncj (mem_of h)
      refine ⟨⟨oj, hj, dj, hk, pO ci hl.symm aj, .inr (.inl ⟨ncj, alj, rfl, gj, ej, hj6⟩)⟩, ?_, ?_⟩
      · refine ⟨oi, hi, di, ?_, ?_, .inl ⟨?_, nai, fun b hb => (mf a3).2 ?_, ?_⟩⟩
        all_goals simp only [if_neg n1]
        · exact hk
        · rw [if_pos alj, nX hlt hsi]; exact ai
        · exact ci
        · simp only [if_neg n1] at hb
          exact xi b hb
        · exact fi
      · simp only [if_pos ci, if_neg nai, if_pos alj, if_neg n1, hcomm]
        have n2 : ¬ S.cs[k + 1]? = some j := fun h => ncj (mem_of h)
        rw [if_neg n2]
    · have n1 : ¬ S.cs[k]? = some j := fun h => ncj (mem_of h)
      have n2 : ¬ S.cs[k + 1]? = some j := fun h => ncj (mem_of h)
      refine ⟨⟨oj, hj, dj, hk, pO ci hl.symm aj, .inr (.inr ⟨ncj, naj, fun k b h1 h2 => ⟨(c3 a1).1 (yj k b h1 h2).1, (yj k b h1 h2).2⟩⟩)⟩, ?_, ?_⟩
      · refine ⟨oi, hi, di, ?_, ?_, .inl ⟨?_, nai, fun b hb => (mf a3).2 ?_, ?_⟩⟩
        all_goals simp only [if_neg n1]
        · exact hk
        · rw [if_neg naj]; exact ai
        · exact ci
        · simp only [if_neg n1] at hb
          exact xi b hb
        · exact fi
      · simp only [if_pos ci, if_neg nai, if_neg naj, if_neg n1, if_neg n2, hcomm]
  · -- i is the allocation
    have n1 : ¬ S.cs[k]? = some i := fun h => nci (mem_of h)
    simp only [if_neg n1, if_pos ali] at aj hyj hk2
    have hsj : loose .any ops j S.al := by rw [← ali]; exact hl.symm
    have hlt : S.al < ops.size := by rw [← ali]; exact (Array.getElem?_eq_some_iff.1 hi).1
    rcases hyj with ⟨cj, naj, xj, fj⟩ | ⟨_, alj, h, _⟩ | ⟨ncj, naj, yj⟩
    · have n2 : ¬ S.cs[k + 1]? = some i := fun h => nci (mem_of h)
      refine ⟨⟨oj, hj, dj, hk, by rw [← nX hlt hsj]; exact aj, .inl ⟨cj, naj, fun b hb => (mf a1).1 (xj b hb), fj⟩⟩, ?_, ?_⟩
      · refine ⟨oi, hi, di, ?_, ?_, .inr (.inl ⟨nci, ali, ?_, gi, ei, hi6⟩)⟩
        all_goals simp only [if_pos cj, if_neg naj]
        · exact klt cj
        · exact qz cj hl ai
      · simp only [if_neg n1, if_pos ali, if_pos cj, if_neg naj, if_neg n2, hcomm]
    · exact absurd (ali.trans alj.symm) hij
    · have n3 : ¬ S.cs[k]? = some j := fun h => ncj (mem_of h)
      refine ⟨⟨oj, hj, dj, hk, by rw [← nX hlt hsj]; exact aj, .inr (.inr ⟨ncj, naj, fun k b h1 h2 => ⟨(c3 a1).1 (yj k b h1 h2).1, (yj k b h1 h2).2⟩⟩)⟩, ?_, ?_⟩
      · refine ⟨oi, hi, di, ?_, ?_, .inr (.inl ⟨nci, ali, ?_, gi, ei, hi6⟩)⟩
        all_goals simp only [if_neg n3, if_neg naj]
        · exact hk
        · exact ai
      · simp only [if_neg n1, if_pos ali, if_neg n3, if_neg naj, hcomm]
  · -- i leaves the ghost
    have n1 : ¬ S.cs[k]? = some i := fun h => nci (mem_of h)
    simp only [if_neg n1, if_neg nai] at aj hyj hk2
    rcases hyj with ⟨cj, naj, xj, fj⟩ | ⟨ncj, alj, rfl, gj, ej, hj6⟩ | ⟨ncj, naj, yj⟩
    · have n2 : ¬ S.cs[k + 1]? = some i := fun h => nci (mem_of h)
      refine ⟨⟨oj, hj, dj, hk, aj, .inl ⟨cj, naj, fun b hb => (mf a1).1 (xj b hb), fj⟩⟩, ?_, ?_⟩
      · refine ⟨oi, hi, di, ?_, ?_, .inr (.inr ⟨nci, nai, fun k b h1 h2 => ⟨(c3 a3).2 (yi k b h1 h2).1, (yi k b h1 h2).2⟩⟩)⟩
        all_goals simp only [if_pos cj, if_neg naj]
        · exact klt cj
        · exact qz cj hl ai
      · simp only [if_neg n1, if_neg nai, if_pos cj, if_neg naj, if_neg n2, hcomm]
    · have n3 : ¬ S.cs[k]? = some j := fun h => ncj (mem_of h)
      have hsi : loose .any ops i S.al := by rw [← alj]; exact hl
      have hlt : S.al < ops.size := by rw [← alj]; exact (Array.getElem?_eq_some_iff.1 hj).1
      refine ⟨⟨oj, hj, dj, hk, aj, .inr (.inl ⟨ncj, alj, rfl, gj, ej, hj6⟩)⟩, ?_, ?_⟩
      · refine ⟨oi, hi, di, ?_, ?_, .inr (.inr ⟨nci, nai, fun k b h1 h2 => ⟨(c3 a3).2 (yi k b h1 h2).1, (yi k b h1 h2).2⟩⟩)⟩
        all_goals simp only [if_neg n3, if_pos alj]
        · exact hk
        · rw [nX hlt hsi]; exact ai
      · simp only [if_neg n1, if_neg nai, if_neg n3, if_pos alj, hcomm]
    · have n3 : ¬ S.cs[k]? = some j := fun h => ncj (mem_of h)
      refine ⟨⟨oj, hj, dj, hk, aj, .inr (.inr ⟨ncj, naj, fun k b h1 h2 => ⟨(c3 a1).1 (yj k b h1 h2).1, (yj k b h1 h2).2⟩⟩)⟩, ?_, ?_⟩
      · refine ⟨oi, hi, di, ?_, ?_, .inr (.inr ⟨nci, nai, fun k b h1 h2 => ⟨(c3 a3).2 (yi k b h1 h2).1, (yi k b h1 h2).2⟩⟩)⟩
        all_goals simp only [if_neg n3, if_neg naj]
        · exact hk
        · exact ai
      · simp only [if_neg n1, if_neg nai, if_neg n3, if_neg naj, hcomm]
theorem WO.vM {o : Oper} (hg : o.guard = none) {st st1 : St} {G : Gh} {tmps : Array Value} {w : World} {Q' : Exit → Act → World → Prop} (h : WO P C n ops (fun e st => e = .normal ∧ st = st1) [o] st) (hs : aL C n st G tmps w) :
    o.wp P ⟨tmps, []⟩ w (fun act w => act.defers = [] ∧ ∃ G, aL C n st1 G act.tmps w) Q' := by
  have hw : Region.wanted o (yielded ops tmps) = true := by simp [Region.wanted, hg]
  have h := h tmps w ⟨G, hs⟩
  simp only [fK, hw, if_true] at h
  refine Oper.ry (fun c a w hq => ?_) (fun hl => ?_) (fun act2 w2 hq => ?_) h
  · obtain ⟨_, st', _, he, _⟩ := hq
    cases he
  · obtain ⟨_, _, hq⟩ := hl
    obtain ⟨_, st', _, he, _⟩ := hq
    cases he
  · obtain ⟨hdf, st', ⟨G', hs2⟩, _, rfl⟩ := hq
    exact ⟨hdf, G', hs2⟩
theorem qY {bx : List (Nat × List A)} {lv : List Nat} {gen : Nat} {φ : cK} {G : Gh} {tmps : Array Value} {w : World} (hs : c5 C n bx lv gen φ G tmps w) (t : Nat) (x : A) (hx : φ t = some x) : t < n := by
  obtain ⟨v, h1, _⟩ := hs.2 t x hx
  have := (Array.getElem?_eq_some_iff.1 h1).1
  rw [hs.1.size] at this
  exact this
theorem qw {φ : cK} {p : List (Nat × A)} (hlt : ∀ t x, φ t = some x → t < n) (hp : ∀ t x, look p t = some x → φ t = some x) (t : Nat) : look (p ++ dq n φ) t = φ t := by
  rw [qt]
  cases q : look p t with
  | some x => exact (hp t x q).symm
  | none =>
    simp only
    unfold dq
    rw [jD]
    cases e : φ t with
    | none => split <;> rfl
    | some x => rw [if_pos (List.mem_range.2 (hlt t x e))]
theorem oU {φ : cK} {f : List (Nat × A)} (h : ∀ t, look f t = φ t) {d : Nat} {a : A} {t : Nat} : look ((d, a) :: f) t = bk φ (some d) a t := by
  rw [bd]
  simp only [bk]
  by_cases e : t = d
  · subst e
    rw [if_pos rfl, if_pos rfl]
  · rw [if_neg e, if_neg (Ne.symm e), h]
def ub (S : gE) (nb k : Nat) : Prop := (jq (S.ord k) (S.gen k) nb = true ∧ pos (S.ord k) (S.gen k) = some S.g0) ∧ ib (S.ord k) ((S.gen k, S.z) :: S.bxF k) (S.bxT k) ∧ oQ (S.ord k) (S.lv k) (S.lv k) = true
def nw (S : gE) (nb : Nat) : Nat → Prop
  | 0 => ub S nb 0
  | k + 1 => ub S nb (k + 1) ∧ rT (S.ord k) (S.ord (k + 1)) = true ∧ nw S nb k
theorem nw.at {nb : Nat} : ∀ {m : Nat}, nw S nb m → ∀ k, k ≤ m → ub S nb k
  | 0, h, k, hk => by obtain rfl : k = 0 := by omega
                      exact h
  | m + 1, h, k, hk => by
    rcases Nat.lt_or_ge k (m + 1) with hlt | hge
    · exact nw.at h.2.2 k (by omega)
    · obtain rfl : k = m + 1 := by omega
      exact h.1
theorem nw.mono {nb : Nat} : ∀ {m : Nat}, nw S nb m → ∀ k, k < m → rT (S.ord k) (S.ord (k + 1)) = true
  | 0, _, k, hk => absurd hk (Nat.not_lt_zero _)
  | m + 1, h, k, hk => by
    rcases Nat.lt_or_ge k m with hlt | hge
    · exact nw.mono h.2.2 k hlt
    · obtain rfl : k = m := by omega
      exact h.2.1
theorem vR {nb : Nat} [hnb : NB C nb] (b0 : Bool) (hok : b0 = false → nw S nb S.cs.length) (i : Nat) (a : A) (σ : SD) (act : Act) (w : World) (K : Act → World → Prop) {Q' : Exit → Act → World → Prop} (hs : vH C n S b0 σ act w) (hy : YD P T C n S ops i a σ) (hK : ∀ act w, vH C n S b0 (rh S ops i a σ) act w → K act w) : wpOp P ops Q' i K act w := by
  obtain ⟨tmps, dfs⟩ := act
  obtain ⟨hb0, rfl, G, hs, hfix⟩ := hs
  obtain ⟨φ, k, ph⟩ := σ
  obtain ⟨o, ho, hd, hkl, hal, hy⟩ := hy
  rw [kb ho] at hK
  simp only at hs hfix hkl hal hy hK hb0
  unfold wpOp
  simp only [ho]
  rcases hy with ⟨hc, nal, hx, hr⟩ | ⟨nc, hal', rfl, hg, rfl, e, d, dt, hop, hdst, he, hz⟩ | ⟨nc, nal, hya⟩
  · obtain ⟨hg, p, hp, hx⟩ := hx ph hal
    rw [if_pos hc, if_neg nal] at hK
    have hw : Region.wanted o (yielded ops tmps) = true := by simp [Region.wanted, hg]
    rw [hw, if_pos rfl]
    refine .inl ?_
    have hlook := qw (qY hs) (fun t x hx => (hp t x hx).1)
    have hs' := hs.jk (f := p ++ dq n φ) fun t x hx => by rw [← hlook]; exact hx
    refine Oper.wp_mono (fun act2 w2 ⟨hdf, G', hs2⟩ => hK act2 w2 ⟨hb0, hdf, G', ?_, fun hph t x hx => ?_⟩) (WO.vM hg (hx (dq n φ)) hs')
    · show c5 C n (S.bx (k + 1) ph) (S.lv (k + 1)) (S.gen (k + 1)) (bk φ o.dst a) G' act2.tmps w2
      cases hdst : o.dst with
      | none =>
        rw [hdst] at hs2
        refine ⟨{ hs2 with frame := fun t a ha => by simp [look] at ha }, fun t x hx => hs2.frame t x ?_⟩
        show look (p ++ dq n φ) t = some x
        rw [hlook]
        exact hx
      | some d =>
        rw [hdst] at hs2
        refine ⟨{ hs2 with frame := fun t a ha => by simp [look] at ha }, fun t x hx => hs2.frame t x ?_⟩
        show look ((d, a) :: (p ++ dq n φ)) t = some x
        rw [oU hlook]
        exact hx
    · simp only at hph hx
      have hbf : b0 = false := by cases b0 with | false => rfl | true => rw [hb0 rfl] at hph; cases hph
      have hm := sF ((hok hbf).mono k (List.getElem?_eq_some_iff.1 hc).1)
      cases hdst : o.dst with
      | none => rw [hdst] at hx; exact oz hm x (hfix hph t x hx)
      | some d =>
        rw [hdst] at hx
        simp only [bk] at hx
        split at hx
        · cases hx; exact hr (by rw [← hph]; exact hal)
        · exact oz hm x (hfix hph t x hx)
  · have hkc : ¬ S.cs[k]? = some i := fun h => nc (List.mem_of_getElem? h)
    rw [if_neg hkc, if_pos hal'] at hK
    have hw : Region.wanted o (yielded ops tmps) = true := by simp [Region.wanted, hg]
    rw [hw, if_pos rfl]
    refine .inl ?_
    have hbf : b0 = false := by cases b0 with | false => rfl | true => cases hb0 rfl
    obtain ⟨⟨hO, hpos⟩, hBR, hLR⟩ := (hok hbf).at k hkl
    have hlook : ∀ t, look (dq n φ) t = φ t := qw (p := []) (qY hs) (fun t x hx => by simp [look] at hx)
    have hs' := hs.jk (f := dq n φ) fun t x hx => by rw [← hlook]; exact hx
    have hwo : WO P C n ops (fun e st => e = .normal ∧ st = St.put ⟨dq n φ, (S.gen k, S.z) :: S.bx k false, S.lv k, S.gen k + 1⟩ o.dst (.ptr (S.gen k) 0)) [o] ⟨dq n φ, S.bx k false, S.lv k, S.gen k⟩ :=
      WO.alloc T hg hd hop he (WO.nil ⟨rfl, by rw [hz]⟩)
    refine Oper.wp_mono (fun act2 w2 ⟨hdf, G', hs2⟩ => hK act2 w2 ⟨fun _ => rfl, hdf, kD (S.ord k) G', ?_, fun h => by cases h⟩) (WO.vM hg hwo hs')
    simp only [jq, Bool.and_eq_true] at hO
    obtain ⟨⟨hO1, hO2⟩, hO3⟩ := hO
    rw [hdst] at hs2 ⊢
    have h3 : aL C n ⟨(d, .ptr S.g0 0) :: dq n φ, S.bxT k, S.lv k, S.gen k⟩ (kD (S.ord k) G') act2.tmps w2 := by
      refine aL.br (gen' := S.gen k) hs2 (S.ord k) (gY hO1) (Nat.le_of_ble_eq_true hO2) (fun i hi => ?_) (fun t x hx => ?_) (fun i l' hl' => ?_) (fun i hi => ?_)
      · have h4 := lO hO3 i (by rw [← hnb.h]; exact hi)
        simpa using h4
      · rw [bd] at hx
        show ∃ a, look ((d, .ptr (S.gen k) 0) :: dq n φ) t = some a ∧ br (S.ord k) a = x
        rw [bd]
        split at hx
        · rename_i e
          rw [if_pos e]
          cases hx
          exact ⟨_, rfl, by simp only [br, hpos]⟩
        · rename_i e
          rw [if_neg e]
          rw [hlook] at hx ⊢
          exact ⟨x, hx, hfix rfl t x hx⟩
      · exact ib.le hBR i l' hl'
      · exact oH hLR i hi
    refine ⟨{ h3 with frame := fun t a ha => by simp [look] at ha }, fun t x hx => h3.frame t x ?_⟩
    show look ((d, _) :: dq n φ) t = some x
    rw [oU hlook]
    exact hx
  · have hkc : ¬ S.cs[k]? = some i := fun h => nc (List.mem_of_getElem? h)
    rw [if_neg hkc, if_neg nal] at hK
    obtain ⟨hya, hr⟩ := hya k ph hkl hal
    have hfix' : ph = false → ∀ t x, bk φ o.dst a t = some x → br (S.ord k) x = x := fun hph t x hx => by
      cases hdst : o.dst with
      | none => rw [hdst] at hx; exact hfix hph t x hx
      | some d =>
        rw [hdst] at hx
        simp only [bk] at hx
        split at hx
        · cases hx; exact hr hph
        · exact hfix hph t x hx
    obtain ⟨_, ⟨hw, f, hf, hp⟩ | ⟨hw, rfl⟩⟩ := hya
    · rw [et hs hw]
      simp only [if_true]
      refine .inl ?_
      have hg : cR P o ⟨tmps, []⟩ w fun v w' => Below w.heap.size w w' ∧ aQ (az C G (S.gen k) w') v a := hp G tmps w (hs.jk fun t x hx => (hf t x hx).1)
      refine hg.wp fun v w' ⟨hb, hr⟩ => ?_
      rw [Act.put_eq]
      exact hK _ _ ⟨hb0, rfl, G, hs.step hb hd hr, hfix'⟩
    · rw [et hs hw]
      simp only [Bool.false_eq_true, if_false]
      rw [Act.put_eq]
      exact hK _ _ ⟨hb0, rfl, G, hs.step (Below.refl _ _) hd (.tup #[] [] rfl (by simp)), hfix'⟩
def CD (P : Program) (T : b7 P) (C : Ctx) (n : Nat) (S : gE) (ops : Array Oper) (Q : St → Prop) (l : List Oper) (i : Nat) (f : List (Nat × A)) (k : Nat) (b : Bool) : Prop :=
  sN (YD P T C n S ops) (rh S ops) (fun σ => ∃ f', (∀ t, look f' t = σ.1 t) ∧ σ.2 = (S.cs.length, true) ∧ Q ⟨f', S.bxT S.cs.length, S.lv S.cs.length, S.gen S.cs.length⟩) l i (look f, k, b)
def lR (ops : Array Oper) : List Nat → Bool
  | c :: c' :: r => cc .any ops ops.size c' c && lR ops (c' :: r)
  | _ => true
theorem mx {ops : Array Oper} : ∀ {cs : List Nat}, lR ops cs = true → ∀ k c c', cs[k]? = some c → cs[k + 1]? = some c' → cc .any ops ops.size c' c = true
  | [], _, k, c, c', h, _ => by simp at h
  | [_], _, k, c, c', _, h => by simp at h
  | x :: y :: r, h, k, c, c', h1, h2 => by
    simp only [lR, Bool.and_eq_true] at h
    cases k with
    | zero =>
      simp at h1 h2
      subst h1; subst h2
      exact h.1
    | succ k => exact mx h.2 k c c' (by simpa using h1) (by simpa using h2)
def nu (o : List Nat) : List (Nat × A) → Prop
  | [] => True
  | (_, a) :: r => br o a = a ∧ nu o r
theorem nu.at {o : List Nat} : ∀ {f : List (Nat × A)}, nu o f → ∀ t a, look f t = some a → br o a = a
  | [], _, t, a, h => by simp [look] at h
  | (s, x) :: r, hf, t, a, h => by
    rw [bd] at h
    split at h
    · cases h; exact hf.1
    · exact hf.2.at t a h
theorem W.qS (T : b7 P) {nb : Nat} [hnb : NB C nb] {id : Nat} {l l1 l2 : List Oper} {f : List (Nat × A)} {bx : List (Nat × List A)} {lv : List Nat} {gen : Nat} {Q : Exit → St → Prop} (S : gE) (b0 : Bool) (m : Nat) (hB : iB m l.toArray = true) (hch : lR l.toArray S.cs = true) (h1 : l.take m = l1) (h2 : l.drop m = l2)
    (hok : b0 = false → nw S nb S.cs.length ∧ nu (S.ord 0) f) (e1 : ∀ g c, au (S.bx 0 b0) g = some c → au bx g = some c) (e2 : S.lv 0 = lv) (e3 : Nat.ble gen (S.gen 0) = true)
    (h : CD P T C n S l.toArray (WO P C n l.toArray Q l2) l1 0 f 0 b0) : W P C n (.region id l.toArray true) Q ⟨f, bx, lv, gen⟩ := by
  subst h1; subst h2; subst e2
  intro tmps w ⟨G, hs⟩
  have hs : aL C n ⟨f, bx, S.lv 0, S.gen 0⟩ G tmps w := aL.uO hs (g := S.gen 0) (Nat.le_of_ble_eq_true e3)
  have hs : aL C n ⟨f, S.bx 0 b0, S.lv 0, S.gen 0⟩ G tmps w := { hs with box := fun g c hc => hs.box g c (e1 g c hc) }
  simp only [iB, Bool.and_eq_true] at hB
  obtain ⟨⟨⟨hm, hw⟩, hfore⟩, hlex⟩ := hB
  have hm : m ≤ l.length := by simpa using Nat.le_of_ble_eq_true hm
  have hb : Below w.heap.size w { w with drawn := w.drawn + 1 } := (Below.refl _ w).drew
  have hs' : c5 C n (S.bx 0 b0) (S.lv 0) (S.gen 0) (look f) G tmps { w with drawn := w.drawn + 1 } := c5.tI (hs.gF hb).2
  have hlen : (l.take m).length = m := by simp; omega
  refine wp_region_any T.mixed ?_
  have hsz : l.toArray.size = (l.take m).length + (l.drop m).length := by simp; omega
  rw [hsz]
  have hcl : dE .any l.toArray (Array.replicate ((l.take m).length + (l.drop m).length) false) := fun j oj _ hl _ _ _ => by
    by_cases q : j < (l.take m).length + (l.drop m).length
    · simp only [Array.getD_eq_getD_getElem?, Array.getElem?_replicate] at hl
      rw [if_pos q] at hl
      cases hl
    · simp only [Array.getD_eq_getD_getElem?, Array.getElem?_replicate] at hl
      rw [if_neg q] at hl
      cases hl
  refine km (m := m) (Sm := vH C n S b0) (Y := YD P T C n S l.toArray) (ef := rh S l.toArray) (Q := fun σ => ∃ f', (∀ t, look f' t = σ.1 t) ∧ σ.2 = (S.cs.length, true) ∧ WO P C n l.toArray Q (l.drop m) ⟨f', S.bxT S.cs.length, S.lv S.cs.length, S.gen S.cs.length⟩)
    (fun i e σ act w K hs hy hk => vR b0 (fun h => (hok h).1) i e σ act w K hs hy hk) (fun listed σ act w hs hc hsp ⟨f', e1, e2, hq⟩ => ?_) _ _ (look f, 0, b0) ⟨tmps, []⟩ _ ⟨fun h => h, rfl, G, hs', fun h => (hok h).2.at⟩ hcl ?_
  · obtain ⟨tmps, dfs⟩ := act
    obtain ⟨_, rfl, G, hs, _⟩ := hs
    rw [e2] at hs
    refine jT hw (kx hfore) (l.drop m) m listed ⟨tmps, []⟩ w (Nat.le_refl _) (by simp; omega) (fun j => by simp [List.getElem?_drop]) hc hsp.1 hsp.2.1 hsp.2.2 ?_
    exact hq tmps w ⟨G, hs.jk (fun t a ha => by rw [← e1]; exact ha)⟩
  · refine qK hw (fun i j oi oj hi hj hij him hjm hap hno => wO (mx hch) hi hj hij hap hno) (l.take m) 0 _ _ (by rw [hlen]; omega) (fun j hj => ?_) hcl (by simp; omega) (fun j hj => by omega) (fun j _ hj => ?_) (by rw [hlen]; rw [hsz, hlen] at hlex; exact hlex) h
    · rw [hlen] at hj
      rw [Nat.zero_add]
      simp [List.getElem?_take, hj]
    · have hj' : j < l.length := by simpa using hj
      have e : min m l.length + (l.length - m) = l.length := by omega
      simp [e, hj']
variable {op : Op} {ty : TypeId} {pos : String} {af : Array Edge} {a : A} {d i k : Nat} {rest : List Oper} {f : List (Nat × A)} {Q : St → Prop} {b : Bool}
theorem CD.nil (h : Q ⟨f, S.bxT S.cs.length, S.lv S.cs.length, S.gen S.cs.length⟩) (hk : Nat.beq k S.cs.length = true) : CD P T C n S ops Q [] i f k true := by
  have := Nat.eq_of_beq_eq_true hk
  subst this
  exact ⟨f, fun _ => rfl, rfl, h⟩
def qo (p : Nat → Bool → Prop) : Nat → Prop
  | 0 => p 0 false ∧ p 0 true
  | k + 1 => p (k + 1) false ∧ p (k + 1) true ∧ qo p k
theorem qo.at {p : Nat → Bool → Prop} : ∀ {m : Nat}, qo p m → ∀ k b, k ≤ m → p k b
  | 0, h, k, b, hk => by
    obtain rfl : k = 0 := by omega
    cases b
    · exact h.1
    · exact h.2
  | m + 1, h, k, b, hk => by
    rcases Nat.lt_or_ge k (m + 1) with hlt | hge
    · exact h.2.2.at k b (by omega)
    · obtain rfl : k = m + 1 := by omega
      cases b
      · exact h.1
      · exact h.2.1
def sh (x : Nat) (l : List Nat) : Bool := l.any fun y => Nat.beq x y
theorem tR {x : Nat} {l : List Nat} (h : sh x l = false) : x ∉ l := fun hm => by
  have : sh x l = true := List.any_eq_true.2 ⟨x, hm, by simp⟩
  rw [h] at this
  cases this
theorem wZ (hp : qo (fun k b => fk S ops i k b = true → Pu P C n ⟨b8 f (slotsOf op), S.bx k b, S.lv k, S.gen k⟩ ⟨some d, op, ty, pos, af, none⟩ a ∧ (b = false → br (S.ord k) a = a)) S.cs.length)
    (hi : ops[i]? = some ⟨some d, op, ty, pos, af, none⟩) (h1 : sh i S.cs = false) (h2 : Nat.beq i S.al = false) (h3 : (Nat.ble k S.cs.length && fk S ops i k b) = true) (hd : Nat.blt d n = true)
    (h : CD P T C n S ops Q rest (i + 1) ((d, a) :: f) k b) : CD P T C n S ops Q (⟨some d, op, ty, pos, af, none⟩ :: rest) i f k b := by
  simp only [Bool.and_eq_true] at h3
  have nc := tR h1
  have na : i ≠ S.al := fun e => by subst e; simp at h2
  refine ⟨a, ⟨_, hi, hd, Nat.le_of_ble_eq_true h3.1, h3.2, .inr (.inr ⟨nc, na, fun k b hk ha => ⟨YA.pC (hp.at k b hk ha).1 hd, (hp.at k b hk ha).2⟩⟩)⟩, ?_⟩
  rw [kb hi]
  simp only [if_neg na, if_neg (fun e => nc (List.mem_of_getElem? e) : ¬ S.cs[k]? = some i)]
  unfold CD at h
  rw [dW] at h
  exact h
theorem aS (h0 : Pu P C n ⟨b8 f (slotsOf op), S.bx k b, S.lv k, S.gen k⟩ ⟨some d, op, ty, pos, af, none⟩ a) (hp : qo (fun k b => fk S ops i k b = true → Pu P C n ⟨b8 f (slotsOf op), S.bx k b, S.lv k, S.gen k⟩ ⟨some d, op, ty, pos, af, none⟩ a ∧ (b = false → br (S.ord k) a = a)) S.cs.length)
    (hi : ops[i]? = some ⟨some d, op, ty, pos, af, none⟩) (h1 : sh i S.cs = false) (h2 : Nat.beq i S.al = false) (h3 : (Nat.ble k S.cs.length && fk S ops i k b) = true) (hd : Nat.blt d n = true)
    (h : CD P T C n S ops Q rest (i + 1) ((d, a) :: f) k b) : CD P T C n S ops Q (⟨some d, op, ty, pos, af, none⟩ :: rest) i f k b := wZ hp hi h1 h2 h3 hd h
theorem kW (hx : ∀ b, fk S ops i k b = true → ∀ g, WO P C n ops (fun e st => e = .normal ∧ st = ⟨(d, a) :: (b8 f (slotsOf op) ++ g), S.bx (k + 1) b, S.lv (k + 1), S.gen (k + 1)⟩) [⟨some d, op, ty, pos, af, none⟩] ⟨b8 f (slotsOf op) ++ g, S.bx k b, S.lv k, S.gen k⟩)
    (hi : ops[i]? = some ⟨some d, op, ty, pos, af, none⟩) (h1 : S.cs[k]? = some i) (h2 : Nat.beq i S.al = false) (h3 : fk S ops i k b = true) (hr : fk S ops i k false = true → br (S.ord (k + 1)) a = a) (hd : Nat.blt d n = true) (h : CD P T C n S ops Q rest (i + 1) ((d, a) :: f) (k + 1) b) : CD P T C n S ops Q (⟨some d, op, ty, pos, af, none⟩ :: rest) i f k b := by
  have na : i ≠ S.al := fun e => by subst e; simp at h2
  refine ⟨a, ⟨_, hi, hd, Nat.le_of_lt (List.getElem?_eq_some_iff.1 h1).1, h3, .inl ⟨h1, na, fun b hb => ⟨rfl, b8 f (slotsOf op), fun t x hx => ?_, fun g => hx b hb g⟩, hr⟩⟩, ?_⟩
  · obtain ⟨h1, h2⟩ := c9 hx
    exact ⟨h1, List.mem_append.2 (.inl h2)⟩
  · rw [kb hi]
    simp only [if_neg na, if_pos h1]
    unfold CD at h
    rw [dW] at h
    exact h
theorem W.eP (T : b7 P) {nb : Nat} [hnb : NB C nb] {id : Nat} {l l1 l2 : List Oper} {f : List (Nat × A)} {bx : List (Nat × List A)} {lv : List Nat} {gen : Nat} {Q : Exit → St → Prop} (gS : List (List (Nat × List A))) (lvs : List (List Nat)) (gens : List Nat) (cs : List Nat) (m : Nat) (hB : iB m l.toArray = true) (hch : lR l.toArray cs = true) (h1 : l.take m = l1) (h2 : l.drop m = l2)
    (h : CD P T C n (vQ (bx :: gS) (lv :: lvs) (gen :: gens) cs l.length) l.toArray (WO P C n l.toArray Q l2) l1 0 f 0 true) : W P C n (.region id l.toArray true) Q ⟨f, bx, lv, gen⟩ :=
  W.qS T (vQ (bx :: gS) (lv :: lvs) (gen :: gens) cs l.length) true m hB hch h1 h2 (fun h => by cases h) (fun _ _ h => h) rfl (by show Nat.ble gen gen = true; simp) h
end
end Go.Ab
namespace Go.Ab
theorem iJ {e e' : Exit} {d : Nat} {a a' : A} {f : List (Nat × A)} {bx bx' : List (Nat × List A)} {lv lv' : List Nat} {gen gen' : Nat} (he : e = e') (ha : a = a') (hb : bx = bx') (hl : lv = lv') (hg : gen = gen') :
    e = e' ∧ (⟨(d, a) :: f, bx, lv, gen⟩ : St) = ⟨(d, a') :: f, bx', lv', gen'⟩ := by subst he ha hb hl hg; exact ⟨rfl, rfl⟩
end Go.Ab
namespace Go.Ab
open Go.RowKit
def aU (es : List (List D)) (k : Nat) : List A := es.flatten.map A.d ++ List.replicate k .any
section
variable {C : Ctx} {n : Nat} {st : St} {G : Gh} {tmps : Array Value} {w : World}
theorem gV {sz : Nat} : ∀ {es : List (List D)}, (∀ (e : List D), e ∈ es → e.length = sz) → es.flatten.length = es.length * sz
  | [], _ => by simp
  | e :: es, h => by rw [List.flatten_cons, List.length_append, gV (fun x hx => h x (List.mem_cons_of_mem _ hx)), h e List.mem_cons_self, List.length_cons, Nat.succ_mul, Nat.add_comm]
theorem aL.wk (h : aL C n st G tmps w) {g b len cap sz : Nat} (hg : G.own g = some (.blk b len cap sz 0)) {es : List (List D)} {v : Value} (hx : eV w (bo C G) (.blk b len cap sz 0) v es) (lv : List Nat) (hlv : ∀ g' ∈ lv, g' ∈ st.lv ∧ g' ≠ g) :
    ∃ G', aL C n ⟨st.f, (st.gen, aU es (cap * sz - len * sz)) :: st.bx, lv, st.gen + 1⟩ G' tmps w ∧ aQ (az C G' (st.gen + 1) w) v (.sb st.gen es.length cap) := by
  obtain ⟨rfl, hlen, _, hl, hr⟩ := hx
  obtain ⟨hmine, hnb, huniq, cur, T, hcur, hcs, hlc, hcm, hz, hpos, _, hone⟩ := h.row g b len cap sz 0 hg
  let G' : Gh := ⟨fun x => if x = st.gen then some b else G.box x, fun x => if x = g then none else G.own x⟩
  have hgl := h.gown g _ hg
  have hblt : b < w.heap.size := (Array.getElem?_eq_some_iff.1 hcur).1
  have hpv : ∀ b' o, bo C G' b' o → bo C G b' o := by
    rintro b' o (hp | ⟨g', hp⟩ | ⟨g', len', cap', sz', pub', hp, hl'⟩)
    · exact .inl hp
    · simp only [G'] at hp
      split at hp
      · simp only [Option.some.injEq] at hp
        subst hp
        exact .inr (.inr ⟨g, len, cap, sz, 0, hg, Nat.zero_le _⟩)
      · exact .inr (.inl ⟨g', hp⟩)
    · simp only [G'] at hp
      split at hp
      · cases hp
      · exact .inr (.inr ⟨g', len', cap', sz', pub', hp, hl'⟩)
  have hle : (az C G st.gen w).le (az C G' (st.gen + 1) w) := kQ h.fr h.fr (fun b o u hu hn => ⟨hu, fun hp => hn (hpv b o hp)⟩) (fun g' b' hb' => by
      simp only [G']
      rw [if_neg (Nat.ne_of_lt (h.gbox g' b' hb').1)]
      exact hb')
    (fun g' r' hg' hr' => by
      simp only [G'] at hr'
      split at hr'
      · cases hr'
      · exact hr') (Nat.le_succ _) (fun _ _ _ _ _ _ _ _ => rfl) (fun _ _ _ _ => rfl) (.refl w)
  have hfl := gV hl
  have hsub : len * sz ≤ cap * sz := Nat.mul_le_mul_right _ hlc
  refine ⟨G', { size := h.size, frame := h.dr hle, xold := h.xold, kold := h.kold, fr := h.fr, lent := ?_, box := ?_, gbox := ?_, inj := ?_, live := ?_, gown := ?_, row := ?_, mrow := ?_ }, ?_⟩
  · intro g' cells hc
    simp only [bJ] at hc
    split at hc
    · rename_i e
      simp only [Option.some.injEq] at hc
      subst hc
      subst e
      refine ⟨b, cur, T, by simp [G'], hcur, ?_, fun i u hu => hone i u hu, fun i u a hu ha => ?_⟩
      · simp only [aU, List.length_append, List.length_map, List.length_replicate, hfl, hlen]; omega
      · unfold aU at ha
        rcases Nat.lt_or_ge i es.flatten.length with hi | hi
        · rw [List.getElem?_append_left (by rw [List.length_map]; exact hi), List.getElem?_map, Option.map_eq_some_iff] at ha
          obtain ⟨d, hd, rfl⟩ := ha
          have hi2 : i < len * sz := by rw [← hlen, ← hfl]; exact hi
          have hdiv : i / sz < es.length := by rw [hlen]; exact Nat.div_lt_of_lt_mul (by rw [Nat.mul_comm]; exact hi2)
          have he : es[i / sz]? = some es[i / sz] := by simp [hdiv]
          have hel := hl _ (List.mem_of_getElem? he)
          have hdd : es[i / sz][i % sz]? = some (es[i / sz][i % sz]'(by rw [hel]; exact Nat.mod_lt _ hz)) := by simp
          have hfg := ik hl _ _ _ _ he hdd
          rw [Nat.div_add_mod' i sz, hd] at hfg
          obtain ⟨u', hu', hud⟩ := hr _ _ _ _ he hdd
          rw [Nat.div_add_mod' i sz, bH hcur] at hu'
          rw [hu] at hu'
          cases hu'
          rw [Option.some.inj hfg]
          exact .d (hud.mono hle.cell)
        · rw [List.getElem?_append_right (by rw [List.length_map]; exact hi)] at ha
          have := List.eq_of_mem_replicate (List.mem_of_getElem? ha)
          subst this
          exact .any _
    · obtain ⟨b', cs, T', h1, h2, h3, h4, h5⟩ := h.box g' cells hc
      exact ⟨b', cs, T', by simp only [G']; rw [if_neg (Nat.ne_of_lt (h.gbox g' b' h1).1)]; exact h1, h2, h3, h4, fun i u a hu ha => (h5 i u a hu ha).mono hle⟩
  · intro g' b' hb
    simp only [G'] at hb
    split at hb
    · rename_i e
      simp only [Option.some.injEq] at hb
      subst hb
      subst e
      exact ⟨Nat.lt_succ_self _, hblt, hmine⟩
    · obtain ⟨h1, h2⟩ := h.gbox g' b' hb
      exact ⟨Nat.lt_succ_of_lt h1, h2⟩
  · intro g1 g2 b' h1 h2
    simp only [G'] at h1 h2
    split at h1 <;> split at h2
    · simp_all
    · simp only [Option.some.injEq] at h1; subst h1; exact absurd h2 (hnb g2)
    · simp only [Option.some.injEq] at h2; subst h2; exact absurd h1 (hnb g1)
    · exact h.inj g1 g2 b' h1 h2
  · intro g' hg'
    obtain ⟨h1, h2⟩ := hlv g' hg'
    obtain ⟨r', hr'⟩ := h.live g' h1
    exact ⟨r', by simp only [G']; rw [if_neg h2]; exact hr'⟩
  · intro g' r' hr'
    simp only [G'] at hr'
    split at hr'
    · cases hr'
    · exact Nat.lt_succ_of_lt (h.gown g' r' hr')
  · intro g' b' len' cap' sz' pub' hr'
    simp only [G'] at hr'
    split at hr'
    · cases hr'
    · rename_i e2
      obtain ⟨h4, h5, h6, h7⟩ := h.row g' b' len' cap' sz' pub' hr'
      have hne : b' ≠ b := fun e => by subst e; exact e2 (huniq g' len' cap' sz' pub' hr')
      refine ⟨h4, fun g2 h2 => ?_, fun g2 bO cap2 sz2 pub2 h2 => ?_, h7⟩
      · simp only [G'] at h2
        split at h2
        · simp only [Option.some.injEq] at h2; exact hne h2.symm
        · exact h5 g2 h2
      · simp only [G'] at h2
        split at h2
        · cases h2
        · exact h6 g2 bO cap2 sz2 pub2 h2
  · intro g' b' hr'
    simp only [G'] at hr'
    split at hr'
    · cases hr'
    · obtain ⟨h4, h4b, h5, me, clock, h6⟩ := h.mrow g' b' hr'
      refine ⟨h4, fun g2 h2 => ?_, fun g2 h2 => ?_, me, clock, h6⟩
      · simp only [G'] at h2
        split at h2
        · simp only [Option.some.injEq] at h2; subst h2; rw [hcur] at h6; cases h6
        · exact h4b g2 h2
      · simp only [G'] at h2
        split at h2
        · cases h2
        · exact h5 g2 h2
  · intro i b' hb
    have h1 := h.lent i b' hb
    simp only [G']
    rw [if_neg (Nat.ne_of_lt (h.gbox i b' h1).1)]
    exact h1
  · exact .sb _ st.gen es.length cap b (Nat.lt_succ_self _) (by simp [az, G']) (by rw [hlen]; exact ⟨hlc, hcm⟩) (by rw [hlen])
end
section
variable {P : Program} (T : b7 P) {C : Ctx} {n : Nat} {ops : Array Oper} {Q : Exit → St → Prop} {rest : List Oper}
variable {f : List (Nat × A)} {bx : List (Nat × List A)} {lv : List Nat} {gen : Nat} {d : Nat} {op : Op} {ty : TypeId} {pos : String} {af : Array Edge} {a : A} {dst : Option Nat} {c : Code}
theorem vO (s : Nat) {g : Nat} {es : List (List D)} (hl : look f s = some (.xs g es)) (hgl : (lv.any fun h => Nat.beq h g) = true) (hsn : Nat.blt s n = true) (hp : 0 < es.length) {lv' : List Nat} (hlv : c4 lv g = lv')
    (h : ∀ cap k, W P C n c Q ⟨(s, .sb gen es.length cap) :: f, (gen, aU es k) :: bx, lv', gen + 1⟩) : W P C n c Q ⟨f, bx, lv, gen⟩ := by
  subst hlv
  intro tmps w ⟨G, hs⟩
  obtain ⟨v, hv, hr⟩ := hs.frame _ _ hl
  obtain ⟨r, hgr⟩ := hs.live g (iA hgl)
  cases hr with
  | xs _ _ _ hgg h1 hrow =>
  have hx := hrow r hgr
  cases r with
  | nil => obtain ⟨_, rfl⟩ := hx; simp at hp
  | zero b => obtain ⟨_, rfl⟩ := hx; simp at hp
  | mp b => exact hx.elim
  | blk b len cap sz pub =>
    obtain rfl : pub = 0 := hx.2.2.1
    obtain ⟨G', hs', hv'⟩ := hs.wk hgr hx (c4 lv g) (fun g' hg' => dQ hg')
    refine h cap (cap * sz - len * sz) tmps w ⟨G', ?_⟩
    have := hs'.set (d := s) (Nat.le_of_ble_eq_true hsn) hv'
    rwa [fZ hv] at this
theorem wR {x : Operand} {t e : Nat} {td : bP} {g m cap : Nat} (hx : av f x = some (.sb g m cap)) (ht : au T.l t = some td) (hk : td.k = .slice e) :
    Pu P C n ⟨f, bx, lv, gen⟩ ⟨dst, .call ⟨.builtin .len, #[x], #[t]⟩, ty, pos, af, none⟩ (.d (.v (.int .i64 m))) := by
  refine dm.pu fun G tmps w hs => ?_
  have hr := hs.av hx
  generalize hv : Act.eval ⟨tmps, []⟩ x = v at hr
  cases hr with
  | sb _ _ _ _ b hgg hb hn h2 =>
  refine ⟨.int .i64 m, ?_, .d (.v _ ?_)⟩
  · unfold execOp
    show Sem.run P (do let d ← resolve (Act.eval ⟨tmps, []⟩) ⟨.builtin .len, #[x], #[t]⟩ ty; invoke d.target d.args) w = _
    simp only [resolve, List.map_toArray, List.map_cons, List.map_nil, hv, h2, Sem.run_bind, Sem.run_pure, Result.andThen_ok, invoke, builtin, Builtin.len_]
    simp [run_underlying (T.dk ht hk), goInt]
    rfl
  · obtain ⟨h3, h4⟩ := hn
    simp only [maxLen] at h4
    simp [cS, IntKind.min, IntKind.max, IntKind.signed, IntKind.bits]
    omega
theorem bp {t e : Nat} {x ix : Operand} {td ed : bP} {g m cap : Nat} {k : IntKind} {i : Int} (hx : av f x = some (.sb g m cap)) (hi : av f ix = some (.d (.v (.int k i)))) (ht : au T.l t = some td) (hk : td.k = .slice e) (he : au T.l e = some ed)
    (h0 : 0 ≤ i) (hlt : i.toNat < m) {off : Nat} (ho : i.toNat * ed.n = off) : Pu P C n ⟨f, bx, lv, gen⟩ ⟨dst, .indexAddr t x ix, ty, pos, af, none⟩ (.ptr g off) := by
  subst ho
  refine dm.pu fun G tmps w hs => ?_
  have hu := T.dk ht hk
  have hrx := hs.av hx
  have hri := hs.av hi
  generalize hvi : Act.eval ⟨tmps, []⟩ ix = vi at hri
  cases hri with | d hri => cases hri with | v _ _ =>
  generalize hvx : Act.eval ⟨tmps, []⟩ x = vx at hrx
  cases hrx with
  | sb _ _ _ _ b hgg hb hn h2 =>
  refine ⟨.pointer (some ⟨b, i.toNat * ed.n, none⟩), ?_, .ptr _ g _ b hgg hb rfl⟩
  unfold execOp
  show Sem.run P _ w = .ok _ w
  have hc2 : 0 ≤ i ∧ i < (m : Int) := ⟨h0, by omega⟩
  simp only [hvi, hvx, h2, Instr.indexAt, asIntOf, Sem.run_bind, Sem.run_pure, Result.andThen_ok, run_underlying hu, hc2, and_self, if_true, T.sizeOf he]
  unfold Addr.add
  split
  · rename_i e; rw [e]
  · simp
theorem pn {es : List (List D)} {sz i k : Nat} {e : List D} (hl : ∀ (x : List D), x ∈ es → x.length = sz) (he : es[i]? = some e) : ∃ r, (aU es k).drop (i * sz) = e.map A.d ++ r := by
  have hi : i < es.length := (List.getElem?_eq_some_iff.1 he).1
  have h1 : es = es.take i ++ e :: es.drop (i + 1) := by
    have := List.drop_eq_getElem_cons hi
    rw [(List.getElem?_eq_some_iff.1 he).2] at this
    rw [← this, List.take_append_drop]
  have h2 : (es.take i).flatten.length = i * sz := by
    rw [gV (sz := sz) (fun x hx => hl x (List.mem_of_mem_take hx)), List.length_take, Nat.min_eq_left (Nat.le_of_lt hi)]
  refine ⟨(es.drop (i + 1)).flatten.map A.d ++ List.replicate k .any, ?_⟩
  have e3 : aU es k = (es.take i).flatten.map A.d ++ (e.map A.d ++ ((es.drop (i + 1)).flatten.map A.d ++ List.replicate k .any)) := by
    unfold aU
    conv => lhs; rw [h1]
    simp [List.append_assoc]
  rw [e3, ← h2, ← List.length_map (f := A.d), List.drop_left]
theorem mY {es : List (List D)} {sz k : Nat} (hl : ∀ (x : List D), x ∈ es → x.length = sz) : (aU es k).length = es.length * sz + k := by
  unfold aU
  rw [List.length_append, List.length_map, gV hl, List.length_replicate]
theorem pW {es : List (List D)} {sz i k : Nat} {e cs : List D} (hl : ∀ (x : List D), x ∈ es → x.length = sz) (he : es[i]? = some e) (hc : cs.length = sz) : setAt (aU es k) (i * sz) (cs.map A.d) = aU (es.set i cs) k := by
  have hi : i < es.length := (List.getElem?_eq_some_iff.1 he).1
  have h1 : es = es.take i ++ e :: es.drop (i + 1) := by
    have := List.drop_eq_getElem_cons hi
    rw [(List.getElem?_eq_some_iff.1 he).2] at this
    rw [← this, List.take_append_drop]
  have h2 : (es.take i).flatten.length = i * sz := by
    rw [gV (sz := sz) (fun x hx => hl x (List.mem_of_mem_take hx)), List.length_take, Nat.min_eq_left (Nat.le_of_lt hi)]
  have h4 : e.length = sz := hl e (List.mem_of_getElem? he)
  have e3 : aU es k = (es.take i).flatten.map A.d ++ (e.map A.d ++ ((es.drop (i + 1)).flatten.map A.d ++ List.replicate k .any)) := by
    unfold aU
    conv => lhs; rw [h1]
    simp [List.append_assoc]
  have e4 : aU (es.set i cs) k = (es.take i).flatten.map A.d ++ (cs.map A.d ++ ((es.drop (i + 1)).flatten.map A.d ++ List.replicate k .any)) := by
    unfold aU
    rw [List.set_eq_take_append_cons_drop, if_pos hi]
    simp [List.append_assoc]
  unfold setAt
  have h5 : ((es.take i).flatten.map A.d).length = i * sz := by rw [List.length_map, h2]
  have h6 : (cs.map A.d).length = (e.map A.d).length := by rw [List.length_map, List.length_map, hc, h4]
  rw [e3, e4, ← h5, List.take_left, h6, ← List.drop_drop, List.drop_left, List.drop_left, List.append_assoc]
theorem dp {t : Nat} {x : Operand} {td : bP} {g i k : Nat} {es : List (List D)} {e : List D} (hx : av f x = some (.ptr g (i * td.n))) (ht : au T.l t = some td) (hk : td.k.agg = true) (hb : au bx g = some (aU es k)) (hl : ∀ (x : List D), x ∈ es → x.length = td.n) (he : es[i]? = some e) :
    Pu P C n ⟨f, bx, lv, gen⟩ ⟨dst, .load t x, ty, pos, af, none⟩ (.ag e) := by
  refine dm.pu fun G tmps w hs => ?_
  obtain ⟨b, cs, T', h1, h2, h3, h4, h5⟩ := gu hs hb (hs.av hx)
  have hel := hl e (List.mem_of_getElem? he)
  obtain ⟨r, hr⟩ := pn (k := k) hl he
  have hcell : ∀ j y, e[j]? = some y → (aU es k)[i * td.n + j]? = some (.d y) := fun j y hj => by
    rw [← List.getElem?_drop, hr, List.getElem?_append_left (by rw [List.length_map]; exact (List.getElem?_eq_some_iff.1 hj).1), List.getElem?_map, hj]; rfl
  have hall : ∀ j y, e[j]? = some y → ba w (bo C G) (cs[i * td.n + j]?.getD default) y := fun j y hj => by
    have hc := hcell j y hj
    have hj' : i * td.n + j < cs.size := by rw [h3]; exact (List.getElem?_eq_some_iff.1 hc).1
    have e1 : cs[i * td.n + j]? = some cs[i * td.n + j] := by simp [hj']
    have := h5 _ _ _ e1 hc
    rw [e1]
    generalize cs[i * td.n + j] = u at this ⊢
    cases this with | d hd => exact hd
  obtain ⟨v, h6, h7⟩ := gJ (E := az C G gen w) T (t := t) (a := .ag e) (b := b) (off := i * td.n) (u := fun j => cs[i * td.n + j]?.getD default) (l := e) (fun j hj => by
      have hc := hcell j e[j] (by simp [hj])
      have hj' : i * td.n + j < cs.size := by rw [h3]; exact (List.getElem?_eq_some_iff.1 hc).1
      have e1 : cs[i * td.n + j]? = some cs[i * td.n + j] := by simp [hj']
      show cellAt w b (i * td.n + j) = _
      rw [bH h2, e1]; rfl) hall (by unfold gB; rw [ht]; simp [hk, ← hel])
  refine ⟨v, ?_, h7⟩
  rw [fP rfl]
  show Sem.run P _ w = .ok _ w
  have h6' : (Instr.loadAt t (.pointer (some ⟨b, i * td.n, none⟩))).run P w = .ok v w := h6
  simp only [h1, Sem.run_bind, h6', Result.andThen_ok, Sem.run_pure]
theorem gp {t : TypeId} {x y : Operand} {td : bP} {g i k : Nat} {es : List (List D)} {e cs : List D} (hx : av f x = some (.ptr g (i * td.n))) (ht : au T.l t = some td) (hb : au bx g = some (aU es k)) (ha : av f y = some (.ag cs)) (hl : ∀ (x : List D), x ∈ es → x.length = td.n) (he : es[i]? = some e)
    (hc : cs.length = td.n) (hz : Nat.blt 0 td.n = true) {es' : List (List D)} (hes : es.set i cs = es')
    (h : WO P C n ops Q rest ⟨f, (g, aU es' k) :: bx, lv, gen⟩) : WO P C n ops Q (⟨none, .store t x y, ty, pos, af, none⟩ :: rest) ⟨f, bx, lv, gen⟩ := by
  have hz := Nat.le_of_ble_eq_true hz
  have hi : i < es.length := (List.getElem?_eq_some_iff.1 he).1
  refine WO.store (st := ⟨f, bx, lv, gen⟩) T rfl rfl rfl hx hb ha (cs := cs.map A.d) rfl (by unfold cb; rw [ht]; simp [hc]) (by rw [List.length_map]; omega) ?_ ?_
  · apply Nat.ble_eq_true_of_le
    rw [List.length_map, hc, mY hl]
    have : (i + 1) * td.n ≤ es.length * td.n := Nat.mul_le_mul_right _ hi
    rw [Nat.succ_mul] at this
    omega
  · rw [pW hl he hc, hes]
    exact h
end
end Go.Ab
namespace Go.Tb
open Go.Ab
def a9 (r : List aA) (i : Nat) : aA := r.getD i eY
def ct (cols : List Col) (s : ByteArray) : Option Nat := cols.findIdx? fun x => decide (x.name = s)
def bY (cols : List Col) (s : ByteArray) : Nat := (ct cols s).getD 0
def wB : ByteArray := B #[98]
def cq (op : Int) (on : List ByteArray) (aa : ByteArray) : eJ := ⟨op, ⟨0, B #[], eY, []⟩, [], on, [], [], 0, aa⟩
def gx (op : Int) (on : List ByteArray) (a : bh) : CT := if bg a ≠ 0 then ([], bg a) else dM [] a.cols (cq op on (B #[]))
def dc (op : Int) (on : List ByteArray) (a b : bh) : CT := if bg a ≠ 0 then ([], bg a) else if bg b ≠ 0 then ([], bg b) else dM [⟨wB, b⟩] a.cols (cq op on wB)
def fJ : bh := ⟨[], []⟩
def dF : List bh → Int
  | [] => 0
  | t :: r => if bg t ≠ 0 then bg t else dF r
def eK (op : Int) (on : List ByteArray) (l : List bh) : CT := if dF l ≠ 0 then ([], dF l) else
  dM (if 1 < l.length then [⟨wB, l.getD 1 fJ⟩] else []) (l.getD 0 fJ).cols (cq op on (if 1 < l.length then wB else B #[]))
theorem nV (op : Int) (on : List ByteArray) (a : bh) : eK op on [a] = gx op on a := by
  unfold eK gx
  by_cases h : bg a = 0 <;> simp [dF, h]
theorem ny (op : Int) (on : List ByteArray) (a b : bh) : eK op on [a, b] = dc op on a b := by
  unfold eK dc
  by_cases h : bg a = 0 <;> by_cases h2 : bg b = 0 <;> simp [dF, h, h2]
theorem lu : ∀ {l : List bh}, dF l = 0 → ∀ t ∈ l, bg t = 0
  | [], _, t, ht => by cases ht
  | u :: r, h, t, ht => by
    simp only [dF] at h
    split at h
    · rename_i h1; exact absurd h h1
    · rename_i h1
      rcases List.mem_cons.1 ht with rfl | ht
      · simpa using h1
      · exact lu h t ht
theorem dw {t : bh} (h : bg t = 0) : t.cols.length ≤ 32 ∧ t.rows.length ≤ 20000 := by
  unfold bg at h
  split at h
  · cases h
  · omega
def cI (not : List ByteArray) : List Col → Nat → List Nat
  | [], _ => []
  | c :: r, i => if not.any (fun x => decide (c.name = x)) then cI not r (i + 1) else i :: cI not r (i + 1)
def be (r : List aA) (at_ : List Nat) : List aA := at_.map (a9 r)
def fe (a b : List aA) : Bool := decide (a = b) && !(a.any fun x => decide (eY = x))
structure je where
  left : List Nat
  right : List Nat
  m0 : Nat
  m1 : Nat
  t0 : Nat
  t1 : Nat
  more : List Nat
def cr (r : List aA) (i j : Nat) : Bool := decide ((a9 r i).kind = 2) && (decide ((a9 r j).kind = 2) && decide ((a9 r i).n < (a9 r j).n))
def eZ (o : je) (x y : List aA) : Int := if (a9 x o.m0).n < (a9 y o.t0).n then (a9 y o.t0).n else (a9 x o.m0).n
def gv (o : je) (x y : List aA) : Int := if (a9 y o.t1).n < (a9 x o.m1).n then (a9 y o.t1).n else (a9 x o.m1).n
def dS (o : je) (x y : List aA) : Bool := cr y o.t0 o.t1 && (decide (eZ o x y < gv o x y) && fe (be x o.left) (be y o.right))
def fE (r : List aA) (i : Nat) (n : Int) : List aA := r.set i ⟨(a9 r i).kind, n, (a9 r i).s⟩
def eS (o : je) (x y : List aA) : List aA := fE (fE (x ++ be y o.more) o.m0 (eZ o x y)) o.m1 (gv o x y)
def jZ (o : je) (x : List aA) : List (List aA) → List (List aA) → Option (List (List aA))
  | [], out => some out
  | y :: r, out => if dS o x y = true then (if out.length = 20000 then none else jZ o x r (out ++ [eS o x y])) else jZ o x r out
def gG (o : je) (bs : List (List aA)) : List (List aA) → List (List aA) → Option (List (List aA))
  | [], out => some out
  | x :: r, out => if cr x o.m0 o.m1 = true then (match jZ o x bs out with | none => none | some o2 => gG o bs r o2) else gG o bs r out
def bu (a b : bh) (on : List ByteArray) : je :=
  ⟨on.map (bY a.cols), on.map (bY b.cols), bY a.cols aJ, bY a.cols bA, bY b.cols aJ, bY b.cols bA, cI (on ++ [aJ, bA]) b.cols 0⟩
def bC (a b : bh) (on : List ByteArray) : bh × Int :=
  if (dc 7 on a b).2 ≠ 0 then (fJ, (dc 7 on a b).2) else
    match gG (bu a b on) b.rows a.rows [] with
    | none => (fJ, 7)
    | some rows => (⟨(dc 7 on a b).1, rows⟩, 0)
structure ud (a b : bh) (on : List ByteArray) (spans : List ByteArray) : Prop where
  ga : bg a = 0
  gb : bg b = 0
  ons : ∀ s ∈ on, ∃ i j c d, ct a.cols s = some i ∧ ct b.cols s = some j ∧ a.cols[i]? = some c ∧ b.cols[j]? = some d ∧ c.type = d.type
  spa : ∀ s ∈ spans, ∃ i c, ct a.cols s = some i ∧ a.cols[i]? = some c ∧ c.type = 2
  spb : ∀ s ∈ spans, ∃ i c, ct b.cols s = some i ∧ b.cols[i]? = some c ∧ c.type = 2
  len : on.length ≤ 16
end Go.Tb
namespace Go.Ab
section
variable {P : Program} {C : Ctx} {n : Nat} {ops : Array Oper} {c : Nat}
variable {op : Op} {ty : TypeId} {pos : String} {af : Array Edge} {a : A} {d i : Nat} {rest l : List Oper} {f : List (Nat × A)} {Q : St → Prop} {ph : Bool} {dst : Option Nat}
variable {bx0 bx1 : List (Nat × List A)} {lv0 lv1 : List Nat} {gen0 gen1 : Nat}
theorem wz {o : Oper} (hdst : o.dst = some d) (h0 : YA P C n bx0 lv0 gen0 ops o a (look f)) (h1 : YA P C n bx1 lv1 gen1 ops o a (look f)) (hi : ops[i]? = some o) (hc : Nat.beq i c = false) (b0 : bE .any ops i c = false) (b1 : bE .any ops c i = false)
    (h : CC P C n ⟨bx0, bx1, lv0, lv1, gen0, gen1⟩ ops c Q rest (i + 1) ((d, a) :: f) ph) : CC P C n ⟨bx0, bx1, lv0, lv1, gen0, gen1⟩ ops c Q (o :: rest) i f ph := by
  have hic : i ≠ c := fun e => by subst e; simp at hc
  refine ⟨a, ⟨_, hi, h0.1, .inr ⟨hic, fun _ => h0, fun _ => h1, fun _ => b0, fun _ => b1⟩⟩, ?_⟩
  rw [fL hi, hdst]
  simp only [if_neg hic]
  unfold CC at h
  rw [dW] at h
  exact h
theorem lK {j e : Nat} {want : Bool} (hj : cL ops j = some e) (hl : look f e = some (.d (.v (.bool want)))) (h1 : Pu P C n ⟨b8 f (slotsOf op), bx1, lv1, gen1⟩ ⟨some d, op, ty, pos, af, none⟩ a) (h0 : Pu P C n ⟨b8 f (slotsOf op), bx0, lv0, gen0⟩ ⟨some d, op, ty, pos, af, none⟩ a)
    (hi : ops[i]? = some ⟨some d, op, ty, pos, af, some (j, want)⟩) (hc : Nat.beq i c = false) (b0 : bE .any ops i c = false) (b1 : bE .any ops c i = false) (hd : Nat.blt d n = true)
    (h : CC P C n ⟨bx0, bx1, lv0, lv1, gen0, gen1⟩ ops c Q rest (i + 1) ((d, a) :: f) ph) : CC P C n ⟨bx0, bx1, lv0, lv1, gen0, gen1⟩ ops c Q (⟨some d, op, ty, pos, af, some (j, want)⟩ :: rest) i f ph := by
  have hf : ∀ t x, look (b8 f (slotsOf op)) t = some x → look f t = some x ∧ t ∈ (⟨some d, op, ty, pos, af, some (j, want)⟩ : Oper).looksAt ops := fun t x hx => by
    obtain ⟨h1, h2⟩ := c9 hx
    exact ⟨h1, List.mem_append.2 (.inl h2)⟩
  have hw : fy ops ⟨some d, op, ty, pos, af, some (j, want)⟩ (look f) true := ⟨e, _, hj, hl, .inl ⟨want, rfl, by simp⟩⟩
  exact wz rfl ⟨hd, .inl ⟨hw, _, hf, h0⟩⟩ ⟨hd, .inl ⟨hw, _, hf, h1⟩⟩ hi hc b0 b1 h
theorem eo {j e : Nat} {want b : Bool} (hj : cL ops j = some e) (hl : look f e = some (.d (.v (.bool b)))) (hb : (b == want) = false)
    (hi : ops[i]? = some ⟨some d, op, ty, pos, af, some (j, want)⟩) (hc : Nat.beq i c = false) (b0 : bE .any ops i c = false) (b1 : bE .any ops c i = false) (hd : Nat.blt d n = true)
    (h : CC P C n ⟨bx0, bx1, lv0, lv1, gen0, gen1⟩ ops c Q rest (i + 1) ((d, .tup []) :: f) ph) : CC P C n ⟨bx0, bx1, lv0, lv1, gen0, gen1⟩ ops c Q (⟨some d, op, ty, pos, af, some (j, want)⟩ :: rest) i f ph := by
  have hw : fy ops ⟨some d, op, ty, pos, af, some (j, want)⟩ (look f) false := ⟨e, _, hj, hl, .inl ⟨b, rfl, hb.symm⟩⟩
  exact wz rfl ⟨hd, .inr ⟨hw, rfl⟩⟩ ⟨hd, .inr ⟨hw, rfl⟩⟩ hi hc b0 b1 h
theorem pG {dst : Option Nat} {j e : Nat} {want b : Bool} (hj : cL ops j = some e) (hl : look f e = some (.d (.v (.bool b))))
    (ht : b = true → CC P C n ⟨bx0, bx1, lv0, lv1, gen0, gen1⟩ ops c Q (⟨dst, op, ty, pos, af, some (j, want)⟩ :: rest) i ((e, .d (.v (.bool true))) :: f) ph)
    (hf : b = false → CC P C n ⟨bx0, bx1, lv0, lv1, gen0, gen1⟩ ops c Q (⟨dst, op, ty, pos, af, some (j, want)⟩ :: rest) i ((e, .d (.v (.bool false))) :: f) ph) : CC P C n ⟨bx0, bx1, lv0, lv1, gen0, gen1⟩ ops c Q (⟨dst, op, ty, pos, af, some (j, want)⟩ :: rest) i f ph := by
  have key : ∀ c, b = c → look ((e, A.d (.v (.bool c))) :: f) = look f := by
    intro c hc
    subst hc
    funext t
    rw [bd]
    split
    · rename_i h; subst h; exact hl.symm
    · rfl
  cases b
  · have := hf rfl; unfold CC at *; rw [key false rfl] at this; exact this
  · have := ht rfl; unfold CC at *; rw [key true rfl] at this; exact this
end
end Go.Ab
namespace Go.Tb
open Go.Ab
theorem jA {cols : List Col} {s : ByteArray} {c : Col} (h : aZ cols s = some c) : ∃ i, ct cols s = some i ∧ cols[i]? = some c ∧ c.name = s := by
  unfold aZ at h
  rw [List.find?_eq_some_iff_getElem] at h
  obtain ⟨hp, i, hi, hc, hmin⟩ := h
  refine ⟨i, ?_, by rw [← hc]; simp, of_decide_eq_true hp⟩
  unfold ct
  rw [List.findIdx?_eq_some_iff_getElem]
  exact ⟨hi, by rw [hc]; exact hp, fun j hj => by have := hmin j hj; simpa using this⟩
theorem jW {cols : List Col} {s : ByteArray} (h : da cols s = 0) : ∃ i c, ct cols s = some i ∧ cols[i]? = some c ∧ c.type = 2 := by
  unfold da at h
  cases hf : aZ cols s with
  | none => rw [hf] at h; exact absurd h (by decide)
  | some c =>
    rw [hf] at h
    obtain ⟨i, h1, h2, _⟩ := jA hf
    refine ⟨i, c, h1, h2, ?_⟩
    by_cases q : c.type = 2
    · exact q
    · simp [q] at h
theorem fm {cols : List Col} : ∀ {l : List ByteArray}, cG cols l = 0 → ∀ s ∈ l, ∃ i c, ct cols s = some i ∧ cols[i]? = some c ∧ c.type = 2
  | [], _, s, hs => by cases hs
  | x :: r, h, s, hs => by
    simp only [cG] at h
    split at h
    · rename_i h1; exact absurd h h1
    · rename_i h1
      rcases List.mem_cons.1 hs with rfl | hs
      · exact jW (by simpa using h1)
      · exact fm h s hs
theorem kB {a b : List Col} : ∀ {l : List ByteArray}, dg a b l = 0 → ∀ s ∈ l, ∃ i j c d, ct a s = some i ∧ ct b s = some j ∧ a[i]? = some c ∧ b[j]? = some d ∧ c.type = d.type
  | [], _, s, hs => by cases hs
  | x :: r, h, s, hs => by
    simp only [dg] at h
    cases h1 : aZ a x with
    | none => rw [h1] at h; cases h
    | some c =>
      cases h2 : aZ b x with
      | none => rw [h1, h2] at h; cases h
      | some d =>
        rw [h1, h2] at h
        dsimp only at h
        split at h
        · cases h
        · rename_i h3
          rcases List.mem_cons.1 hs with rfl | hs
          · obtain ⟨i, p1, p2, _⟩ := jA h1
            obtain ⟨j, q1, q2, _⟩ := jA h2
            exact ⟨i, j, c, d, p1, q1, p2, q2, by simpa using h3⟩
          · exact kB h s hs
theorem nS {cols : List Col} : ∀ {l : List ByteArray} {out : List Col}, (cm cols out l).2 = 0 → ∀ s ∈ l, ∃ i c, ct cols s = some i ∧ cols[i]? = some c
  | [], _, _, s, hs => by cases hs
  | x :: r, out, h, s, hs => by
    simp only [cm] at h
    cases h1 : aZ cols x with
    | none => rw [h1] at h; cases h
    | some c =>
      rw [h1] at h
      rcases List.mem_cons.1 hs with rfl | hs
      · obtain ⟨i, p1, p2, _⟩ := jA h1
        exact ⟨i, c, p1, p2⟩
      · exact nS h s hs
theorem ki {l : List ByteArray} {m : Int} (h : dR l m = 0) : l.length ≤ 16 := by
  unfold dR at h
  split at h
  · rename_i h1; exact absurd h h1
  · rename_i h1
    unfold dA at h1
    split at h1
    · simp at h1
    · split at h1
      · simp at h1
      · omega
theorem s5 {op : Int} (hop : op = 7 ∨ op = 8) {on : List ByteArray} {a b : bh} (h : (dc op on a b).2 = 0) : ud a b on (aI op) := by
  unfold dc at h
  split at h
  · rename_i h1; exact absurd h h1
  · rename_i h1
    split at h
    · rename_i h2; exact absurd h h2
    · rename_i h2
      have hn : op ≠ 1 ∧ op ≠ 2 ∧ op ≠ 3 ∧ op ≠ 4 ∧ op ≠ 9 ∧ op ≠ 5 ∧ op ≠ 6 := by omega
      unfold dM at h
      split at h
      · rename_i h3; exact absurd h h3
      · rename_i h3
        have h3 : bX (cq op on wB) = 0 := by simpa using h3
        have e : (cq op on wB).op = op := rfl
        rw [e, if_neg hn.1, if_neg hn.2.1, if_neg hn.2.2.1, if_neg hn.2.2.2.1, if_neg hn.2.2.2.2.1, if_pos (by omega)] at h
        have hf : cW [⟨wB, b⟩] (cq op on wB).table = some b := by
          show cW [⟨wB, b⟩] wB = some b
          simp [cW]
        unfold eN at h
        rw [hf] at h
        dsimp only at h
        unfold kt at h
        rw [e, show (cq op on wB).cols = on from rfl] at h
        split at h
        · cases h
        · split at h
          · rename_i h4; exact absurd h h4
          · rename_i h4
            split at h
            · rename_i h5; exact absurd h h5
            · rename_i h5
              split at h
              · rename_i h6; exact absurd h h6
              · rename_i h6
                refine ⟨by simpa using h1, by simpa using h2, kB (by simpa using h4), fm (by simpa using h5), fm (by simpa using h6), ?_⟩
                unfold bX at h3
                split at h3
                · cases h3
                · rw [e, if_neg hn.1, if_neg hn.2.1, if_neg hn.2.2.1, if_neg hn.2.2.2.1, if_neg hn.2.2.2.2.2.1, if_neg hn.2.2.2.2.1] at h3
                  split at h3
                  · cases h3
                  · exact ki h3
structure uS (a : bh) (on : List ByteArray) : Prop where
  ga : bg a = 0
  ons : ∀ s ∈ on, ∃ i c, ct a.cols s = some i ∧ a.cols[i]? = some c
  fr : ∃ i c, ct a.cols aJ = some i ∧ a.cols[i]? = some c ∧ c.type = 2
  to : ∃ i c, ct a.cols bA = some i ∧ a.cols[i]? = some c ∧ c.type = 2
  len : on.length ≤ 16
theorem uR {on : List ByteArray} {a : bh} (h : (gx 9 on a).2 = 0) : uS a on := by
  unfold gx at h
  split at h
  · rename_i h1; exact absurd h h1
  · rename_i h1
    unfold dM at h
    split at h
    · rename_i h3; exact absurd h h3
    · rename_i h3
      have h3 : bX (cq 9 on (B #[])) = 0 := by simpa using h3
      have e : (cq 9 on (B #[])).op = 9 := rfl
      rw [e, if_neg (by decide), if_neg (by decide), if_neg (by decide), if_neg (by decide), if_pos rfl] at h
      unfold ie at h
      rw [show (cq 9 on (B #[])).cols = on from rfl] at h
      split at h
      · cases h
      · split at h
        · rename_i h4; exact absurd h h4
        · rename_i h4
          split at h
          · rename_i h5; exact absurd h h5
          · rename_i h5
            split at h
            · rename_i h6; exact absurd h h6
            · rename_i h6
              refine ⟨by simpa using h1, nS (by simpa using h4), jW (by simpa using h5), jW (by simpa using h6), ?_⟩
              unfold bX at h3
              split at h3
              · cases h3
              · rw [e, if_neg (by decide), if_neg (by decide), if_neg (by decide), if_neg (by decide), if_neg (by decide)] at h3
                try rw [if_pos rfl] at h3
                exact ki h3
theorem nA : ∀ {cols : List Col} {r : List aA}, cV cols r = 0 → ∀ (i : Nat) (c : Col) (v : aA), cols[i]? = some c → r[i]? = some v → bG c.type v = 0
  | [], _, _, i, c, v, h, _ => by simp at h
  | _ :: _, [], _, i, c, v, _, h => by simp at h
  | d :: cols, w :: r, h, i, c, v, h1, h2 => by
    simp only [cV] at h
    split at h
    · rename_i h3; exact absurd h h3
    · rename_i h3
      cases i with
      | zero => simp at h1 h2; subst h1; subst h2; simpa using h3
      | succ i => exact nA h i c v (by simpa using h1) (by simpa using h2)
theorem pc {cols : List Col} : ∀ {l : List (List aA)}, eh cols l = 0 → ∀ r ∈ l, r.length = cols.length ∧ ∀ (i : Nat) (c : Col) (v : aA), cols[i]? = some c → r[i]? = some v → bG c.type v = 0
  | [], _, r, hr => by cases hr
  | x :: l, h, r, hr => by
    simp only [eh] at h
    split at h
    · cases h
    · rename_i h1
      split at h
      · rename_i h2; exact absurd h h2
      · rename_i h2
        rcases List.mem_cons.1 hr with rfl | hr
        · exact ⟨by simpa using h1, nA (by simpa using h2)⟩
        · exact pc h r hr
theorem eC {t : bh} (h : bg t = 0) : ∀ r ∈ t.rows, r.length = t.cols.length ∧ ∀ (i : Nat) (c : Col) (v : aA), t.cols[i]? = some c → r[i]? = some v → bG c.type v = 0 := by
  unfold bg at h
  split at h
  · cases h
  · split at h
    · rename_i h2; exact absurd h h2
    · exact pc h
theorem fz {r : List aA} {i : Nat} (h : i < r.length) : r[i]? = some (a9 r i) := by
  unfold a9
  rw [List.getD_eq_getElem?_getD, List.getElem?_eq_getElem h]; rfl
theorem lN {t : bh} (h : bg t = 0) {r : List aA} (hr : r ∈ t.rows) {i : Nat} {c : Col} (hc : t.cols[i]? = some c) : i < r.length ∧ bG c.type (a9 r i) = 0 := by
  obtain ⟨h1, h2⟩ := eC h r hr
  have hi : i < r.length := by rw [h1]; exact (List.getElem?_eq_some_iff.1 hc).1
  exact ⟨hi, h2 i c _ hc (fz hi)⟩
theorem s8 {k : Int} {v : aA} (h : bG k v = 0) : v = eY ∨ (v.kind = k ∧ 1 ≤ k ∧ k ≤ 3 ∧ (k ≠ 3 → v.s = B #[]) ∧ (k = 3 → v.n = 0) ∧ (k = 2 → la v.n = true)) := by
  obtain ⟨a, n, s⟩ := v
  unfold bG at h
  dsimp only at h
  split at h
  · cases h
  · rename_i h1
    split at h
    · cases h
    · rename_i h2
      split at h
      · cases h
      · split at h
        · cases h
        · rename_i h4
          by_cases q : a = 0
          · left
            subst q
            have e1 : s = B #[] := Classical.byContradiction fun e => h4 (.inl ⟨by decide, e⟩)
            have e2 : n = 0 := Classical.byContradiction fun e => h4 (.inr ⟨.inl rfl, e⟩)
            rw [e1, e2]
            rfl
          · right
            have e3 : ¬ (a ≠ k ∨ k < 1 ∨ 3 < k) := fun e => h1 ⟨q, e⟩
            have e4 : a = k := by omega
            subst e4
            refine ⟨rfl, by omega, by omega, fun e => ?_, fun e => ?_, fun e => ?_⟩
            · exact Classical.byContradiction fun e2 => h4 (.inl ⟨e, e2⟩)
            · exact Classical.byContradiction fun e2 => h4 (.inr ⟨.inr e, e2⟩)
            · cases q2 : la n with
              | true => rfl
              | false => exact absurd (.inr ⟨e, q2⟩) h2
end Go.Tb
namespace Go.Tb
open Go.Ab
@[reducible] def nc (i : Nat) : List D := ic (i : Int)
theorem kK (not : List ByteArray) : ∀ (cols : List Col) (i : Nat), ∀ k ∈ cI not cols i, i ≤ k ∧ k < i + cols.length
  | [], _, k, h => by simp [cI] at h
  | c :: r, i, k, h => by
    simp only [cI] at h
    split at h
    · have := kK not r (i + 1) k h
      simp; omega
    · rcases List.mem_cons.1 h with rfl | h
      · simp
      · have := kK not r (i + 1) k h
        simp; omega
theorem cv {cols : List Col} {s : ByteArray} {i : Nat} (h : ct cols s = some i) : bY cols s = i := by unfold bY; rw [h]; rfl
structure xf (o : je) (n m : Nat) : Prop where
  left : ∀ i ∈ o.left, i < n
  right : ∀ i ∈ o.right, i < m
  m0 : o.m0 < n
  m1 : o.m1 < n
  t0 : o.t0 < m
  t1 : o.t1 < m
  more : ∀ i ∈ o.more, i < m
theorem xb {a b : bh} {on : List ByteArray} (h : ud a b on (aI 7)) : xf (bu a b on) a.cols.length b.cols.length := by
  have e : aI 7 = [aJ, bA] := rfl
  rw [e] at h
  refine ⟨fun i hi => ?_, fun i hi => ?_, ?_, ?_, ?_, ?_, fun i hi => ?_⟩
  · obtain ⟨s, hs, rfl⟩ := List.mem_map.1 hi
    obtain ⟨i, j, c, d, h1, h2, h3, h4, _⟩ := h.ons s hs
    rw [cv h1]; exact (List.getElem?_eq_some_iff.1 h3).1
  · obtain ⟨s, hs, rfl⟩ := List.mem_map.1 hi
    obtain ⟨i, j, c, d, h1, h2, h3, h4, _⟩ := h.ons s hs
    rw [cv h2]; exact (List.getElem?_eq_some_iff.1 h4).1
  · obtain ⟨i, c, h1, h2, _⟩ := h.spa aJ (by simp)
    show bY a.cols aJ < _
    rw [cv h1]; exact (List.getElem?_eq_some_iff.1 h2).1
  · obtain ⟨i, c, h1, h2, _⟩ := h.spa bA (by simp)
    show bY a.cols bA < _
    rw [cv h1]; exact (List.getElem?_eq_some_iff.1 h2).1
  · obtain ⟨i, c, h1, h2, _⟩ := h.spb aJ (by simp)
    show bY b.cols aJ < _
    rw [cv h1]; exact (List.getElem?_eq_some_iff.1 h2).1
  · obtain ⟨i, c, h1, h2, _⟩ := h.spb bA (by simp)
    show bY b.cols bA < _
    rw [cv h1]; exact (List.getElem?_eq_some_iff.1 h2).1
  · have := kK _ b.cols 0 i hi
    omega
theorem eO {cols : List Col} {l : List ByteArray} (h : ∀ s ∈ l, ∃ i, ct cols s = some i) : (l.map fun s => ic (idx (ct cols s))) = (l.map (bY cols)).map nc := by
  rw [List.map_map]
  apply List.map_congr_left
  intro s hs
  obtain ⟨i, hi⟩ := h s hs
  show ic (idx (ct cols s)) = ic ((bY cols s : Nat) : Int)
  rw [cv hi, hi]
  rfl
theorem nF {r : List aA} {i : Nat} {n : Int} : (r.map aA.c).set i (gl (a9 r i).c 1 [ci n]) = (fE r i n).map aA.c := by
  unfold fE
  rw [List.map_set]
  rfl
theorem eF (r : List aA) (i : Nat) (n : Int) : (fE r i n).length = r.length := by unfold fE; simp
end Go.Tb
namespace Go.Tb
section
variable {α : Type} [Inhabited α]
def el (l : List α) (k : Nat) : α := l.getD k default
theorem j8 {l : List α} {i k : Nat} {x : α} (hi : i < l.length) : el (l.set i x) k = if k = i then x else el l k := by
  unfold el
  rw [List.getD_eq_getElem?_getD, List.getElem?_set, List.getD_eq_getElem?_getD]
  by_cases h : i = k
  · subst h; simp [hi]
  · rw [if_neg h, if_neg (fun e => h e.symm)]
theorem nQ {l : List α} {k : Nat} (h : k < l.length) : l[k]? = some (el l k) := by
  unfold el
  rw [List.getD_eq_getElem?_getD, List.getElem?_eq_getElem h]; rfl
def dT (l : List α) (i j : Nat) : List α := (l.set i (el l j)).set j (el l i)
theorem dy (l : List α) (i j : Nat) : (dT l i j).length = l.length := by unfold dT; simp
theorem uk {l : List α} {i j k : Nat} (hi : i < l.length) (hj : j < l.length) : el (dT l i j) k = if k = j then el l i else if k = i then el l j else el l k := by
  unfold dT
  rw [j8 (by simpa using hj), j8 hi]
theorem sm {l : List α} {i j : Nat} (hi : i < l.length) (hj : j < l.length) : (dT l i j).Perm l := by
  unfold dT
  have h1 := nQ hi
  have h2 := nQ hj
  rw [List.getElem?_eq_getElem hi] at h1
  rw [List.getElem?_eq_getElem hj] at h2
  rw [← Option.some.inj h1, ← Option.some.inj h2]
  exact List.set_set_perm hi hj
variable (lt : α → α → Bool)
def jj (l : List α) (a b : Nat) : Prop := ∀ i j, a ≤ i → i < j → j < b → lt (el l j) (el l i) = false
structure wY : Prop where
  asymm : ∀ x y, lt x y = true → lt y x = false
  trans : ∀ x y z, lt y x = false → lt z y = false → lt z x = false
structure bW (l l' : List α) (a b : Nat) : Prop where
  len : l'.length = l.length
  perm : l'.Perm l
  out : ∀ k, k < a ∨ b ≤ k → el l' k = el l k
theorem bW.refl (l : List α) (a b : Nat) : bW l l a b := ⟨rfl, .refl _, fun _ _ => rfl⟩
theorem bW.trans {l l' l2 : List α} {a b : Nat} (h : bW l l' a b) (h2 : bW l' l2 a b) : bW l l2 a b :=
  ⟨h2.len.trans h.len, h2.perm.trans h.perm, fun k hk => (h2.out k hk).trans (h.out k hk)⟩
theorem bW.mono {l l' : List α} {a b a' b' : Nat} (h : bW l l' a b) (ha : a' ≤ a) (hb : b ≤ b') : bW l l' a' b' :=
  ⟨h.len, h.perm, fun k hk => h.out k (by omega)⟩
theorem bW.swap {l : List α} {i j a b : Nat} (hi : i < l.length) (hj : j < l.length) (h1 : a ≤ i) (h2 : i < b) (h3 : a ≤ j) (h4 : j < b) : bW l (dT l i j) a b :=
  ⟨dy l i j, sm hi hj, fun k hk => by rw [uk hi hj, if_neg (by omega), if_neg (by omega)]⟩
theorem jj.out {l l' : List α} {a b c d : Nat} (h : jj lt l a b) (ht : bW l l' c d) (hd : b ≤ c ∨ d ≤ a) : jj lt l' a b := fun i j h1 h2 h3 => by
  rw [ht.out i (by omega), ht.out j (by omega)]
  exact h i j h1 h2 h3
def iq (l : List α) (a : Nat) : Nat → List α
  | 0 => l
  | j + 1 => if a < j + 1 then (if lt (el l (j + 1)) (el l j) = true then iq (dT l (j + 1) j) a j else l) else l
def iY (l : List α) (a : Nat) : Nat → Nat → List α
  | 0, _ => l
  | c + 1, i => iY (iq lt l a i) a c (i + 1)
def eQ (l : List α) (a b : Nat) : List α := iY lt l a (b - (a + 1)) (a + 1)
theorem mE (a : Nat) : ∀ (j : Nat) (l : List α), j < l.length → bW l (iq lt l a j) a (j + 1)
  | 0, l, _ => .refl _ _ _
  | j + 1, l, h => by
    unfold iq
    split
    · split
      · exact (bW.swap h (by omega) (by omega) (by omega) (by omega) (by omega)).trans ((mE a j (dT l (j + 1) j) (by rw [dy]; omega)).mono (Nat.le_refl _) (by omega))
      · exact .refl _ _ _
    · exact .refl _ _ _
theorem kZ (a : Nat) : ∀ (c i : Nat) (l : List α), i + c ≤ l.length → bW l (iY lt l a c i) a (i + c)
  | 0, i, l, _ => .refl _ _ _
  | c + 1, i, l, h => by
    have h1 := mE lt a i l (by omega)
    have h2 := kZ a c (i + 1) (iq lt l a i) (by rw [h1.len]; omega)
    rw [show i + 1 + c = i + (c + 1) by omega] at h2
    exact (h1.mono (Nat.le_refl _) (by omega)).trans h2
theorem fW {l : List α} {a b : Nat} (h : b ≤ l.length) : bW l (eQ lt l a b) a b := by
  unfold eQ
  rcases Nat.lt_or_ge a b with hab | hab
  · have := kZ lt a (b - (a + 1)) (a + 1) l (by omega)
    rw [show a + 1 + (b - (a + 1)) = b by omega] at this
    exact this
  · rw [show b - (a + 1) = 0 by omega]
    exact .refl _ _ _
end
end Go.Tb
namespace Go.Tb
section
variable {α : Type} [Inhabited α]
def de (l : List α) (a b : Nat) : Nat → Nat → List α
  | 0, _ => l
  | c + 1, i => de (dT l (a + i) (b + i)) a b c (i + 1)
theorem eM {a b lo hi : Nat} : ∀ (c i : Nat) (l : List α), a + i + c ≤ l.length → b + i + c ≤ l.length → lo ≤ a → lo ≤ b → a + i + c ≤ hi → b + i + c ≤ hi → bW l (de l a b c i) lo hi
  | 0, i, l, _, _, _, _, _, _ => .refl _ _ _
  | c + 1, i, l, h1, h2, h3, h4, h5, h6 => by
    unfold de
    exact (bW.swap (by omega) (by omega) (by omega) (by omega) (by omega) (by omega)).trans (eM c (i + 1) _ (by rw [dy]; omega) (by rw [dy]; omega) h3 h4 (by omega) (by omega))
def gI : Nat → List α → Nat → Nat → Nat → List α
  | 0, l, _, _, _ => l
  | f + 1, l, m, i, j => if i = j then de l (m - i) m i 0 else if j < i then gI f (de l (m - i) m j 0) m (i - j) j else gI f (de l (m - i) (m + j - i) i 0) m i (j - i)
theorem iU {lo hi : Nat} : ∀ (f : Nat) (l : List α) (m i j : Nat), i ≤ m → m + j ≤ l.length → lo ≤ m - i → m + j ≤ hi → bW l (gI f l m i j) lo hi
  | 0, l, m, i, j, _, _, _, _ => .refl _ _ _
  | f + 1, l, m, i, j, h1, h2, h3, h4 => by
    unfold gI
    split
    · exact eM i 0 l (by omega) (by omega) (by omega) (by omega) (by omega) (by omega)
    · split
      · have h5 : bW l (de l (m - i) m j 0) lo hi := eM j 0 l (by omega) (by omega) (by omega) (by omega) (by omega) (by omega)
        exact h5.trans (iU f _ m (i - j) j (by omega) (by rw [h5.len]; omega) (by omega) h4)
      · have h5 : bW l (de l (m - i) (m + j - i) i 0) lo hi := eM i 0 l (by omega) (by omega) (by omega) (by omega) (by omega) (by omega)
        exact h5.trans (iU f _ m i (j - i) (by omega) (by rw [h5.len]; omega) (by omega) (by omega))
def pt (l : List α) : Nat → Nat → List α
  | 0, _ => l
  | c + 1, k => pt (dT l k (k + 1)) c (k + 1)
def oO (l : List α) : Nat → Nat → List α
  | 0, _ => l
  | c + 1, k => oO (dT l k (k - 1)) c (k - 1)
theorem pa {lo hi : Nat} : ∀ (c k : Nat) (l : List α), k + c < l.length → lo ≤ k → k + c < hi → bW l (pt l c k) lo hi
  | 0, _, _, _, _, _ => .refl _ _ _
  | c + 1, k, l, h1, h2, h3 => by
    unfold pt
    exact (bW.swap (by omega) (by omega) (by omega) (by omega) (by omega) (by omega)).trans (pa c (k + 1) _ (by rw [dy]; omega) (by omega) (by omega))
theorem pj {lo hi : Nat} : ∀ (c k : Nat) (l : List α), k < l.length → lo + c ≤ k → k < hi → bW l (oO l c k) lo hi
  | 0, _, _, _, _, _ => .refl _ _ _
  | c + 1, k, l, h1, h2, h3 => by
    unfold oO
    exact (bW.swap (by omega) (by omega) (by omega) (by omega) (by omega) (by omega)).trans (pj c (k - 1) _ (by rw [dy]; omega) (by omega) (by omega))
def dU (p : Nat → Bool) : Nat → Nat → Nat → Nat
  | 0, i, _ => i
  | f + 1, i, j => if i < j then (if p ((i + j) / 2) = true then dU p f ((i + j) / 2 + 1) j else dU p f i ((i + j) / 2)) else i
theorem j9 (p : Nat → Bool) : ∀ (f i j : Nat), i ≤ dU p f i j
  | 0, i, _ => Nat.le_refl _
  | f + 1, i, j => by
    unfold dU
    split
    · split
      · exact Nat.le_trans (by omega) (j9 p f _ j)
      · exact j9 p f i _
    · exact Nat.le_refl _
theorem j0 {p : Nat → Bool} : ∀ {f i j : Nat}, i ≤ j → dU p f i j ≤ j
  | 0, i, j, h => h
  | f + 1, i, j, h => by
    unfold dU
    split
    · split
      · exact j0 (by omega)
      · exact Nat.le_trans (j0 (f := f) (by omega)) (by omega)
    · exact h
variable (lt : α → α → Bool)
def dH : Nat → List α → Nat → Nat → Nat → List α
  | 0, l, _, _, _ => l
  | f + 1, l, a, m, b =>
    if m - a = 1 then pt l (dU (fun h => lt (el l h) (el l a)) (b - m + 1) m b - 1 - a) a
    else if b - m = 1 then oO l (m - dU (fun h => !lt (el l m) (el l h)) (m - a + 1) a m) m
    else
      let mid := (a + b) / 2
      let n := mid + m
      let s0 := if mid < m then n - b else a
      let r0 := if mid < m then mid else m
      let start := dU (fun c => !lt (el l (n - 1 - c)) (el l c)) (r0 - s0 + 1) s0 r0
      let e := n - start
      let l1 := if start < m ∧ m < e then gI (m - start + (e - m)) l m (m - start) (e - m) else l
      let l2 := if a < start ∧ start < mid then dH f l1 a start mid else l1
      if mid < e ∧ e < b then dH f l2 mid e b else l2
end
end Go.Tb
namespace Go.Tb
section
variable {α : Type} [Inhabited α] (lt : α → α → Bool)
theorem eD : ∀ (f : Nat) (l : List α) (a m b : Nat), a < m → m < b → b ≤ l.length → bW l (dH lt f l a m b) a b
  | 0, l, _, _, _, _, _, _ => .refl _ _ _
  | f + 1, l, a, m, b, h1, h2, h3 => by
    unfold dH
    split
    · rename_i e
      obtain ⟨q1, q2, _, _⟩ | hz : (m ≤ dU (fun h => lt (el l h) (el l a)) (b - m + 1) m b ∧ dU (fun h => lt (el l h) (el l a)) (b - m + 1) m b ≤ b ∧ True ∧ True) ∨ False := by
        left
        exact ⟨j9 _ _ _ _, j0 (by omega), trivial, trivial⟩
      · exact pa _ _ _ (by omega) (Nat.le_refl _) (by omega)
      · exact hz.elim
    · split
      · have q1 := j9 (fun h => !lt (el l m) (el l h)) (m - a + 1) a m
        have q2 := j0 (p := fun h => !lt (el l m) (el l h)) (f := m - a + 1) (i := a) (j := m) (by omega)
        exact pj _ _ _ (by omega) (by omega) (by omega)
      · rename_i e1 e2
        dsimp only
        generalize hs0 : (if (a + b) / 2 < m then (a + b) / 2 + m - b else a) = s0
        generalize hr0 : (if (a + b) / 2 < m then (a + b) / 2 else m) = r0
        have hle : s0 ≤ r0 := by subst hs0 hr0; split <;> omega
        have hs1 : a ≤ s0 := by subst hs0; split <;> omega
        have hr1 : r0 ≤ m ∧ r0 ≤ (a + b) / 2 ∨ r0 = m ∧ m ≤ (a + b) / 2 := by subst hr0; split <;> omega
        have g1 := j9 (fun c => !lt (el l ((a + b) / 2 + m - 1 - c)) (el l c)) (r0 - s0 + 1) s0 r0
        have g2 := j0 (p := fun c => !lt (el l ((a + b) / 2 + m - 1 - c)) (el l c)) (f := r0 - s0 + 1) (i := s0) (j := r0) hle
        generalize hst : dU (fun c => !lt (el l ((a + b) / 2 + m - 1 - c)) (el l c)) (r0 - s0 + 1) s0 r0 = start at g1 g2 ⊢
        have hsb : (a + b) / 2 + m - start ≤ b := by subst hs0; split at g1 <;> omega
        have t1 : bW l (if start < m ∧ m < (a + b) / 2 + m - start then gI (m - start + ((a + b) / 2 + m - start - m)) l m (m - start) ((a + b) / 2 + m - start - m) else l) a b := by
          split
          · exact iU _ _ _ _ _ (by omega) (by omega) (by omega) (by omega)
          · exact .refl _ _ _
        generalize (if start < m ∧ m < (a + b) / 2 + m - start then gI (m - start + ((a + b) / 2 + m - start - m)) l m (m - start) ((a + b) / 2 + m - start - m) else l) = l1 at t1 ⊢
        have t2 : bW l1 (if a < start ∧ start < (a + b) / 2 then dH lt f l1 a start ((a + b) / 2) else l1) a b := by
          split
          · exact (eD f l1 a start _ (by omega) (by omega) (by rw [t1.len]; omega)).mono (Nat.le_refl _) (by omega)
          · exact .refl _ _ _
        generalize (if a < start ∧ start < (a + b) / 2 then dH lt f l1 a start ((a + b) / 2) else l1) = l2 at t2 ⊢
        have t3 : bW l2 (if (a + b) / 2 < (a + b) / 2 + m - start ∧ (a + b) / 2 + m - start < b then dH lt f l2 ((a + b) / 2) ((a + b) / 2 + m - start) b else l2) a b := by
          split
          · exact (eD f l2 _ _ b (by omega) (by omega) (by rw [t2.len, t1.len]; omega)).mono (by omega) (Nat.le_refl _)
          · exact .refl _ _ _
        exact (t1.trans t2).trans t3
end
end Go.Tb
namespace Go.Tb
section
variable {α : Type} [Inhabited α] (lt : α → α → Bool) (n : Nat)
def kU : Nat → List α → Nat → List α
  | 0, l, _ => l
  | f + 1, l, a => if a + 20 ≤ n then kU f (eQ lt l a (a + 20)) (a + 20) else eQ lt l a n
def kA (bs : Nat) : Nat → List α → Nat → List α
  | 0, l, _ => l
  | f + 1, l, a => if a + 2 * bs ≤ n then kA bs f (dH lt n l a (a + bs) (a + 2 * bs)) (a + 2 * bs) else if a + bs < n then dH lt n l a (a + bs) n else l
def lp : Nat → List α → Nat → List α
  | 0, l, _ => l
  | f + 1, l, bs => if bs < n then lp f (kA lt n bs (n + 1) l 0) (2 * bs) else l
def dK (l : List α) : List α := lp lt l.length (l.length + 1) (kU lt l.length (l.length + 1) l 0) 20
def oS (l : List α) (bs lo hi : Nat) : Prop := ∀ i j, lo ≤ i → i < j → j < hi → i / bs = j / bs → lt (el l j) (el l i) = false
theorem rZ {bs i j q : Nat} (hb : 0 < bs) (h : i / bs = j / bs) (hj : q * bs ≤ j) : q * bs ≤ i := by
  have h1 : q ≤ j / bs := (Nat.le_div_iff_mul_le hb).2 hj
  rw [← h] at h1
  exact (Nat.le_div_iff_mul_le hb).1 h1
theorem pQ {bs i q : Nat} (h1 : q * bs ≤ i) (h2 : i < q * bs + bs) : i / bs = q :=
  Nat.div_eq_of_lt_le h1 (by rw [Nat.succ_mul]; exact h2)
theorem oS.sorted {l : List α} {bs lo hi q : Nat} (h : oS lt l bs lo hi) (h1 : lo ≤ q * bs) {b : Nat} (h2 : b ≤ q * bs + bs) (h3 : b ≤ hi) : jj lt l (q * bs) b := fun i j p1 p2 p3 =>
  h i j (by omega) p2 (by omega) (by rw [pQ p1 (by omega), pQ (show q * bs ≤ j by omega) (by omega)])
theorem oS.add {l : List α} {bs q b : Nat} (hb : 0 < bs) (h : oS lt l bs 0 (q * bs)) (hs : jj lt l (q * bs) b) : oS lt l bs 0 b := fun i j p1 p2 p3 p4 => by
  rcases Nat.lt_or_ge j (q * bs) with hj | hj
  · exact h i j p1 p2 hj p4
  · exact hs i j (rZ hb p4 hj) p2 p3
theorem oS.out {l l' : List α} {bs lo hi a b : Nat} (h : oS lt l bs lo hi) (ht : bW l l' a b) (hd : hi ≤ a ∨ b ≤ lo) : oS lt l' bs lo hi := fun i j p1 p2 p3 p4 => by
  rw [ht.out i (by omega), ht.out j (by omega)]
  exact h i j p1 p2 p3 p4
variable (hw : wY lt)
theorem nq : ∀ (f : Nat) (l : List α) (a : Nat), n ≤ l.length → a ≤ n → bW l (kU lt n f l a) 0 n
  | 0, l, _, _, _ => .refl _ _ _
  | f + 1, l, a, h1, h2 => by
    unfold kU
    split
    · have t := fW lt (l := l) (a := a) (b := a + 20) (by omega)
      exact (t.mono (by omega) (by omega)).trans (nq f _ _ (by rw [t.len]; omega) (by omega))
    · exact (fW lt (by omega)).mono (by omega) (Nat.le_refl _)
theorem nW {bs : Nat} (hb : 0 < bs) : ∀ (f : Nat) (l : List α) (a : Nat), n ≤ l.length → a ≤ n → bW l (kA lt n bs f l a) 0 n
  | 0, l, _, _, _ => .refl _ _ _
  | f + 1, l, a, h1, h2 => by
    unfold kA
    split
    · have t := eD lt n l a (a + bs) (a + 2 * bs) (by omega) (by omega) (by omega)
      exact (t.mono (by omega) (by omega)).trans (nW hb f _ _ (by rw [t.len]; omega) (by omega))
    · split
      · exact (eD lt n l a (a + bs) n (by omega) (by omega) (by omega)).mono (by omega) (Nat.le_refl _)
      · exact .refl _ _ _
theorem nl : ∀ (f : Nat) (l : List α) (bs : Nat), 0 < bs → n ≤ l.length → bW l (lp lt n f l bs) 0 n
  | 0, l, _, _, _ => .refl _ _ _
  | f + 1, l, bs, hb, h1 => by
    unfold lp
    split
    · have t := nW lt n hb (n + 1) l 0 h1 (by omega)
      exact t.trans (nl f _ _ (by omega) (by rw [t.len]; omega))
    · exact .refl _ _ _
theorem fX (l : List α) : bW l (dK lt l) 0 l.length := by
  have t := nq lt l.length (l.length + 1) l 0 (Nat.le_refl _) (Nat.zero_le _)
  exact t.trans (nl lt l.length _ _ 20 (by omega) (by rw [t.len]; exact Nat.le_refl _))
end
end Go.Tb
namespace Go.Ab
open Go.RowKit
section
variable {P : Program} (T : b7 P) {C : Ctx} {n : Nat} {ops : Array Oper}
variable {f : List (Nat × A)} {bx : List (Nat × List A)} {lv : List Nat} {gen : Nat} {ty : TypeId} {pos : String} {af : Array Edge} {dst : Option Nat}
theorem wM {t e m : Nat} {x y : Operand} {td ed : bP} {k1 k2 : IntKind} (hx : av f x = some (.d (.v (.int k1 (m : Int))))) (hy : av f y = some (.d (.v (.int k2 (m : Int))))) (ht : au T.l t = some td) (hk : td.k = .slice e) (he : au T.l e = some ed)
    (hz : Nat.blt 0 ed.n = true) (hb : (ed.b : Int) * (m : Int) ≤ 281474976710656) (hm : m ≤ maxLen) : Pu P C n ⟨f, bx, lv, gen⟩ ⟨dst, .makeSlice t x y, ty, pos, af, none⟩ (.d (.sl (List.replicate m (ed.z.map D.v)))) := by
  have hz := Nat.le_of_ble_eq_true hz
  intro G tmps w hs
  have hu := T.dk ht hk
  obtain ⟨i, z, hi, hin, hib, hiz, hzc, hzl, hzk, _⟩ := T.info he
  have hzs : z.cells.size = ed.n := by rw [← hzl, ← hzc]; simp
  have hrx := hs.av hx
  have hry := hs.av hy
  generalize hvx : Act.eval ⟨tmps, []⟩ x = vx at hrx
  generalize hvy : Act.eval ⟨tmps, []⟩ y = vy at hry
  cases hrx with | d hrx => cases hrx with | v _ _ =>
  cases hry with | d hry => cases hry with | v _ _ =>
  have hrun := run_make (P := P) w t e i z hu hi hiz k1 k2 (m : Int) (m : Int) (Int.natCast_nonneg _) (Int.le_refl _) (by rw [hib]; exact hb) (by simp only [maxLen] at hm; omega)
  simp only [Int.toNat_natCast] at hrun
  have hbl : Below w.heap.size w (w.alloc (.cells (madeCells z.cells (m * i.size)) e)) := (Below.refl _ w).alloc (Nat.le_refl _) _
  obtain ⟨hle, hs'⟩ := hs.gF hbl
  refine cB (v := .slice (some ⟨w.heap.size, 0, none⟩) m m) (w' := w.alloc (.cells (madeCells z.cells (m * i.size)) e)) ?_ ⟨hbl, .d ?_⟩
  · unfold execOp
    show Sem.run P _ w = .ok _ _
    simp only [hvx, hvy, Sem.run_bind, hrun, Result.andThen_ok, Sem.run_pure]
  · rcases Nat.eq_zero_or_pos m with h0 | hpos
    · subst h0
      exact .emp _ 0 (by simp)
    · have := ba.ofRow (w := w.alloc (.cells (madeCells z.cells (m * i.size)) e)) (pv := bo C G) (b := w.heap.size) (cap := m) (sz := ed.n) (es := List.replicate m (ed.z.map D.v)) (heap_alloc_new w _) (by simp) hm
        (fun x hx => by rw [List.eq_of_mem_replicate hx, List.length_map, hzl]) (fun t _ hp => by have := nn hs hp; omega) (fun k j e' d hk hj => by
          have hkm : k < m := by have := (List.getElem?_eq_some_iff.1 hk).1; simpa using this
          have he' := List.eq_of_mem_replicate (List.mem_of_getElem? hk)
          subst he'
          rw [List.getElem?_map, Option.map_eq_some_iff] at hj
          obtain ⟨u, hu, rfl⟩ := hj
          have hjn : j < ed.n := by rw [← hzl]; exact (List.getElem?_eq_some_iff.1 hu).1
          refine ⟨u, ?_, .v _ (List.all_eq_true.1 hzk u (List.mem_of_getElem? hu))⟩
          unfold madeCells
          rw [Array.getElem?_map, Array.getElem?_range, if_pos (by rw [hin]; exact oe hkm hjn), Option.map_some]
          have e1 : (k * ed.n + j) % z.cells.size = j := by rw [hzs, Nat.mul_comm, Nat.mul_add_mod, Nat.mod_eq_of_lt hjn]
          rw [e1, getElem!_pos z.cells j (by rw [hzs]; exact hjn)]
          rw [← hzc] at hu
          congr 1
          simpa using (List.getElem?_eq_some_iff.1 hu).2)
      rw [List.length_replicate] at this
      exact this
end
end Go.Ab
namespace Go.Ab
theorem lL : ∀ (l m : List A), du (l ++ m) = (du l && du m)
  | [], m => by simp [du]
  | a :: l, m => by simp [du, lL l m, Bool.and_assoc]
theorem pU : ∀ l : List D, du (l.map A.d) = true
  | [] => rfl
  | d :: l => by simp [du, eR, pU l]
theorem oh : ∀ k : Nat, du (List.replicate k A.any) = true
  | 0 => rfl
  | k + 1 => by simp [List.replicate_succ, du, eR, oh k]
theorem a0 (o : List Nat) (es : List (List D)) (k : Nat) : eg o (aU es k) = aU es k :=
  ep o _ (by unfold aU; rw [lL, pU, oh]; rfl)
theorem su (gs : List Nat) (m : Nat) (es : List (List D)) (k : Nat) : il gs m (aU es k) = aU es k := by
  rw [ey]
  unfold aU
  rw [List.map_append, List.map_map, List.map_replicate]
  rfl
theorem sO (bx : List (Nat × List A)) (gs os : List Nat) (n : Nat) (es : List (List D)) (k : Nat) : (aU es k).map (dh bx gs os (n + 1)) = aU es k := by
  unfold aU
  rw [List.map_append, List.map_map, List.map_replicate]
  rfl
theorem gK {order : List Nat} {bx : List (Nat × List A)} {es : List (List D)} {k : Nat} (h : au bx 0 = some (aU es k)) : oD order bx 0 [aU es k] := by
  refine ⟨?_, trivial⟩
  rw [h]
  show some (eg order (aU es k)) = _
  rw [a0]
section
variable {P : Program} {C : Ctx} {n : Nat} {ops : Array Oper} {Q : Exit → St → Prop} {rest : List Oper}
variable {f : List (Nat × A)} {bx : List (Nat × List A)} {lv : List Nat} {gen : Nat} {d : Nat} {ty : TypeId} {pos : String} {af : Array Edge}
theorem fT [dZ P] [GC P C] {x : Operand} {xs : Array Operand} {tys : Array TypeId} {fid : FuncId} {caps as' args : List A} {es es' : List (List D)} {k : Nat} (g : Nat) (hx : av f x = some (.clo fid caps)) (hxs : gT f xs.toList = some as')
    (harg : (as' ++ caps).map (dh bx [g] [] 5) = args) (hb : au bx g = some (aU es k)) (hf : cU P fid args [aU es k] 0 (.tup []) [aU es' k] 0) (hd : Nat.blt d n = true)
    (h : WO P C n ops Q rest ⟨(d, .tup []) :: f, (g, aU es' k) :: bx, lv, gen + 1⟩) :
    WO P C n ops Q (⟨some d, .call ⟨.value x, xs, tys⟩, ty, pos, af, none⟩ :: rest) ⟨f, bx, lv, gen⟩ := by
  refine iN [g] [] hx hxs harg (b0 := [aU es k]) (by simp only [gN, hb]; rw [sO]) rfl hf rfl rfl rfl hd rfl (bx' := (g, aU es' k) :: bx) (by simp only [gM]; rw [su]; rfl) (lv' := lv) (by simp) (gen' := gen + 1) (by show 1 + 0 + gen = gen + 1; omega) h
end
end Go.Ab
namespace Go.Ab
open Go.RowKit
section
variable {P : Program} (T : b7 P) {C : Ctx} {n : Nat} {ops : Array Oper} {Q : Exit → St → Prop} {rest : List Oper}
variable {f : List (Nat × A)} {bx : List (Nat × List A)} {lv : List Nat} {gen : Nat} {d : Nat} {op : Op} {ty : TypeId} {pos : String} {af : Array Edge} {a : A} {dst : Option Nat} {c : Code}
theorem eV.same {w : World} {pv : Nat → Nat → Prop} {r : Row} {v v' : Value} {es es' : List (List D)} (h : eV w pv r v es) (h' : eV w pv r v' es') : v = v' := by
  cases r with
  | nil => exact h.1.trans h'.1.symm
  | zero b => exact h.1.trans h'.1.symm
  | blk b len cap sz pub => exact h.1.trans h'.1.symm
  | mp b => exact h.elim
end
end Go.Ab
namespace Go.Ab
open Go.RowKit
mutual
def jl (g : Nat) : A → Bool
  | .ptr g' _ => !Nat.beq g' g
  | .np g' _ _ => !Nat.beq g' g
  | .sb g' _ _ => !Nat.beq g' g
  | .agg l => js g l
  | .tup l => js g l
  | .row l => js g l
  | .clo _ l => js g l
  | .bnd _ l => js g l
  | _ => true
def js (g : Nat) : List A → Bool
  | [] => true
  | a :: l => jl g a && js g l
end
theorem gf {g : Nat} : ∀ {l : List A}, js g l = true → ∀ a ∈ l, jl g a = true
  | [], _, a, ha => by cases ha
  | b :: l, h, a, ha => by
    simp only [js, Bool.and_eq_true] at h
    cases ha with
    | head => exact h.1
    | tail _ ha => exact gf h.2 a ha
theorem aQ.forget {E E' : En} {g : Nat} (hw : E.w = E'.w) (hc : ∀ b o u, cellAt E.w b o = some u → ¬ E.pv b o → cellAt E'.w b o = some u ∧ ¬ E'.pv b o) (hold : ∀ b, E.old b → E'.old b) (hb : ∀ g' b, g' ≠ g → E.box g' = some b → E'.box g' = some b) (ho : E'.own = E.own) (hg : E'.gen = E.gen)
    {v : Value} {a : A} (h : aQ E v a) (ha : jl g a = true) : aQ E' v a := by
  have hne : ∀ {g'}, (!Nat.beq g' g) = true → g' ≠ g := fun h e => by subst e; simp at h
  have hc' : ∀ b o u, cellAt E.w b o = some u → ¬ E.pv b o → cellAt E.w b o = some u ∧ ¬ E'.pv b o := fun b o u h1 h2 => ⟨h1, (hc b o u h1 h2).2⟩
  induction h with
  | any x => exact .any x
  | d hd => exact .d (hd.mono hc)
  | ag vs l hs hd => exact .ag vs l hs (fun i u x h1 h2 => (hd i u x h1 h2).mono hc)
  | own x g' es hd hgg hr => exact .own x g' es (hd.mono hc) (by rw [hg]; exact hgg) (fun r hr' => hr r (by rw [← ho]; exact hr'))
  | agg vs l hs hone _ ih => exact .agg vs l hs hone (fun i u x hu hx => ih i u x hu hx (gf (by simpa [jl] using ha) x (List.mem_of_getElem? hx)))
  | tup vs l hs _ ih => exact .tup vs l hs (fun i u x hu hx => ih i u x hu hx (gf (by simpa [jl] using ha) x (List.mem_of_getElem? hx)))
  | rowd b off l u hcc hd => exact .rowd b off l u (fun j hj => hc _ _ _ (hcc j hj).1 (hcc j hj).2) (fun j x hx => (hd j x hx).mono hc)
  | row b off l u hcc _ ih => exact .row b off l u (fun j hj => ⟨by rw [← hw]; exact (hcc j hj).1, hold _ (hcc j hj).2.1, (hcc j hj).2.2⟩) (fun j x hx => ih j x hx (gf (by simpa [jl] using ha) x (List.mem_of_getElem? hx)))
  | ptr x g' off b hgg hb0 hp => exact .ptr x g' off b (by rw [hg]; exact hgg) (hb g' b (hne (by simpa [jl] using ha)) hb0) hp
  | xs x g' es hgg h1 hx => exact .xs x g' es (by rw [hg]; exact hgg) h1 (fun r hr' => hw ▸ (hx r (by rw [← ho]; exact hr')).gX hc')
  | xp x g' i off l hgg h1 hx => exact .xp x g' i off l (by rw [hg]; exact hgg) h1 (fun r hr' => hw ▸ (hx r (by rw [← ho]; exact hr')).gX hc')
  | mp x g' es hgg h1 hx => exact .mp x g' es (by rw [hg]; exact hgg) h1 (fun r hr' => hw ▸ (hx r (by rw [← ho]; exact hr')).gX hc')
  | ni t x => exact .ni t x
  | fl x es hd hfl => exact .fl x es (hd.mono hc) hfl
  | bf x g' T s hgg h1 hx => exact .bf x g' T s (by rw [hg]; exact hgg) h1 (fun r hr' => hw ▸ hx r (by rw [← ho]; exact hr'))
  | np x g' T b hgg hb0 hT u hp => exact .np x g' T b (by rw [hg]; exact hgg) (hb g' b (hne (by simpa [jl] using ha)) hb0) (hw ▸ hT) u hp
  | sb x g' n c b hgg hb0 hn hp => exact .sb x g' n c b (by rw [hg]; exact hgg) (hb g' b (hne (by simpa [jl] using ha)) hb0) hn hp
  | clo f vs l hs _ ih => exact .clo f vs l hs (fun i u x hu hx => ih i u x hu hx (gf (by simpa [jl] using ha) x (List.mem_of_getElem? hx)))
  | bnd f vs l hs _ ih => exact .bnd f vs l hs (fun i u x hu hx => ih i u x hu hx (gf (by simpa [jl] using ha) x (List.mem_of_getElem? hx)))
def lB (g : Nat) : List Nat → List (Nat × A) → List (Nat × A)
  | _, [] => []
  | seen, (s, a) :: r => bif seen.any (Nat.beq s) then lB g seen r else bif jl g a then (s, a) :: lB g (s :: seen) r else lB g (s :: seen) r
theorem jN {g : Nat} : ∀ {f : List (Nat × A)} {seen : List Nat} {t : Nat} {a : A}, look (lB g seen f) t = some a → look f t = some a ∧ jl g a = true ∧ t ∉ seen
  | [], _, t, a, h => by simp [lB, look] at h
  | (s, b) :: r, seen, t, a, h => by
    simp only [lB] at h
    cases q : seen.any (Nat.beq s) with
    | true =>
      rw [q] at h
      simp only [cond_true] at h
      obtain ⟨h1, h2, h3⟩ := jN h
      have hm : s ∈ seen := by
        obtain ⟨y, hy, hb⟩ := List.any_eq_true.1 q
        rw [Nat.eq_of_beq_eq_true hb]; exact hy
      refine ⟨?_, h2, h3⟩
      rw [bd]
      rw [if_neg (fun e : s = t => h3 (e ▸ hm))]
      exact h1
    | false =>
      rw [q] at h
      simp only [cond_false] at h
      have hm : s ∉ seen := fun hm => by
        have : seen.any (Nat.beq s) = true := List.any_eq_true.2 ⟨s, hm, by simp⟩
        rw [q] at this; cases this
      cases q2 : jl g b with
      | true =>
        rw [q2] at h
        simp only [cond_true] at h
        rw [bd] at h
        split at h
        · rename_i e
          subst e
          cases h
          exact ⟨by rw [bd, if_pos rfl], q2, hm⟩
        · rename_i e
          obtain ⟨h1, h2, h3⟩ := jN h
          exact ⟨by rw [bd, if_neg e]; exact h1, h2, fun hh => h3 (List.mem_cons_of_mem _ hh)⟩
      | false =>
        rw [q2] at h
        simp only [cond_false] at h
        obtain ⟨h1, h2, h3⟩ := jN h
        exact ⟨by rw [bd, if_neg (fun e : s = t => h3 (e ▸ List.mem_cons_self))]; exact h1, h2, fun hh => h3 (List.mem_cons_of_mem _ hh)⟩
def mP (g : Nat) : List Nat → List (Nat × List A) → Option (List (Nat × List A))
  | _, [] => some []
  | seen, (s, c) :: r => bif seen.any (Nat.beq s) then mP g seen r else bif Nat.beq s g then mP g (s :: seen) r else bif js g c then (match mP g (s :: seen) r with | some l => some ((s, c) :: l) | none => none) else none
theorem fM {α : Type} {f : List (Nat × α)} {s t : Nat} {a : α} : au ((s, a) :: f) t = if s = t then some a else au f t := by
  rw [bJ]
theorem jL {g : Nat} : ∀ {f f' : List (Nat × List A)} {seen : List Nat} {t : Nat} {a : List A}, mP g seen f = some f' → au f' t = some a → au f t = some a ∧ js g a = true ∧ t ≠ g ∧ t ∉ seen
  | [], f', _, t, a, hc, h => by simp [mP] at hc; subst hc; simp [au] at h
  | (s, b) :: r, f', seen, t, a, hc, h => by
    simp only [mP] at hc
    cases q : seen.any (Nat.beq s) with
    | true =>
      rw [q] at hc
      simp only [cond_true] at hc
      obtain ⟨h1, h2, h3, h4⟩ := jL hc h
      have hm : s ∈ seen := by
        obtain ⟨y, hy, hb⟩ := List.any_eq_true.1 q
        rw [Nat.eq_of_beq_eq_true hb]; exact hy
      exact ⟨by rw [fM, if_neg (fun e : s = t => h4 (e ▸ hm))]; exact h1, h2, h3, h4⟩
    | false =>
      rw [q] at hc
      simp only [cond_false] at hc
      have hm : s ∉ seen := fun hm => by
        have : seen.any (Nat.beq s) = true := List.any_eq_true.2 ⟨s, hm, by simp⟩
        rw [q] at this; cases this
      cases q1 : Nat.beq s g with
      | true =>
        rw [q1] at hc
        simp only [cond_true] at hc
        obtain ⟨h1, h2, h3, h4⟩ := jL hc h
        exact ⟨by rw [fM, if_neg (fun e : s = t => h4 (e ▸ List.mem_cons_self))]; exact h1, h2, h3, fun hh => h4 (List.mem_cons_of_mem _ hh)⟩
      | false =>
        rw [q1] at hc
        simp only [cond_false] at hc
        cases q2 : js g b with
        | false => rw [q2] at hc; cases hc
        | true =>
          rw [q2] at hc
          simp only [cond_true] at hc
          split at hc
          · rename_i l hl
            simp only [Option.some.injEq] at hc
            subst hc
            rw [fM] at h
            split at h
            · rename_i e
              subst e
              cases h
              exact ⟨by rw [fM, if_pos rfl], q2, fun e => by subst e; simp at q1, hm⟩
            · rename_i e
              obtain ⟨h1, h2, h3, h4⟩ := jL hl h
              exact ⟨by rw [fM, if_neg e]; exact h1, h2, h3, fun hh => h4 (List.mem_cons_of_mem _ hh)⟩
          · cases hc
section
variable {P : Program} (T : b7 P) {C : Ctx} {n : Nat} {ops : Array Oper} {Q : Exit → St → Prop} {rest : List Oper}
variable {f f' : List (Nat × A)} {bx bx' : List (Nat × List A)} {lv : List Nat} {gen : Nat} {d : Nat} {op : Op} {ty : TypeId} {pos : String} {af : Array Edge} {a : A} {dst : Option Nat} {c : Code}
theorem pS [hnb : NB C 0] (s : Nat) {g m cap sz k : Nat} {es : List (List D)} (hl : look f s = some (.sb g m cap)) (hb : au bx g = some (aU es k)) (hsn : Nat.blt s n = true) (hm : es.length = m) (hls : ∀ (x : List D), x ∈ es → x.length = sz) (hf : lB g [] f = f') (hbx : mP g [] bx = some bx')
    (h : W P C n c Q ⟨(s, .d (.sl es)) :: f', bx', lv, gen⟩) : W P C n c Q ⟨f, bx, lv, gen⟩ := by
  subst hf; subst hm
  intro tmps w ⟨G, hs⟩
  obtain ⟨v, hv, hr⟩ := hs.frame _ _ hl
  obtain ⟨b, cs, T', hgb, hw, h3, h4, h5⟩ := hs.box _ _ hb
  cases hr with
  | sb _ _ _ _ b' hgg hb' hn hx =>
  have hb' : G.box g = some b' := hb'
  rw [hgb] at hb'
  cases hb'
  let G' : Gh := ⟨fun x => if x = g then none else G.box x, G.own⟩
  have hpv : ∀ b' o, bo C G' b' o → bo C G b' o := by
    rintro b' o (hp | ⟨g', hp⟩ | hp)
    · exact .inl hp
    · simp only [G'] at hp
      split at hp
      · cases hp
      · exact .inr (.inl ⟨g', hp⟩)
    · exact .inr (.inr hp)
  have hnot : ∀ o, ¬ bo C G' b o := by
    rintro o (hp | ⟨g', hp⟩ | ⟨g', len, cap, sz, pub, hp, _⟩)
    · have := hs.xold b o hp
      rcases (hs.gbox g b hgb).2.2.1 with hm | hm
      · omega
      · exact this.2 hm
    · simp only [G'] at hp
      split at hp
      · cases hp
      · rename_i e; exact e (hs.inj g' g b hp hgb)
    · exact (hs.row g' b len cap sz pub hp).2.1 g hgb
  have hrep : ∀ {v : Value} {a : A}, aQ (az C G gen w) v a → jl g a = true → aQ (az C G' gen w) v a := fun h ha =>
    aQ.forget (E := az C G gen w) (E' := az C G' gen w) rfl (fun b o u hu hn => ⟨hu, fun hp => hn (hpv b o hp)⟩) (fun b h => h) (fun g' b hne hb => by show (if g' = g then none else G.box g') = some b; rw [if_neg hne]; exact hb) rfl rfl h ha
  have hs' : aL C n ⟨lB g [] f, bx', lv, gen⟩ G' tmps w := by
    refine { size := hs.size, frame := ?_, box := ?_, gbox := ?_, inj := ?_, live := hs.live, gown := hs.gown, row := ?_, mrow := ?_, xold := hs.xold, kold := hs.kold, lent := ?_, fr := hs.fr }
    · intro t a ha
      obtain ⟨h1, h2, _⟩ := jN ha
      obtain ⟨v, hv, hr⟩ := hs.frame t a h1
      exact ⟨v, hv, hrep hr h2⟩
    · intro g' cells hc
      obtain ⟨h1, h2, h6, _⟩ := jL hbx hc
      obtain ⟨b2, cs2, T2, p1, p2, p3, p4, p5⟩ := hs.box g' cells h1
      exact ⟨b2, cs2, T2, by simp only [G']; rw [if_neg h6]; exact p1, p2, p3, p4, fun i u a hu ha => hrep (p5 i u a hu ha) (gf h2 a (List.mem_of_getElem? ha))⟩
    · intro g' b2 hb2
      simp only [G'] at hb2
      split at hb2
      · cases hb2
      · exact hs.gbox g' b2 hb2
    · intro g1 g2 b2 h1 h2
      simp only [G'] at h1 h2
      split at h1
      · cases h1
      · split at h2
        · cases h2
        · exact hs.inj g1 g2 b2 h1 h2
    · intro g' b2 len cap sz pub hr
      obtain ⟨p1, p2, p3⟩ := hs.row g' b2 len cap sz pub hr
      refine ⟨p1, fun g2 h2 => ?_, p3⟩
      simp only [G'] at h2
      split at h2
      · cases h2
      · exact p2 g2 h2
    · intro g' b2 hr
      obtain ⟨p1, p2, p3⟩ := hs.mrow g' b2 hr
      refine ⟨p1, fun g2 h2 => ?_, p3⟩
      simp only [G'] at h2
      split at h2
      · cases h2
      · exact p2 g2 h2
    · intro i b2 hb2
      have := hnb.h
      have hi := (List.getElem?_eq_some_iff.1 hb2).1
      omega
  have hdata : aQ (az C G' gen w) v (.d (.sl es)) := by
    rw [hx]
    have hfl := gV hls
    have hcell : ∀ i j (e : List D) (y : D), es[i]? = some e → e[j]? = some y → ∃ u, cs[i * sz + j]? = some u ∧ ba w (bo C G') u y := fun i j e y hi hj => by
      have hfg := ik hls i j e y hi hj
      have hlt : i * sz + j < es.flatten.length := (List.getElem?_eq_some_iff.1 hfg).1
      have hc : (aU es k)[i * sz + j]? = some (.d y) := by
        unfold aU
        rw [List.getElem?_append_left (by rw [List.length_map]; exact hlt), List.getElem?_map, hfg]; rfl
      have hj' : i * sz + j < cs.size := by rw [h3]; exact (List.getElem?_eq_some_iff.1 hc).1
      have e1 : cs[i * sz + j]? = some cs[i * sz + j] := by simp [hj']
      have := hrep (h5 _ _ _ e1 hc) rfl
      generalize cs[i * sz + j] = u at this e1
      cases this with | d hd => exact ⟨u, e1, hd⟩
    refine .d ?_
    exact ba.ofRow hw hn.1 hn.2 hls (fun t _ => hnot t) hcell
  refine h tmps w ⟨G', ?_⟩
  have := hs'.set (d := s) (Nat.le_of_ble_eq_true hsn) hdata
  rwa [fZ hv] at this
theorem uF {es : List (List D)} {sz i k off : Nat} {e cs : List D} (hl : ∀ (x : List D), x ∈ es → x.length = sz) (he : es[i]? = some e) (hc : off + cs.length ≤ sz) : setAt (aU es k) (i * sz + off) (cs.map A.d) = aU (es.set i (gl e off cs)) k := by
  have hel := hl e (List.mem_of_getElem? he)
  have h1 : (gl e off cs).length = sz := by rw [pY (by omega)]; exact hel
  rw [← pW (k := k) hl he h1]
  obtain ⟨r, hr⟩ := pn (k := k) hl he
  have hp : i * sz ≤ (aU es k).length := by
    rw [mY hl]
    have hi : i < es.length := (List.getElem?_eq_some_iff.1 he).1
    have : i * sz ≤ es.length * sz := Nat.mul_le_mul_right _ (by omega)
    omega
  have hsplit : aU es k = (aU es k).take (i * sz) ++ (e.map A.d ++ r) := by rw [← hr, List.take_append_drop]
  generalize (aU es k).take (i * sz) = X at hsplit
  have hX : X.length = i * sz := by
    have := congrArg List.length hsplit
    have h2 := congrArg List.length hr
    rw [List.length_drop] at h2
    simp at this h2
    omega
  rw [hsplit]
  unfold setAt gl
  have e1 : (X ++ (e.map A.d ++ r)).take (i * sz + off) = X ++ (e.map A.d).take off := by
    rw [← hX, List.take_append]
    simp
    rw [List.take_append_of_le_length (by simp; omega), List.take_of_length_le (by omega)]
  have e2 : (X ++ (e.map A.d ++ r)).drop (i * sz + off + (cs.map A.d).length) = (e.map A.d).drop (off + cs.length) ++ r := by
    rw [← hX, List.length_map, Nat.add_assoc, List.drop_append]
    simp
    rw [List.drop_append_of_le_length (by simp; omega), List.drop_eq_nil_of_le (by omega), List.nil_append]
  have e3 : (X ++ (e.map A.d ++ r)).take (i * sz) = X := by rw [← hX, List.take_left]
  have e4 : (X ++ (e.map A.d ++ r)).drop (i * sz + ((e.take off ++ cs ++ e.drop (off + cs.length)).map A.d).length) = r := by
    have : ((e.take off ++ cs ++ e.drop (off + cs.length)).map A.d).length = (e.map A.d).length := by simp; omega
    rw [this, ← hX, ← List.drop_drop, List.drop_left, List.drop_left]
  rw [e1, e2, e3, e4]
  simp [List.map_take, List.map_drop]
theorem qu {t : TypeId} {x y : Operand} {g i k p sz off : Nat} {es : List (List D)} {e cs : List D} (hx : av f x = some (.ptr g p)) (hp : p = i * sz + off) (hb : au bx g = some (aU es k)) (ha : av f y = some a) (hcs : cellsOf bx a = some (cs.map A.d)) (hl : ∀ (x : List D), x ∈ es → x.length = sz) (he : es[i]? = some e)
    (hc : off + cs.length ≤ sz) (hsz : cb T t = cs.length) (hz : cs.length ≠ 0) {es' : List (List D)} (hes : es.set i (gl e off cs) = es')
    (h : WO P C n ops Q rest ⟨f, (g, aU es' k) :: bx, lv, gen⟩) : WO P C n ops Q (⟨none, .store t x y, ty, pos, af, none⟩ :: rest) ⟨f, bx, lv, gen⟩ := by
  subst hp
  have hi : i < es.length := (List.getElem?_eq_some_iff.1 he).1
  refine WO.store (st := ⟨f, bx, lv, gen⟩) T rfl rfl rfl hx hb ha hcs (by rw [List.length_map]; exact hsz) (by rw [List.length_map]; exact hz) ?_ ?_
  · apply Nat.ble_eq_true_of_le
    rw [List.length_map, mY hl]
    have : (i + 1) * sz ≤ es.length * sz := Nat.mul_le_mul_right _ hi
    rw [Nat.succ_mul] at this
    omega
  · rw [uF hl he hc, hes]
    exact h
end
end Go.Ab
namespace Go.Tb
open Go.Ab
structure rm where
  left : List Nat
  right : List Nat
  m : Nat
  t : Nat
  more : List Nat
def kV (o : rm) (x y : List aA) : Bool := decide ((a9 x o.m).kind = 0) || (decide ((a9 y o.t).kind = 0) || (decide ((a9 x o.m).n < (a9 y o.t).n) || !fe (be x o.left) (be y o.right)))
def fb (bs : List (List aA)) (i : Nat) : List aA := bs.getD i []
def jz (o : rm) (bs : List (List aA)) (x : List aA) : List (List aA) → Nat → Option Nat → Option Nat
  | [], _, b => b
  | y :: r, k, b => if kV o x y = true then jz o bs x r (k + 1) b else
      if idx b < 0 ∨ (a9 (fb bs (idx b).toNat) o.t).n ≤ (a9 y o.t).n then jz o bs x r (k + 1) (some k) else jz o bs x r (k + 1) b
def sP (o : rm) (bs : List (List aA)) (b : Option Nat) : List aA := match b with
  | none => List.replicate o.more.length eY
  | some i => be (fb bs i) o.more
def iK (o : rm) (bs : List (List aA)) (x : List aA) : List aA := x ++ sP o bs (jz o bs x bs 0 none)
def wx (a b : bh) (on : List ByteArray) : rm := ⟨on.map (bY a.cols), on.map (bY b.cols), bY a.cols aJ, bY b.cols aJ, cI (on ++ [aJ]) b.cols 0⟩
def e6 (a b : bh) (on : List ByteArray) : bh × Int :=
  if (dc 8 on a b).2 ≠ 0 then (fJ, (dc 8 on a b).2) else (⟨(dc 8 on a b).1, a.rows.map (iK (wx a b on) b.rows)⟩, 0)
structure xl (o : rm) (n m : Nat) : Prop where
  left : ∀ i ∈ o.left, i < n
  right : ∀ i ∈ o.right, i < m
  mm : o.m < n
  tt : o.t < m
  more : ∀ i ∈ o.more, i < m
theorem w7 {a b : bh} {on : List ByteArray} (h : ud a b on (aI 8)) : xl (wx a b on) a.cols.length b.cols.length := by
  have e : aI 8 = [aJ] := rfl
  rw [e] at h
  refine ⟨fun i hi => ?_, fun i hi => ?_, ?_, ?_, fun i hi => ?_⟩
  · obtain ⟨s, hs, rfl⟩ := List.mem_map.1 hi
    obtain ⟨i, j, c, d, h1, h2, h3, h4, _⟩ := h.ons s hs
    rw [cv h1]; exact (List.getElem?_eq_some_iff.1 h3).1
  · obtain ⟨s, hs, rfl⟩ := List.mem_map.1 hi
    obtain ⟨i, j, c, d, h1, h2, h3, h4, _⟩ := h.ons s hs
    rw [cv h2]; exact (List.getElem?_eq_some_iff.1 h4).1
  · obtain ⟨i, c, h1, h2, _⟩ := h.spa aJ (by simp)
    show bY a.cols aJ < _
    rw [cv h1]; exact (List.getElem?_eq_some_iff.1 h2).1
  · obtain ⟨i, c, h1, h2, _⟩ := h.spb aJ (by simp)
    show bY b.cols aJ < _
    rw [cv h1]; exact (List.getElem?_eq_some_iff.1 h2).1
  · have := kK _ b.cols 0 i hi
    omega
theorem qf {bs : List (List aA)} {i : Nat} (h : i < bs.length) : bs[i]? = some (fb bs i) := by
  unfold fb
  rw [List.getD_eq_getElem?_getD, List.getElem?_eq_getElem h]; rfl
end Go.Tb
namespace Go.Ab
section
variable {P : Program} {C : Ctx} {n : Nat} {Q : Exit → St → Prop}
variable {f : List (Nat × A)} {bx : List (Nat × List A)} {lv : List Nat} {gen : Nat} {c : Code}
theorem sg (s : Nat) {g : Nat} {es : List (List D)} (hl : look f s = some (.own g es)) (hsn : Nat.blt s n = true) (h : W P C n c Q ⟨(s, .d (.sl es)) :: f, bx, lv, gen⟩) : W P C n c Q ⟨f, bx, lv, gen⟩ := by
  intro tmps w ⟨G, hs⟩
  obtain ⟨v, hv, hr⟩ := hs.frame s _ hl
  cases hr with
  | own _ _ _ hd _ _ =>
  refine h tmps w ⟨G, ?_⟩
  have := hs.set (d := s) (Nat.le_of_ble_eq_true hsn) (.d hd)
  rwa [fZ hv] at this
end
end Go.Ab
namespace Go.Tb
open Go.Ab
structure w6 (left : List Nat) (m0 m1 n : Nat) : Prop where
  left : ∀ i ∈ left, i < n
  m0 : m0 < n
  m1 : m1 < n
theorem vV {a : bh} {on : List ByteArray} (h : uS a on) : w6 (on.map (bY a.cols)) (bY a.cols aJ) (bY a.cols bA) a.cols.length := by
  refine ⟨fun i hi => ?_, ?_, ?_⟩
  · obtain ⟨s, hs, rfl⟩ := List.mem_map.1 hi
    obtain ⟨i, c, h1, h2⟩ := h.ons s hs
    rw [cv h1]; exact (List.getElem?_eq_some_iff.1 h2).1
  · obtain ⟨i, c, h1, h2, _⟩ := h.fr
    rw [cv h1]; exact (List.getElem?_eq_some_iff.1 h2).1
  · obtain ⟨i, c, h1, h2, _⟩ := h.to
    rw [cv h1]; exact (List.getElem?_eq_some_iff.1 h2).1
end Go.Tb
namespace Go.Ab
section
variable {P : Program} {C : Ctx} {n : Nat} {ops : Array Oper} {Q : Exit → St → Prop} {rest : List Oper}
variable {f : List (Nat × A)} {bx : List (Nat × List A)} {lv : List Nat} {gen : Nat}
end
end Go.Ab
namespace Go.Tb
open Go.Ab
deriving instance DecidableEq for bh
def cH (n : Int) : aA := ⟨2, n, B #[]⟩
def l7 (s : ByteArray) : aA := ⟨3, 0, s⟩
def eB (s : ByteArray) : Col := ⟨s, if s = B #[107] then 3 else 2⟩
def jc : List (List aA) → Int → Int
  | [], n => n
  | r :: l, n => if n ≤ 600 then jc l (IntKind.i64.wrap (IntKind.i64.wrap (n + 1) + (r.length : Int))) else n
def ja (t : bh) : Bool := decide (jc t.rows (t.cols.length : Int) ≤ 600) && decide ((t.cols.length : Int) ≤ 40)
def nx (a b : bh) (on : List ByteArray) : Bool := ja a && (ja b && decide ((on.length : Int) ≤ 40))
theorem uE {a b : bh} {on : List ByteArray} (h : nx a b on = true) : on.length ≤ 40 ∧ a.cols.length ≤ 40 ∧ b.cols.length ≤ 40 := by
  simp only [nx, ja, Bool.and_eq_true, decide_eq_true_eq] at h
  omega
end Go.Tb
namespace Go.Tb
open Go.Ab
end Go.Tb
namespace Go.Tb
open Go.Ab
end Go.Tb
namespace Go.Tb
open Go.Ab
theorem sy {v : aA} (h : bG 2 v = 0) (hk : v.kind = 2) : v.s = B #[] := by
  rcases s8 h with rfl | ⟨_, _, _, h3, _⟩
  · exact absurd hk (by decide)
  · exact h3 (by decide)
theorem u9 {r : List aA} {i j : Nat} {v : aA} (hj : j < r.length) : a9 (r.set i v) j = if i = j then v else a9 r j := by
  unfold a9
  rw [List.getD_eq_getElem?_getD, List.getD_eq_getElem?_getD, List.getElem?_set]
  by_cases q : i = j
  · subst q; simp [hj]
  · simp [q]
theorem pK {r m : List aA} {i : Nat} (h : i < r.length) : a9 (r ++ m) i = a9 r i := by
  unfold a9
  rw [List.getD_eq_getElem?_getD, List.getD_eq_getElem?_getD, List.getElem?_append_left h]
end Go.Tb
namespace Go.Tb
open Go.Ab
theorem rB : ∀ (l r : List Col) (k : Nat), l.drop k = r → (eX l k r = false ↔ ∀ i j x y, k ≤ j → i < j → l[i]? = some x → l[j]? = some y → x.name ≠ y.name)
  | l, [], k, h => by
    simp only [eX, true_iff]
    intro i j x y hj _ _ hy
    have hlt := (List.getElem?_eq_some_iff.1 hy).1
    have := List.drop_eq_nil_iff.1 h
    omega
  | l, c :: r, k, h => by
    have hk : l[k]? = some c := by
      have : (l.drop k)[0]? = some c := by rw [h]; rfl
      simpa using this
    have hr : l.drop (k + 1) = r := by
      have : (l.drop k).drop 1 = r := by rw [h]; rfl
      rw [List.drop_drop] at this
      exact this
    have ih := rB l r (k + 1) hr
    simp only [eX, Bool.or_eq_false_iff, ih]
    constructor
    · rintro ⟨h1, h2⟩ i j x y hj hij hx hy
      rcases Nat.lt_or_ge k j with hlt | hge
      · exact h2 i j x y hlt hij hx hy
      · have : j = k := by omega
        subst this
        rw [hk] at hy
        simp only [Option.some.injEq] at hy
        subst hy
        intro he
        have hmem : x ∈ l.take j := by
          rw [List.mem_iff_getElem?]
          exact ⟨i, by rw [List.getElem?_take, if_pos hij]; exact hx⟩
        have := List.any_eq_false.1 h1 x hmem
        simp [he] at this
    · intro h1
      refine ⟨?_, fun i j x y hj => h1 i j x y (by omega)⟩
      rw [List.any_eq_false]
      intro x hx
      obtain ⟨i, hi⟩ := List.mem_iff_getElem?.1 hx
      rw [List.getElem?_take] at hi
      split at hi
      · rename_i hlt
        have := h1 i k x c (Nat.le_refl _) hlt hi hk
        simpa using this
      · cases hi
theorem iG {l : List Col} : eX l 0 l = false ↔ (l.map Col.name).Nodup := by
  rw [rB l l 0 rfl]
  constructor
  · intro h
    refine List.pairwise_iff_getElem.2 fun i j hi hj hij => ?_
    simp only [List.getElem_map]
    have hi' : i < l.length := by simpa using hi
    have hj' : j < l.length := by simpa using hj
    exact h i j _ _ (Nat.zero_le _) hij (by simp [hi']) (by simp [hj'])
  · intro h i j x y _ hij hx hy
    obtain ⟨hi, rfl⟩ := List.getElem?_eq_some_iff.1 hx
    obtain ⟨hj, rfl⟩ := List.getElem?_eq_some_iff.1 hy
    have := List.pairwise_iff_getElem.1 h i j (by simpa using hi) (by simpa using hj) hij
    simpa using this
def nY (c : Col) : Prop := ee c.name = 0 ∧ (c.type = 1 ∨ c.type = 2 ∨ c.type = 3)
theorem jS (all : List Col) : ∀ (l : List Col) (k : Nat), dI all k l = 0 ↔ (∀ c ∈ l, nY c) ∧ eX all k l = false
  | [], k => by simp [dI, eX]
  | c :: r, k => by
    have ih := jS all r (k + 1)
    simp only [dI, eX, List.mem_cons, Bool.or_eq_false_iff]
    have hb : en all k c = 0 ↔ nY c ∧ (all.take k).any (fun x => decide (x.name = c.name)) = false := by
      unfold en nY
      by_cases h1 : ee c.name = 0
      · rw [if_neg (by simp [h1])]
        by_cases h2 : (all.take k).any (fun x => decide (x.name = c.name)) = true
        · rw [if_pos h2]; simp [h2]
        · rw [if_neg h2]
          by_cases h3 : c.type ≠ 1 ∧ c.type ≠ 2 ∧ c.type ≠ 3
          · rw [if_pos h3]
            constructor
            · intro h; cases h
            · rintro ⟨⟨_, h⟩, _⟩; omega
          · rw [if_neg h3]
            exact ⟨fun _ => ⟨⟨h1, by omega⟩, by simpa using h2⟩, fun _ => rfl⟩
      · rw [if_pos h1]
        exact ⟨fun h => absurd h h1, fun h => absurd h.1.1 h1⟩
    by_cases h : en all k c = 0
    · rw [if_neg (by simp [h])]
      have := hb.1 h
      rw [ih]
      exact ⟨fun q => ⟨fun x hx => by rcases hx with rfl | hx; exact this.1; exact q.1 x hx, this.2, q.2⟩, fun q => ⟨fun x hx => q.1 x (.inr hx), q.2.2⟩⟩
    · rw [if_pos h]
      exact ⟨fun q => absurd q h, fun q => absurd (hb.2 ⟨q.1 c (.inl rfl), q.2.1⟩) h⟩
theorem kH {t : bh} (h : bg t = 0) : (∀ c ∈ t.cols, nY c) ∧ (t.cols.map Col.name).Nodup := by
  unfold bg at h
  split at h
  · cases h
  · split at h
    · rename_i h2; exact absurd h h2
    · rename_i h2
      have := (jS t.cols t.cols 0).1 (by simpa using h2)
      exact ⟨this.1, iG.1 this.2⟩
theorem my : ∀ {cols : List Col} {r : List aA}, (∀ (i : Nat) (c : Col) (v : aA), cols[i]? = some c → r[i]? = some v → bG c.type v = 0) → cV cols r = 0
  | [], _, _ => rfl
  | _ :: _, [], _ => rfl
  | c :: cols, v :: r, h => by
    simp only [cV]
    rw [if_neg (by simp [h 0 c v rfl rfl])]
    exact my fun i d w hd hw => h (i + 1) d w (by simpa using hd) (by simpa using hw)
theorem nU {cols : List Col} : ∀ {rows : List (List aA)}, (∀ x ∈ rows, x.length = cols.length ∧ cV cols x = 0) → eh cols rows = 0
  | [], _ => rfl
  | x :: r, h => by
    simp only [eh]
    have := h x (List.mem_cons_self ..)
    rw [if_neg (by simp [this.1]), if_neg (by simp [this.2])]
    exact nU fun y hy => h y (List.mem_cons_of_mem _ hy)
theorem wv {cols : List Col} {rows : List (List aA)} (hl : cols.length ≤ 32) (hr : rows.length ≤ 20000) (hc : ∀ c ∈ cols, nY c) (hn : (cols.map Col.name).Nodup) (hx : ∀ x ∈ rows, x.length = cols.length ∧ cV cols x = 0) : bg ⟨cols, rows⟩ = 0 := by
  unfold bg
  have h1 := (jS cols cols 0).2 ⟨hc, iG.2 hn⟩
  rw [if_neg (by dsimp only; omega), if_neg (by simp [h1])]
  exact nU hx
structure l6 (op : Int) (a b : bh) (on : List ByteArray) : Prop where
  ga : bg a = 0
  gb : bg b = 0
  st : bX (cq op on wB) = 0
  no : (aI op).any (fun n => on.any fun x => decide (n = x)) = false
  on_ : dg a.cols b.cols on = 0
  sa : cG a.cols (aI op) = 0
  sb : cG b.cols (aI op) = 0
  nd : ((a.cols ++ bm on (aI op) b.cols).map Col.name).Nodup
  len : (a.cols ++ bm on (aI op) b.cols).length ≤ 32
theorem lk {op : Int} (hop : op = 7 ∨ op = 8) {on : List ByteArray} {a b : bh} : (dc op on a b).2 = 0 ↔ l6 op a b on := by
  have hn : op ≠ 1 ∧ op ≠ 2 ∧ op ≠ 3 ∧ op ≠ 4 ∧ op ≠ 9 ∧ op ≠ 5 ∧ op ≠ 6 := by omega
  have e : (cq op on wB).op = op := rfl
  have ec : (cq op on wB).cols = on := rfl
  have hf : cW [⟨wB, b⟩] (cq op on wB).table = some b := by
    show cW [⟨wB, b⟩] wB = some b
    simp [cW]
  unfold dc
  by_cases h1 : bg a = 0
  case neg => rw [if_pos h1]; exact ⟨fun h => absurd h h1, fun h => absurd h.ga h1⟩
  rw [if_neg (by simp [h1])]
  by_cases h2 : bg b = 0
  case neg => rw [if_pos h2]; exact ⟨fun h => absurd h h2, fun h => absurd h.gb h2⟩
  rw [if_neg (by simp [h2])]
  unfold dM
  by_cases h3 : bX (cq op on wB) = 0
  case neg => rw [if_pos h3]; exact ⟨fun h => absurd h h3, fun h => absurd h.st h3⟩
  rw [if_neg (by simp [h3]), e, if_neg hn.1, if_neg hn.2.1, if_neg hn.2.2.1, if_neg hn.2.2.2.1, if_neg hn.2.2.2.2.1, if_pos (by omega)]
  unfold eN
  rw [hf]
  dsimp only
  unfold kt
  rw [e, ec]
  by_cases h4 : (aI op).any (fun n => on.any fun x => decide (n = x)) = true
  · rw [if_pos h4]; exact ⟨fun h => (by cases h), fun h => (by have := h.no; rw [h4] at this; cases this)⟩
  rw [if_neg h4]
  by_cases h5 : dg a.cols b.cols on = 0
  case neg => rw [if_pos h5]; exact ⟨fun h => absurd h h5, fun h => absurd h.on_ h5⟩
  rw [if_neg (by simp [h5])]
  by_cases h6 : cG a.cols (aI op) = 0
  case neg => rw [if_pos h6]; exact ⟨fun h => absurd h h6, fun h => absurd h.sa h6⟩
  rw [if_neg (by simp [h6])]
  by_cases h7 : cG b.cols (aI op) = 0
  case neg => rw [if_pos h7]; exact ⟨fun h => absurd h h7, fun h => absurd h.sb h7⟩
  rw [if_neg (by simp [h7])]
  unfold qa
  by_cases h8 : eX (a.cols ++ bm on (aI op) b.cols) 0 (a.cols ++ bm on (aI op) b.cols) = true
  · rw [if_pos h8]; exact ⟨fun h => (by cases h), fun h => (by have := iG.2 h.nd; rw [h8] at this; cases this)⟩
  rw [if_neg h8]
  by_cases h9 : 32 < (a.cols ++ bm on (aI op) b.cols).length
  · rw [if_pos h9]; exact ⟨fun h => (by cases h), fun h => absurd h.len (by omega)⟩
  rw [if_neg h9]
  exact ⟨fun _ => ⟨h1, h2, h3, by simpa using h4, h5, h6, h7, iG.1 (by simpa using h8), by omega⟩, fun _ => rfl⟩
theorem uj {op : Int} (hop : op = 7 ∨ op = 8) {on : List ByteArray} {a b : bh} (h : l6 op a b on) : dc op on a b = (a.cols ++ bm on (aI op) b.cols, 0) := by
  have hn : op ≠ 1 ∧ op ≠ 2 ∧ op ≠ 3 ∧ op ≠ 4 ∧ op ≠ 9 ∧ op ≠ 5 ∧ op ≠ 6 := by omega
  have e : (cq op on wB).op = op := rfl
  have ec : (cq op on wB).cols = on := rfl
  have hf : cW [⟨wB, b⟩] (cq op on wB).table = some b := by
    show cW [⟨wB, b⟩] wB = some b
    simp [cW]
  unfold dc
  rw [if_neg (by simp [h.ga]), if_neg (by simp [h.gb])]
  unfold dM
  rw [if_neg (by simp [h.st]), e, if_neg hn.1, if_neg hn.2.1, if_neg hn.2.2.1, if_neg hn.2.2.2.1, if_neg hn.2.2.2.2.1, if_pos (by omega)]
  unfold eN
  rw [hf]
  dsimp only
  unfold kt
  have := iG.2 h.nd
  rw [e, ec, if_neg (by simp [h.no]), if_neg (by simp [h.on_]), if_neg (by simp [h.sa]), if_neg (by simp [h.sb])]
  unfold qa
  rw [if_neg (by rw [this]; simp), if_neg (by have := h.len; omega)]
theorem lF (on spans : List ByteArray) : ∀ (cols : List Col) (k i : Nat), (cI (on ++ spans) cols k).length = (bm on spans cols).length ∧
    ∀ c, (bm on spans cols)[i]? = some c → ∃ j, (cI (on ++ spans) cols k)[i]? = some (k + j) ∧ cols[j]? = some c
  | [], k, i => by simp [cI, bm]
  | d :: r, k, i => by
    have ih := fun i => lF on spans r (k + 1) i
    have hc : (on ++ spans).any (fun x => decide (d.name = x)) = (on.any (fun x => decide (d.name = x)) || spans.any (fun x => decide (d.name = x))) := List.any_append
    by_cases q : (on ++ spans).any (fun x => decide (d.name = x)) = true
    · have hr : bm on spans (d :: r) = bm on spans r := by
        unfold bm
        rw [List.filter_cons, if_neg]
        rw [hc] at q
        revert q
        cases on.any (fun x => decide (d.name = x)) <;> cases spans.any (fun x => decide (d.name = x)) <;> simp
      simp only [cI, if_pos q, hr]
      refine ⟨(ih i).1, fun c h => ?_⟩
      obtain ⟨j, h1, h2⟩ := (ih i).2 c h
      exact ⟨j + 1, by rw [h1]; congr 1; omega, by simpa using h2⟩
    · have hr : bm on spans (d :: r) = d :: bm on spans r := by
        unfold bm
        rw [List.filter_cons, if_pos]
        rw [hc] at q
        revert q
        cases on.any (fun x => decide (d.name = x)) <;> cases spans.any (fun x => decide (d.name = x)) <;> simp
      simp only [cI, if_neg q, hr]
      refine ⟨by simp [(ih 0).1], fun c h => ?_⟩
      cases i with
      | zero => exact ⟨0, by simp, by simpa using h⟩
      | succ i =>
        obtain ⟨j, h1, h2⟩ := (ih i).2 c (by simpa using h)
        exact ⟨j + 1, by simp only [List.getElem?_cons_succ]; rw [h1]; congr 1; omega, by simpa using h2⟩
theorem vd {b : bh} (hb : bg b = 0) {y : List aA} (hy : y ∈ b.rows) (on spans : List ByteArray) : ∀ (i : Nat) (c : Col) (v : aA), (bm on spans b.cols)[i]? = some c → (be y (cI (on ++ spans) b.cols 0))[i]? = some v → bG c.type v = 0 := by
  intro i c v hc hv
  obtain ⟨j, h1, h2⟩ := (lF on spans b.cols 0 i).2 c hc
  unfold be at hv
  rw [List.getElem?_map, h1] at hv
  simp only [Option.map_some, Option.some.injEq, Nat.zero_add] at hv
  rw [← hv]
  exact (lN hb hy h2).2
theorem uD {on spans : List ByteArray} {cols : List Col} {c : Col} (h : c ∈ bm on spans cols) : c ∈ cols := (List.mem_filter.1 h).1
end Go.Tb
namespace Go.Tb
open Go.Ab
theorem tG (s a b : Int) : IntKind.i64.wrap (IntKind.i64.wrap (IntKind.i64.wrap s + a) - b) = IntKind.i64.wrap (s + (a - b)) := by
  simp only [wu]; omega
/-! pairs of rows that meet -/
def meets (o : je) (x y : List aA) : Bool := cr x o.m0 o.m1 && dS o x y
def gy (o : je) (bs : List (List aA)) : List (List aA) → List (List aA × List aA)
  | [] => []
  | x :: r => (bs.filter (meets o x)).map (fun y => (x, y)) ++ gy o bs r
theorem qL (o : je) (bs : List (List aA)) (x : List aA) (r : List (List aA)) : gy o bs (x :: r) = (bs.filter (meets o x)).map (fun y => (x, y)) ++ gy o bs r := Eq.trans rfl rfl
theorem rC {o : je} {bs : List (List aA)} : ∀ {as : List (List aA)} {q : List aA × List aA}, q ∈ gy o bs as → q.1 ∈ as ∧ q.2 ∈ bs ∧ meets o q.1 q.2 = true
  | [], q, h => by cases h
  | x :: r, q, h => by
    rcases List.mem_append.1 h with h | h
    · obtain ⟨y, hy, rfl⟩ := List.mem_map.1 h
      have := List.mem_filter.1 hy
      exact ⟨List.mem_cons_self .., this.1, this.2⟩
    · have := rC h
      exact ⟨List.mem_cons_of_mem _ this.1, this.2⟩
theorem ou (o : je) (x : List aA) : ∀ (bs out : List (List aA)), out.length ≤ 20000 →
    jZ o x bs out = if out.length + (bs.filter (dS o x)).length ≤ 20000 then some (out ++ (bs.filter (dS o x)).map (eS o x)) else none
  | [], out, h => by simp [jZ, h]
  | y :: r, out, h => by
    simp only [jZ]
    by_cases q : dS o x y = true
    · rw [if_pos q, List.filter_cons, if_pos q]
      by_cases q2 : out.length = 20000
      · rw [if_pos q2, if_neg (by simp; omega)]
      · rw [if_neg q2, ou o x r (out ++ [eS o x y]) (by simp; omega)]
        simp only [List.length_append, List.length_cons, List.length_nil, List.map_cons, List.append_assoc, List.cons_append, List.nil_append]
        have e : out.length + (0 + 1) + (r.filter (dS o x)).length = out.length + ((r.filter (dS o x)).length + 1) := by omega
        rw [e]
    · rw [if_neg q, List.filter_cons, if_neg q]
      exact ou o x r out h
theorem kF (o : je) (bs : List (List aA)) : ∀ (as out : List (List aA)), out.length ≤ 20000 →
    gG o bs as out = if out.length + (gy o bs as).length ≤ 20000 then some (out ++ (gy o bs as).map (fun q => eS o q.1 q.2)) else none
  | [], out, h => by simp [gG, gy, h]
  | x :: r, out, h => by
    rw [qL]
    simp only [gG]
    by_cases q : cr x o.m0 o.m1 = true
    · have e : bs.filter (meets o x) = bs.filter (dS o x) := List.filter_congr fun y _ => by simp [meets, q]
      rw [if_pos q, ou o x bs out h, e]
      by_cases q2 : out.length + (bs.filter (dS o x)).length ≤ 20000
      · rw [if_pos q2]
        dsimp only
        rw [kF o bs r _ (by simpa using q2)]
        simp only [List.length_append, List.length_map, List.map_append, List.map_map, List.append_assoc, Nat.add_assoc]
        rfl
      · rw [if_neg q2, if_neg (by simp; omega)]
    · have e : bs.filter (meets o x) = [] := by
        rw [List.filter_eq_nil_iff]
        intro y _
        simp [meets, q]
      rw [if_neg q, e]
      simpa using kF o bs r out h
/-! sums over pairs -/
theorem sum_add {α : Type} (f g : α → Int) : ∀ l : List α, (l.map fun x => f x + g x).sum = (l.map f).sum + (l.map g).sum
  | [] => rfl
  | x :: r => by simp only [List.map_cons, List.sum_cons, sum_add f g r]; omega
theorem pP {α : Type} : ∀ l : List α, (l.map fun _ => (0 : Int)).sum = 0
  | [] => rfl
  | _ :: r => by simp only [List.map_cons, List.sum_cons, pP r]; rfl
theorem pL {α β : Type} (f : α → β → Int) (bs : List β) : ∀ as : List α, (as.map fun x => (bs.map fun y => f x y).sum).sum = (bs.map fun y => (as.map fun x => f x y).sum).sum
  | [] => by simp only [List.map_nil, List.sum_nil]; exact (pP bs).symm
  | x :: r => by
    simp only [List.map_cons, List.sum_cons]
    rw [pL f bs r, ← sum_add]
theorem kM {α : Type} (p : α → Bool) (f : α → Int) : ∀ l : List α, ((l.filter p).map f).sum = (l.map fun x => if p x = true then f x else 0).sum
  | [] => rfl
  | x :: r => by
    rw [List.filter_cons]
    by_cases q : p x = true
    · simp only [if_pos q, List.map_cons, List.sum_cons, kM p f r]
    · simp only [if_neg q, List.map_cons, List.sum_cons, kM p f r]; omega
theorem oJ (o : je) (bs : List (List aA)) (f : List aA → List aA → Int) : ∀ as : List (List aA),
    ((gy o bs as).map fun q => f q.1 q.2).sum = (as.map fun x => (bs.map fun y => if meets o x y = true then f x y else 0).sum).sum
  | [] => rfl
  | x :: r => by
    rw [qL]
    simp only [List.map_append, List.map_map, List.map_cons, List.sum_cons, List.sum_append, oJ o bs f r]
    congr 1
    exact kM (meets o x) (f x) bs
theorem sf {α β : Type} {as : List α} {bs : List β} {f g : α → β → Int} (h : ∀ x ∈ as, ∀ y ∈ bs, f x y = g x y) : (as.map fun x => (bs.map fun y => f x y).sum).sum = (as.map fun x => (bs.map fun y => g x y).sum).sum := by
  congr 1
  refine List.map_congr_left fun x hx => ?_
  congr 1
  exact List.map_congr_left fun y hy => h x hx y hy
theorem oI {α : Type} : ∀ l : List α, (l.map fun _ => (1 : Int)).sum = l.length
  | [] => rfl
  | _ :: r => by simp only [List.map_cons, List.sum_cons, oI r, List.length_cons]; omega
/-! exchanged -/
theorem qQ (a b : List aA) : fe a b = fe b a := by
  unfold fe
  by_cases h : a = b
  · subst h; rfl
  · have h2 : ¬ b = a := fun q => h q.symm
    simp [h, h2]
theorem uX (p q : Int) : (if p < q then q else p) = if q < p then p else q := by split <;> split <;> omega
theorem rF (a b : bh) (on : List ByteArray) (x y : List aA) : eZ (bu b a on) y x = eZ (bu a b on) x y := by
  simp only [eZ, bu]; exact uX _ _
theorem vr (p q : Int) : (if q < p then q else p) = if p < q then p else q := by split <;> split <;> omega
theorem rL (a b : bh) (on : List ByteArray) (x y : List aA) : gv (bu b a on) y x = gv (bu a b on) x y := by
  simp only [gv, bu]; exact vr _ _
theorem sG (a b : bh) (on : List ByteArray) (x y : List aA) : meets (bu b a on) y x = meets (bu a b on) x y := by
  unfold meets dS
  rw [rF a b on x y, rL a b on x y, qQ (be y (bu b a on).left)]
  simp only [bu]
  cases cr x (bY a.cols aJ) (bY a.cols bA) <;> cases cr y (bY b.cols aJ) (bY b.cols bA) <;> simp
theorem pH (a b : bh) (on : List ByteArray) (f g : List aA → List aA → Int) (h : ∀ x y, f x y = g y x) :
    ((gy (bu a b on) b.rows a.rows).map fun q => f q.1 q.2).sum = ((gy (bu b a on) a.rows b.rows).map fun q => g q.1 q.2).sum := by
  rw [oJ, oJ, pL]
  exact sf fun y _ x _ => by rw [sG a b on x y, h]
theorem qI (a b : bh) (on : List ByteArray) : (gy (bu a b on) b.rows a.rows).length = (gy (bu b a on) a.rows b.rows).length := by
  have := pH a b on (fun _ _ => 1) (fun _ _ => 1) (fun _ _ => rfl)
  rw [oI, oI] at this
  omega
theorem nv (a b : List Col) : ∀ l : List ByteArray, dg a b l = 0 → dg b a l = 0
  | [], _ => rfl
  | s :: r, h => by
    simp only [dg] at h ⊢
    cases h1 : aZ a s with
    | none => rw [h1] at h; cases h
    | some c =>
      cases h2 : aZ b s with
      | none => rw [h1, h2] at h; cases h
      | some d =>
        rw [h1, h2] at h
        dsimp only at h ⊢
        by_cases q : c.type = d.type
        · rw [if_neg (by simp [q])] at h
          rw [if_neg (by simp [q])]
          exact nv a b r h
        · rw [if_pos q] at h; cases h
theorem rz {α : Type} [DecidableEq α] : ∀ {l m : List α}, l.Nodup → (∀ x ∈ l, x ∈ m) → l.length ≤ m.length
  | [], _, _, _ => Nat.zero_le _
  | x :: r, m, hn, h => by
    have hx := h x (List.mem_cons_self ..)
    have hn' := List.nodup_cons.1 hn
    have := rz (l := r) (m := m.erase x) hn'.2 fun y hy => (List.mem_erase_of_ne (by rintro rfl; exact hn'.1 hy)).2 (h y (List.mem_cons_of_mem _ hy))
    rw [List.length_erase_of_mem hx] at this
    have := List.length_pos_of_mem hx
    simp only [List.length_cons]
    omega
def kk (on spans : List ByteArray) (c : Col) : Bool := on.any (fun x => decide (c.name = x)) || spans.any (fun x => decide (c.name = x))
theorem oL {on spans : List ByteArray} {c : Col} : kk on spans c = true ↔ c.name ∈ on ++ spans := by
  unfold kk
  simp only [Bool.or_eq_true, List.any_eq_true, decide_eq_true_eq, List.mem_append]
  constructor
  · rintro (⟨x, h1, h2⟩ | ⟨x, h1, h2⟩)
    · exact .inl (h2 ▸ h1)
    · exact .inr (h2 ▸ h1)
  · rintro (h | h)
    · exact .inl ⟨_, h, rfl⟩
    · exact .inr ⟨_, h, rfl⟩
theorem oT (on spans : List ByteArray) (l : List Col) : bm on spans l = l.filter fun c => !kk on spans c := by
  unfold bm
  refine List.filter_congr fun c _ => ?_
  unfold kk
  cases on.any (fun x => decide (c.name = x)) <;> cases spans.any (fun x => decide (c.name = x)) <;> rfl
theorem kJ {α : Type} (p : α → Bool) : ∀ l : List α, (l.filter p).length + (l.filter fun x => !p x).length = l.length
  | [] => rfl
  | x :: r => by
    have := kJ p r
    rw [List.filter_cons, List.filter_cons]
    by_cases q : p x = true
    · simp [q]; omega
    · simp [q]; omega
theorem rp {a b on spans} (ha : (a.map Col.name).Nodup) (hb : ∀ s ∈ on ++ spans, ∃ c ∈ b, c.name = s) : (List.filter (kk on spans) a).length ≤ (List.filter (kk on spans) b).length := by
  have h := rz (l := (a.filter (kk on spans)).map Col.name) (m := (b.filter (kk on spans)).map Col.name) (ha.sublist ((List.filter_sublist).map _)) fun s hs => by
    obtain ⟨c, hc, rfl⟩ := List.mem_map.1 hs
    have hc := List.mem_filter.1 hc
    obtain ⟨d, hd, he⟩ := hb c.name (oL.1 hc.2)
    exact List.mem_map.2 ⟨d, List.mem_filter.2 ⟨hd, oL.2 (by rw [he]; exact oL.1 hc.2)⟩, he⟩
  simpa using h
theorem l6.has {op : Int} {a b : bh} {on : List ByteArray} (h : l6 op a b on) : (∀ s ∈ on ++ aI op, ∃ c ∈ a.cols, c.name = s) ∧ ∀ s ∈ on ++ aI op, ∃ c ∈ b.cols, c.name = s := by
  have hin : ∀ {cols : List Col} {s : ByteArray} {i : Nat}, ct cols s = some i → ∃ c ∈ cols, c.name = s := fun {cols s i} hi => by
    unfold ct at hi
    rw [List.findIdx?_eq_some_iff_getElem] at hi
    obtain ⟨hlt, hp, _⟩ := hi
    exact ⟨_, List.getElem_mem hlt, by simpa using hp⟩
  have ho := kB h.on_
  have h1 := fm h.sa
  have h2 := fm h.sb
  refine ⟨fun s hs => ?_, fun s hs => ?_⟩
  · rcases List.mem_append.1 hs with hs | hs
    · obtain ⟨i, j, c, d, p1, _⟩ := ho s hs; exact hin p1
    · obtain ⟨i, c, p1, _⟩ := h1 s hs; exact hin p1
  · rcases List.mem_append.1 hs with hs | hs
    · obtain ⟨i, j, c, d, _, p1, _⟩ := ho s hs; exact hin p1
    · obtain ⟨i, c, p1, _⟩ := h2 s hs; exact hin p1
theorem l6.comm {op : Int} {a b : bh} {on : List ByteArray} (h : l6 op a b on) (hs : bX (cq op on wB) = 0) : l6 op b a on := by
  have ha := kH h.ga
  have hb := kH h.gb
  have hh := h.has
  refine ⟨h.gb, h.ga, hs, h.no, nv _ _ _ h.on_, h.sb, h.sa, ?_, ?_⟩
  · have hn := h.nd
    rw [oT, List.map_append, List.nodup_append] at hn ⊢
    refine ⟨hb.2, ha.2.sublist ((List.filter_sublist).map _), fun x hx y hy hxy => ?_⟩
    subst hxy
    obtain ⟨c, hc, rfl⟩ := List.mem_map.1 hx
    obtain ⟨d, hd, he⟩ := List.mem_map.1 hy
    have hd := List.mem_filter.1 hd
    refine hn.2.2 d.name (List.mem_map_of_mem hd.1) c.name (List.mem_map_of_mem (List.mem_filter.2 ⟨hc, ?_⟩)) he
    have : kk on (aI op) c = kk on (aI op) d := by unfold kk; rw [he]
    rw [this]; exact hd.2
  · have hl := h.len
    have e1 := kJ (kk on (aI op)) a.cols
    have e2 := kJ (kk on (aI op)) b.cols
    have l1 := rp ha.2 hh.2
    have l2 := rp hb.2 hh.1
    rw [oT, List.length_append] at hl ⊢
    omega
/-! the result -/
theorem ig {a b : bh} {on : List ByteArray} : (bC a b on).2 = 0 ↔ l6 7 a b on ∧ (gy (bu a b on) b.rows a.rows).length ≤ 20000 := by
  unfold bC
  by_cases h : (dc 7 on a b).2 = 0
  · rw [if_neg (by simp [h]), kF _ _ _ _ (by simp)]
    have hj := (lk (.inl rfl)).1 h
    by_cases q : ([] : List (List aA)).length + (gy (bu a b on) b.rows a.rows).length ≤ 20000
    · rw [if_pos q]; exact ⟨fun _ => ⟨hj, by simpa using q⟩, fun _ => rfl⟩
    · rw [if_neg q]; exact ⟨fun h => (by cases h), fun h => absurd h.2 (by simpa using q)⟩
  · rw [if_pos h]
    exact ⟨fun q => absurd q h, fun q => absurd ((lk (.inl rfl)).2 q.1) h⟩
theorem uo {a b : bh} {on : List ByteArray} : (bC a b on).2 = 0 ↔ (bC b a on).2 = 0 := by
  rw [ig, ig, qI a b on]
  exact ⟨fun h => ⟨h.1.comm h.1.st, h.2⟩, fun h => ⟨h.1.comm h.1.st, h.2⟩⟩
theorem jo {a b : bh} {on : List ByteArray} (h : (bC a b on).2 = 0) :
    (bC a b on).1 = ⟨a.cols ++ bm on (aI 7) b.cols, (gy (bu a b on) b.rows a.rows).map fun q => eS (bu a b on) q.1 q.2⟩ := by
  have hi := ig.1 h
  have e := uj (.inl rfl) hi.1
  unfold bC
  rw [e, if_neg (by simp), kF _ _ _ _ (by simp), if_pos (by simpa using hi.2)]
  rfl
theorem oY {cols more : List Col} {s : ByteArray} {i : Nat} (h : ct cols s = some i) : ct (cols ++ more) s = some i := by
  unfold ct at h ⊢
  rw [List.findIdx?_append, h]; rfl
theorem pk {cols : List Col} {s : ByteArray} {i : Nat} {c : Col} (h : ct cols s = some i) (hc : cols[i]? = some c) : c.name = s := by
  unfold ct at h
  rw [List.findIdx?_eq_some_iff_getElem] at h
  obtain ⟨hlt, hp, _⟩ := h
  rw [List.getElem?_eq_getElem hlt] at hc
  simp only [Option.some.injEq] at hc
  rw [← hc]; simpa using hp
theorem va {n : Int} {v : aA} (hv : bG 2 v = 0) (hk : v.kind = 2) (hn : la n = true) : bG 2 ⟨v.kind, n, v.s⟩ = 0 := by
  have hs := sy hv hk
  rw [hk, hs]
  unfold bG
  simp [hn]
theorem mg {v : aA} (hv : bG 2 v = 0) (hk : v.kind = 2) : la v.n = true := by
  rcases rY.1 hv with rfl | ⟨h, _⟩ | ⟨_, n, hn, rfl⟩ | ⟨h, _⟩
  · cases hk
  · exact absurd h (by decide)
  · exact hn
  · exact absurd h (by decide)
theorem kE {r : List aA} {i j : Nat} {n : Int} (hj : j < r.length) : a9 (fE r i n) j = if i = j then ⟨(a9 r i).kind, n, (a9 r i).s⟩ else a9 r j := by
  unfold fE
  exact u9 hj
theorem rJ {cols : List Col} {r : List aA} {i : Nat} {n : Int} (h : ∀ (j : Nat) (c : Col) (v : aA), cols[j]? = some c → r[j]? = some v → bG c.type v = 0) {c : Col} (hc : cols[i]? = some c) (ht : c.type = 2) (hi : i < r.length) (hk : (a9 r i).kind = 2) (hn : la n = true) :
    ∀ (j : Nat) (c : Col) (v : aA), cols[j]? = some c → (fE r i n)[j]? = some v → bG c.type v = 0 := by
  intro j d v hd hv
  unfold fE at hv
  by_cases q : i = j
  · subst q
    rw [List.getElem?_set_self hi] at hv
    rw [hc] at hd
    simp only [Option.some.injEq] at hd
    subst hd
    simp only [Option.some.injEq] at hv
    rw [← hv, ht]
    have := h i c _ hc (fz hi)
    rw [ht] at this
    exact va this hk hn
  · rw [List.getElem?_set_ne q] at hv
    exact h j d v hd hv
theorem nH {a b : bh} {on : List ByteArray} (h : (bC a b on).2 = 0) : bg (bC a b on).1 = 0 ∧ ∃ i j, ct (bC a b on).1.cols aJ = some i ∧ ct (bC a b on).1.cols bA = some j ∧
    (∀ r ∈ (bC a b on).1.rows, i < r.length ∧ j < r.length ∧ cr r i j = true) ∧
    ((bC a b on).1.rows.map fun r => (a9 r j).n - (a9 r i).n).sum = ((gy (bu a b on) b.rows a.rows).map fun q => gv (bu a b on) q.1 q.2 - eZ (bu a b on) q.1 q.2).sum := by
  have hi := ig.1 h
  have hj := hi.1
  have hok := s5 (.inl rfl) ((lk (.inl rfl)).2 hj)
  have e7 : aI 7 = [aJ, bA] := rfl
  rw [jo h]
  have ha := kH hj.ga
  have hb := kH hj.gb
  obtain ⟨m0, c0, p0, q0, t0⟩ := hok.spa aJ (by rw [e7]; simp)
  obtain ⟨m1, c1, p1, q1, t1⟩ := hok.spa bA (by rw [e7]; simp)
  obtain ⟨n0, d0, r0, s0, u0⟩ := hok.spb aJ (by rw [e7]; simp)
  obtain ⟨n1, d1, r1, s1, u1⟩ := hok.spb bA (by rw [e7]; simp)
  have em0 : (bu a b on).m0 = m0 := cv p0
  have em1 : (bu a b on).m1 = m1 := cv p1
  have en0 : (bu a b on).t0 = n0 := cv r0
  have en1 : (bu a b on).t1 = n1 := cv r1
  have hne : m0 ≠ m1 := by
    rintro rfl
    have h1 := pk p0 q0
    have h2 := pk p1 q0
    rw [h1] at h2
    exact absurd h2 (by decide)
  have hm : (bu a b on).more.length = (bm on (aI 7) b.cols).length := (lF on [aJ, bA] b.cols 0 0).1
  have key : ∀ q ∈ gy (bu a b on) b.rows a.rows, (eS (bu a b on) q.1 q.2).length = (a.cols ++ bm on (aI 7) b.cols).length ∧ cV (a.cols ++ bm on (aI 7) b.cols) (eS (bu a b on) q.1 q.2) = 0 ∧
      m0 < (eS (bu a b on) q.1 q.2).length ∧ m1 < (eS (bu a b on) q.1 q.2).length ∧ a9 (eS (bu a b on) q.1 q.2) m0 = ⟨2, eZ (bu a b on) q.1 q.2, B #[]⟩ ∧ a9 (eS (bu a b on) q.1 q.2) m1 = ⟨2, gv (bu a b on) q.1 q.2, B #[]⟩ ∧
      eZ (bu a b on) q.1 q.2 < gv (bu a b on) q.1 q.2 := by
    intro q hq
    obtain ⟨hx, hy, hme⟩ := rC hq
    obtain ⟨x, y⟩ := q
    dsimp only at hx hy hme ⊢
    have hxr := eC hj.ga x hx
    have hyr := eC hj.gb y hy
    unfold meets dS cr at hme
    rw [em0, em1, en0, en1] at hme
    simp only [Bool.and_eq_true, decide_eq_true_eq] at hme
    obtain ⟨⟨k0, k1, _⟩, ⟨l0, l1, _⟩, hlt, _⟩ := hme
    have x0 := lN hj.ga hx q0
    have x1 := lN hj.ga hx q1
    have y0 := lN hj.gb hy s0
    have y1 := lN hj.gb hy s1
    rw [t0] at x0
    rw [t1] at x1
    rw [u0] at y0
    rw [u1] at y1
    have hlo : la (eZ (bu a b on) x y) = true := by
      unfold eZ; rw [em0, en0]
      split
      · exact mg y0.2 l0
      · exact mg x0.2 k0
    have hhi : la (gv (bu a b on) x y) = true := by
      unfold gv; rw [em1, en1]
      split
      · exact mg y1.2 l1
      · exact mg x1.2 k1
    have hlen : (x ++ be y (bu a b on).more).length = (a.cols ++ bm on (aI 7) b.cols).length := by
      unfold be; rw [List.length_append, List.length_append, List.length_map, hxr.1, hm]
    have hg0 : ∀ (j : Nat) (c : Col) (v : aA), (a.cols ++ bm on (aI 7) b.cols)[j]? = some c → (x ++ be y (bu a b on).more)[j]? = some v → bG c.type v = 0 := by
      intro j c v hc hv
      by_cases q : j < a.cols.length
      · rw [List.getElem?_append_left q] at hc
        rw [List.getElem?_append_left (by omega)] at hv
        exact hxr.2 j c v hc hv
      · rw [List.getElem?_append_right (by omega)] at hc
        rw [List.getElem?_append_right (by omega), hxr.1] at hv
        exact vd hj.gb hy on [aJ, bA] _ c v hc hv
    have hc0 : (a.cols ++ bm on (aI 7) b.cols)[m0]? = some c0 := by
      rw [List.getElem?_append_left (List.getElem?_eq_some_iff.1 q0).1]; exact q0
    have hc1 : (a.cols ++ bm on (aI 7) b.cols)[m1]? = some c1 := by
      rw [List.getElem?_append_left (List.getElem?_eq_some_iff.1 q1).1]; exact q1
    have hk0 : a9 (x ++ be y (bu a b on).more) m0 = a9 x m0 := pK x0.1
    have hk1 : a9 (x ++ be y (bu a b on).more) m1 = a9 x m1 := pK x1.1
    have hl0 : m0 < (x ++ be y (bu a b on).more).length := by rw [List.length_append]; omega
    have hl1 : m1 < (x ++ be y (bu a b on).more).length := by rw [List.length_append]; omega
    have hg1 := rJ (n := eZ (bu a b on) x y) hg0 hc0 t0 hl0 (by rw [hk0]; exact k0) hlo
    have hl1' : m1 < (fE (x ++ be y (bu a b on).more) m0 (eZ (bu a b on) x y)).length := by rw [eF]; exact hl1
    have hk1' : (a9 (fE (x ++ be y (bu a b on).more) m0 (eZ (bu a b on) x y)) m1) = a9 x m1 := by rw [kE hl1, if_neg hne, hk1]
    have hg2 := rJ (n := gv (bu a b on) x y) hg1 hc1 t1 hl1' (by rw [hk1']; exact k1) hhi
    have er : eS (bu a b on) x y = fE (fE (x ++ be y (bu a b on).more) m0 (eZ (bu a b on) x y)) m1 (gv (bu a b on) x y) := by unfold eS; rw [em0, em1]
    have hlr : (eS (bu a b on) x y).length = (x ++ be y (bu a b on).more).length := by rw [er, eF, eF]
    refine ⟨by rw [hlr, hlen], my (by rw [er]; exact hg2), by rw [hlr]; exact hl0, by rw [hlr]; exact hl1, ?_, ?_, hlt⟩
    · rw [er, kE (by rw [eF]; exact hl0), if_neg (fun q => hne q.symm), kE hl0, if_pos rfl, hk0, k0, sy x0.2 k0]
    · rw [er, kE (by rw [eF]; exact hl1), if_pos rfl, hk1', k1, sy x1.2 k1]
  refine ⟨wv hj.len (by rw [List.length_map]; exact hi.2) (fun c hc => ?_) hj.nd fun x hx => ?_, m0, m1, oY p0, oY p1, fun r hr => ?_, ?_⟩
  · rcases List.mem_append.1 hc with hc | hc
    · exact ha.1 c hc
    · exact hb.1 c (uD hc)
  · obtain ⟨q, hq, rfl⟩ := List.mem_map.1 hx
    exact ⟨(key q hq).1, (key q hq).2.1⟩
  · obtain ⟨q, hq, rfl⟩ := List.mem_map.1 hr
    have k := key q hq
    refine ⟨k.2.2.1, k.2.2.2.1, ?_⟩
    unfold cr
    rw [k.2.2.2.2.1, k.2.2.2.2.2.1]
    simp [k.2.2.2.2.2.2]
  · rw [List.map_map]
    congr 1
    refine List.map_congr_left fun q hq => ?_
    have k := key q hq
    show (a9 (eS (bu a b on) q.1 q.2) m1).n - (a9 (eS (bu a b on) q.1 q.2) m0).n = _
    rw [k.2.2.2.2.1, k.2.2.2.2.2.1]
theorem tL (a b : bh) (on : List ByteArray) : ((gy (bu a b on) b.rows a.rows).map fun q => gv (bu a b on) q.1 q.2 - eZ (bu a b on) q.1 q.2).sum = ((gy (bu b a on) a.rows b.rows).map fun q => gv (bu b a on) q.1 q.2 - eZ (bu b a on) q.1 q.2).sum :=
  pH a b on (fun x y => gv (bu a b on) x y - eZ (bu a b on) x y) (fun y x => gv (bu b a on) y x - eZ (bu b a on) y x) fun x y => by rw [rF a b on x y, rL a b on x y]
end Go.Tb
