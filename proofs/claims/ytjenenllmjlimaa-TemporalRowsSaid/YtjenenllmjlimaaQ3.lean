import Derived.Test.YtjenenllmjlimaaQ2
import Derived.Laws.MakeOwn
namespace Go.Ab
open Go.RowKit
structure gz where
  bxF : Nat → List (Nat × List A)
  bxT : Nat → List (Nat × List A)
  lv : Nat → List Nat
  gen : Nat → Nat
  ord : Nat → List Nat
  g0 : Nat
  z : List A
  cs : List Nat
  al : Nat
def gz.bx (S : gz) (k : Nat) (b : Bool) : List (Nat × List A) := bif b then S.bxT k else S.bxF k
abbrev uM (gH : List (List (Nat × List A))) (lvs : List (List Nat)) (gens : List Nat) (cs : List Nat) (al : Nat) : gz := ⟨fun _ => [], fun k => gH.getD k [], fun k => lvs.getD k [], fun k => gens.getD k 0, fun _ => [], 0, [], cs, al⟩
def e9 (S : gz) (ops : Array Oper) (i k : Nat) (b : Bool) : Bool :=
  ((List.range S.cs.length).all fun j => bif Nat.blt j k then !b8 .any ops ops.size (S.cs.getD j 0) i else !b8 .any ops ops.size i (S.cs.getD j 0)) &&
  (bif b then !b8 .any ops ops.size S.al i else (Nat.blt S.al ops.size && !b8 .any ops ops.size i S.al))
theorem ae {S : gz} {ops : Array Oper} {i k : Nat} {b : Bool} (h : e9 S ops i k b = true) (h' : e9 S ops i k b = false) : False := by rw [h] at h'; cases h'
section
variable {P : Program} (T : bU P) {C : Ctx} {n : Nat} (S : gz) {ops : Array Oper}
abbrev SD := cD × Nat × Bool
def vo (C : Ctx) (n : Nat) (S : gz) (b0 : Bool) (σ : SD) (act : Act) (w : World) : Prop :=
  (b0 = true → σ.2.2 = true) ∧ act.defers = [] ∧ ∃ G, cZ C n (S.bx σ.2.1 σ.2.2) (S.lv σ.2.1) (S.gen σ.2.1) σ.1 G act.tmps w ∧ (σ.2.2 = false → ∀ t a, σ.1 t = some a → bl (S.ord σ.2.1) a = a)
def u0 (P : Program) (C : Ctx) (n : Nat) (S : gz) (ops : Array Oper) (o : Oper) (a : A) (k : Nat) (b : Bool) (φ : cD) : Prop :=
  o.guard = none ∧ ∃ p, (∀ t x, look p t = some x → φ t = some x ∧ t ∈ o.looksAt ops) ∧
    ∀ g, WO P C n ops (fun e st => e = .normal ∧ st = St.put ⟨p ++ g, S.bx (k + 1) b, S.lv (k + 1), S.gen (k + 1)⟩ o.dst a) [o] ⟨p ++ g, S.bx k b, S.lv k, S.gen k⟩
def YD (P : Program) (T : bU P) (C : Ctx) (n : Nat) (S : gz) (ops : Array Oper) (i : Nat) (a : A) (σ : SD) : Prop :=
  ∃ o, ops[i]? = some o ∧ c6 n o.dst = true ∧ σ.2.1 ≤ S.cs.length ∧ e9 S ops i σ.2.1 σ.2.2 = true ∧
    ((S.cs[σ.2.1]? = some i ∧ i ≠ S.al ∧ (∀ b, e9 S ops i σ.2.1 b = true → u0 P C n S ops o a σ.2.1 b σ.1) ∧ (e9 S ops i σ.2.1 false = true → bl (S.ord (σ.2.1 + 1)) a = a)) ∨
     (i ∉ S.cs ∧ i = S.al ∧ σ.2.2 = false ∧ o.guard = none ∧ a = .ptr S.g0 0 ∧ ∃ e d dt, o.op = .alloc e ∧ o.dst = some d ∧ au T.l e = some dt ∧ S.z = dt.z.map fun v => A.d (.v v)) ∨
     (i ∉ S.cs ∧ i ≠ S.al ∧ ∀ k b, k ≤ S.cs.length → e9 S ops i k b = true → YA P C n (S.bx k b) (S.lv k) (S.gen k) ops o a σ.1 ∧ (b = false → bl (S.ord k) a = a)))
def qS (S : gz) (ops : Array Oper) (i : Nat) (a : A) (σ : SD) : SD :=
  match ops[i]? with
  | none => σ
  | some o => (bg σ.1 o.dst a, (if S.cs[σ.2.1]? = some i then σ.2.1 + 1 else σ.2.1), if i = S.al then true else σ.2.2)
variable {T} {S}
theorem lO {o : Oper} {a : A} {k : Nat} {b : Bool} {φ : cD} {dst : Option Nat} {x : A} (hd : ∀ d, dst = some d → d ∉ o.looksAt ops) : u0 P C n S ops o a k b (bg φ dst x) ↔ u0 P C n S ops o a k b φ := by
  constructor
  · rintro ⟨h0, p, h1, h2⟩
    exact ⟨h0, p, fun t y hy => ⟨(dR hd (h1 t y hy).2).symm.trans (h1 t y hy).1, (h1 t y hy).2⟩, h2⟩
  · rintro ⟨h0, p, h1, h2⟩
    exact ⟨h0, p, fun t y hy => ⟨(dR hd (h1 t y hy).2).trans (h1 t y hy).1, (h1 t y hy).2⟩, h2⟩
theorem pA {i k c : Nat} {b : Bool} (h : S.cs[k]? = some c) (hl : loose .any ops i c) : e9 S ops i (k + 1) b = e9 S ops i k b := by
  unfold e9
  congr 1
  rw [Bool.eq_iff_iff, List.all_eq_true, List.all_eq_true]
  have hk : S.cs.getD k 0 = c := by simp [List.getD_eq_getElem?_getD, h]
  have key : ∀ j, (bif Nat.blt j (k + 1) then !b8 .any ops ops.size (S.cs.getD j 0) i else !b8 .any ops ops.size i (S.cs.getD j 0)) = (bif Nat.blt j k then !b8 .any ops ops.size (S.cs.getD j 0) i else !b8 .any ops ops.size i (S.cs.getD j 0)) := fun j => by
    rcases Nat.lt_trichotomy j k with hj | rfl | hj
    · have h1 : Nat.blt j (k + 1) = true := by simp [Nat.blt_eq]; omega
      have h2 : Nat.blt j k = true := by simp [Nat.blt_eq]; omega
      rw [h1, h2]
    · have h1 : Nat.blt j (j + 1) = true := by simp [Nat.blt_eq]
      have h2 : Nat.blt j j = false := by cases q : Nat.blt j j with | false => rfl | true => simp [Nat.blt_eq] at q
      rw [h1, h2, hk, hl.1, hl.2]
      rfl
    · have h1 : Nat.blt j (k + 1) = false := by cases q : Nat.blt j (k + 1) with | false => rfl | true => simp [Nat.blt_eq] at q; omega
      have h2 : Nat.blt j k = false := by cases q : Nat.blt j k with | false => rfl | true => simp [Nat.blt_eq] at q; omega
      rw [h1, h2]
  exact ⟨fun h j hj => by rw [← key]; exact h j hj, fun h j hj => by rw [key]; exact h j hj⟩
theorem nq {i k : Nat} (hlt : S.al < ops.size) (hl : loose .any ops i S.al) : e9 S ops i k true = e9 S ops i k false := by
  unfold e9
  have h : Nat.blt S.al ops.size = true := by rw [Nat.blt_eq]; exact hlt
  rw [hl.1, hl.2, h]
  rfl
theorem loose.symm {md : Region.Mode} {i j : Nat} (h : loose md ops i j) : loose md ops j i := ⟨h.2, h.1⟩
theorem jV {i : Nat} {o : Oper} (h : ops[i]? = some o) (a : A) (σ : SD) : qS S ops i a σ = (bg σ.1 o.dst a, (if S.cs[σ.2.1]? = some i then σ.2.1 + 1 else σ.2.1), if i = S.al then true else σ.2.2) := by unfold qS; rw [h]
theorem pa {i k c : Nat} {b : Bool} (h : S.cs[k]? = some c) (hl : loose .any ops i c) (ha : e9 S ops i (k + 1) b = true) : e9 S ops i k b = true := by rw [← pA h hl]; exact ha
theorem pz {i k c : Nat} {b : Bool} (h : S.cs[k]? = some c) (hl : loose .any ops i c) (ha : e9 S ops i k b = true) : e9 S ops i (k + 1) b = true := by rw [pA h hl]; exact ha
theorem vO (hch : ∀ k c c', S.cs[k]? = some c → S.cs[k + 1]? = some c' → b8 .any ops ops.size c' c = true) {i j : Nat} {oi oj : Oper} (hi : ops[i]? = some oi) (hj : ops[j]? = some oj) (hij : i ≠ j) (hap : oi.apart ops oj = true) (hl : loose .any ops i j) :
    lk (YD P T C n S ops) (qS S ops) i j := by
  obtain ⟨a1, a2, a3⟩ := Oper.apart_spec hap
  rintro a b ⟨φ, k, ph⟩ ⟨oi', hi', di, hk, ai, hyi⟩ ⟨oj', hj', dj, hk2, aj, hyj⟩
  rw [hi] at hi'
  cases hi'
  rw [hj] at hj'
  cases hj'
  have hcomm : bg (bg φ oi.dst a) oj.dst b = bg (bg φ oj.dst b) oi.dst a := jq φ a b a2
  have mem_of : ∀ {k c : Nat}, S.cs[k]? = some c → c ∈ S.cs := fun h => List.mem_of_getElem? h
  have klt : ∀ {k c : Nat}, S.cs[k]? = some c → k + 1 ≤ S.cs.length := fun h => (List.getElem?_eq_some_iff.1 h).1
  rw [jV hi] at aj hyj hk2
  simp only [jV hi, jV hj]
  simp only at hk ai hyi hk2 aj hyj
  rcases hyi with ⟨ci, nai, xi, fi⟩ | ⟨nci, ali, rfl, gi, ei, hi6⟩ | ⟨nci, nai, yi⟩
  · -- i is of the chain
    simp only [if_pos ci, if_neg nai] at aj hyj hk2
    rcases hyj with ⟨cj, _⟩ | ⟨ncj, alj, rfl, gj, ej, hj6⟩ | ⟨ncj, naj, yj⟩
    · exact absurd (hch k i j ci cj) (by rw [hl.2]; simp)
    · have hsi : loose .any ops i S.al := by rw [← alj]; exact hl
      have hlt : S.al < ops.size := by rw [← alj]; exact (Array.getElem?_eq_some_iff.1 hj).1
      have n1 : ¬ S.cs[k]? = some j := fun h => ncj (mem_of h)
      refine ⟨⟨oj, hj, dj, hk, pa ci hl.symm aj, .inr (.inl ⟨ncj, alj, rfl, gj, ej, hj6⟩)⟩, ?_, ?_⟩
      · refine ⟨oi, hi, di, ?_, ?_, .inl ⟨?_, nai, fun b hb => (lO a3).2 ?_, ?_⟩⟩
        all_goals simp only [if_neg n1]
        · exact hk
        · rw [if_pos alj, nq hlt hsi]; exact ai
        · exact ci
        · simp only [if_neg n1] at hb
          exact xi b hb
        · exact fi
      · simp only [if_pos ci, if_neg nai, if_pos alj, if_neg n1, hcomm]
        have n2 : ¬ S.cs[k + 1]? = some j := fun h => ncj (mem_of h)
        rw [if_neg n2]
    · have n1 : ¬ S.cs[k]? = some j := fun h => ncj (mem_of h)
      have n2 : ¬ S.cs[k + 1]? = some j := fun h => ncj (mem_of h)
      refine ⟨⟨oj, hj, dj, hk, pa ci hl.symm aj, .inr (.inr ⟨ncj, naj, fun k b h1 h2 => ⟨(cW a1).1 (yj k b h1 h2).1, (yj k b h1 h2).2⟩⟩)⟩, ?_, ?_⟩
      · refine ⟨oi, hi, di, ?_, ?_, .inl ⟨?_, nai, fun b hb => (lO a3).2 ?_, ?_⟩⟩
        all_goals simp only [if_neg n1]
        · exact hk
        · rw [if_neg naj]; exact ai
        · exact ci
        · simp only [if_neg n1] at hb
          exact xi b hb
        · exact fi
      · simp only [if_pos ci, if_neg nai, if_neg naj, if_neg n1, if_neg n2, hcomm]
  · -- i is the allocation
    have n1 : ¬ S.cs[k]? = some i := fun h => nci (mem_of h)
    simp only [if_neg n1, if_pos ali] at aj hyj hk2
    have hsj : loose .any ops j S.al := by rw [← ali]; exact hl.symm
    have hlt : S.al < ops.size := by rw [← ali]; exact (Array.getElem?_eq_some_iff.1 hi).1
    rcases hyj with ⟨cj, naj, xj, fj⟩ | ⟨_, alj, h, _⟩ | ⟨ncj, naj, yj⟩
    · have n2 : ¬ S.cs[k + 1]? = some i := fun h => nci (mem_of h)
      refine ⟨⟨oj, hj, dj, hk, by rw [← nq hlt hsj]; exact aj, .inl ⟨cj, naj, fun b hb => (lO a1).1 (xj b hb), fj⟩⟩, ?_, ?_⟩
      · refine ⟨oi, hi, di, ?_, ?_, .inr (.inl ⟨nci, ali, ?_, gi, ei, hi6⟩)⟩
        all_goals simp only [if_pos cj, if_neg naj]
        · exact klt cj
        · exact pz cj hl ai
      · simp only [if_neg n1, if_pos ali, if_pos cj, if_neg naj, if_neg n2, hcomm]
    · exact absurd (ali.trans alj.symm) hij
    · have n3 : ¬ S.cs[k]? = some j := fun h => ncj (mem_of h)
      refine ⟨⟨oj, hj, dj, hk, by rw [← nq hlt hsj]; exact aj, .inr (.inr ⟨ncj, naj, fun k b h1 h2 => ⟨(cW a1).1 (yj k b h1 h2).1, (yj k b h1 h2).2⟩⟩)⟩, ?_, ?_⟩
      · refine ⟨oi, hi, di, ?_, ?_, .inr (.inl ⟨nci, ali, ?_, gi, ei, hi6⟩)⟩
        all_goals simp only [if_neg n3, if_neg naj]
        · exact hk
        · exact ai
      · simp only [if_neg n1, if_pos ali, if_neg n3, if_neg naj, hcomm]
  · -- i leaves the ghost
    have n1 : ¬ S.cs[k]? = some i := fun h => nci (mem_of h)
    simp only [if_neg n1, if_neg nai] at aj hyj hk2
    rcases hyj with ⟨cj, naj, xj, fj⟩ | ⟨ncj, alj, rfl, gj, ej, hj6⟩ | ⟨ncj, naj, yj⟩
    · have n2 : ¬ S.cs[k + 1]? = some i := fun h => nci (mem_of h)
      refine ⟨⟨oj, hj, dj, hk, aj, .inl ⟨cj, naj, fun b hb => (lO a1).1 (xj b hb), fj⟩⟩, ?_, ?_⟩
      · refine ⟨oi, hi, di, ?_, ?_, .inr (.inr ⟨nci, nai, fun k b h1 h2 => ⟨(cW a3).2 (yi k b h1 h2).1, (yi k b h1 h2).2⟩⟩)⟩
        all_goals simp only [if_pos cj, if_neg naj]
        · exact klt cj
        · exact pz cj hl ai
      · simp only [if_neg n1, if_neg nai, if_pos cj, if_neg naj, if_neg n2, hcomm]
    · have n3 : ¬ S.cs[k]? = some j := fun h => ncj (mem_of h)
      have hsi : loose .any ops i S.al := by rw [← alj]; exact hl
      have hlt : S.al < ops.size := by rw [← alj]; exact (Array.getElem?_eq_some_iff.1 hj).1
      refine ⟨⟨oj, hj, dj, hk, aj, .inr (.inl ⟨ncj, alj, rfl, gj, ej, hj6⟩)⟩, ?_, ?_⟩
      · refine ⟨oi, hi, di, ?_, ?_, .inr (.inr ⟨nci, nai, fun k b h1 h2 => ⟨(cW a3).2 (yi k b h1 h2).1, (yi k b h1 h2).2⟩⟩)⟩
        all_goals simp only [if_neg n3, if_pos alj]
        · exact hk
        · rw [nq hlt hsi]; exact ai
      · simp only [if_neg n1, if_neg nai, if_neg n3, if_pos alj, hcomm]
    · have n3 : ¬ S.cs[k]? = some j := fun h => ncj (mem_of h)
      refine ⟨⟨oj, hj, dj, hk, aj, .inr (.inr ⟨ncj, naj, fun k b h1 h2 => ⟨(cW a1).1 (yj k b h1 h2).1, (yj k b h1 h2).2⟩⟩)⟩, ?_, ?_⟩
      · refine ⟨oi, hi, di, ?_, ?_, .inr (.inr ⟨nci, nai, fun k b h1 h2 => ⟨(cW a3).2 (yi k b h1 h2).1, (yi k b h1 h2).2⟩⟩)⟩
        all_goals simp only [if_neg n3, if_neg naj]
        · exact hk
        · exact ai
      · simp only [if_neg n1, if_neg nai, if_neg n3, if_neg naj, hcomm]
theorem WO.uS {o : Oper} (hg : o.guard = none) {st st1 : St} {G : Gh} {tmps : Array Value} {w : World} {Q' : Exit → Act → World → Prop} (h : WO P C n ops (fun e st => e = .normal ∧ st = st1) [o] st) (hs : aJ C n st G tmps w) :
    o.wp P ⟨tmps, []⟩ w (fun act w => act.defers = [] ∧ ∃ G, aJ C n st1 G act.tmps w) Q' := by
  have hw : Region.wanted o (yielded ops tmps) = true := by simp [Region.wanted, hg]
  have h := h tmps w ⟨G, hs⟩
  simp only [fC, hw, if_true] at h
  refine Oper.qq (fun c a w hq => ?_) (fun hl => ?_) (fun act2 w2 hq => ?_) h
  · obtain ⟨_, st', _, he, _⟩ := hq
    cases he
  · obtain ⟨_, _, hq⟩ := hl
    obtain ⟨_, st', _, he, _⟩ := hq
    cases he
  · obtain ⟨hdf, st', ⟨G', hs2⟩, _, rfl⟩ := hq
    exact ⟨hdf, G', hs2⟩
theorem qC {bx : List (Nat × List A)} {lv : List Nat} {gen : Nat} {φ : cD} {G : Gh} {tmps : Array Value} {w : World} (hs : cZ C n bx lv gen φ G tmps w) (t : Nat) (x : A) (hx : φ t = some x) : t < n := by
  obtain ⟨v, h1, _⟩ := hs.2 t x hx
  have := (Array.getElem?_eq_some_iff.1 h1).1
  rw [hs.1.size] at this
  exact this
theorem pd {φ : cD} {p : List (Nat × A)} (hlt : ∀ t x, φ t = some x → t < n) (hp : ∀ t x, look p t = some x → φ t = some x) (t : Nat) : look (p ++ dr n φ) t = φ t := by
  rw [pe]
  cases q : look p t with
  | some x => exact (hp t x q).symm
  | none =>
    simp only
    unfold dr
    rw [jt]
    cases e : φ t with
    | none => split <;> rfl
    | some x => rw [if_pos (List.mem_range.2 (hlt t x e))]
theorem oF {φ : cD} {f : List (Nat × A)} (h : ∀ t, look f t = φ t) {d : Nat} {a : A} {t : Nat} : look ((d, a) :: f) t = bg φ (some d) a t := by
  rw [bc]
  simp only [bg]
  by_cases e : t = d
  · subst e
    rw [if_pos rfl, if_pos rfl]
  · rw [if_neg e, if_neg (Ne.symm e), h]
def tm (S : gz) (nb k : Nat) : Prop := (jc (S.ord k) (S.gen k) nb = true ∧ pos (S.ord k) (S.gen k) = some S.g0) ∧ gZ (S.ord k) ((S.gen k, S.z) :: S.bxF k) (S.bxT k) ∧ oN (S.ord k) (S.lv k) (S.lv k) = true
def nD (S : gz) (nb : Nat) : Nat → Prop
  | 0 => tm S nb 0
  | k + 1 => tm S nb (k + 1) ∧ rn (S.ord k) (S.ord (k + 1)) = true ∧ nD S nb k
theorem nD.at {nb : Nat} : ∀ {m : Nat}, nD S nb m → ∀ k, k ≤ m → tm S nb k
  | 0, h, k, hk => by obtain rfl : k = 0 := by omega
                      exact h
  | m + 1, h, k, hk => by
    rcases Nat.lt_or_ge k (m + 1) with hlt | hge
    · exact nD.at h.2.2 k (by omega)
    · obtain rfl : k = m + 1 := by omega
      exact h.1
theorem nD.mono {nb : Nat} : ∀ {m : Nat}, nD S nb m → ∀ k, k < m → rn (S.ord k) (S.ord (k + 1)) = true
  | 0, _, k, hk => absurd hk (Nat.not_lt_zero _)
  | m + 1, h, k, hk => by
    rcases Nat.lt_or_ge k m with hlt | hge
    · exact nD.mono h.2.2 k hlt
    · obtain rfl : k = m := by omega
      exact h.2.1
theorem uR {nb : Nat} [hnb : NB C nb] (b0 : Bool) (hok : b0 = false → nD S nb S.cs.length) (i : Nat) (a : A) (σ : SD) (act : Act) (w : World) (K : Act → World → Prop) {Q' : Exit → Act → World → Prop} (hs : vo C n S b0 σ act w) (hy : YD P T C n S ops i a σ) (hK : ∀ act w, vo C n S b0 (qS S ops i a σ) act w → K act w) : wpOp P ops Q' i K act w := by
  obtain ⟨tmps, dfs⟩ := act
  obtain ⟨hb0, rfl, G, hs, hfix⟩ := hs
  obtain ⟨φ, k, ph⟩ := σ
  obtain ⟨o, ho, hd, hkl, hal, hy⟩ := hy
  rw [jV ho] at hK
  simp only at hs hfix hkl hal hy hK hb0
  unfold wpOp
  simp only [ho]
  rcases hy with ⟨hc, nal, hx, hr⟩ | ⟨nc, hal', rfl, hg, rfl, e, d, dt, hop, hdst, he, hz⟩ | ⟨nc, nal, hya⟩
  · obtain ⟨hg, p, hp, hx⟩ := hx ph hal
    rw [if_pos hc, if_neg nal] at hK
    have hw : Region.wanted o (yielded ops tmps) = true := by simp [Region.wanted, hg]
    rw [hw, if_pos rfl]
    refine .inl ?_
    have hlook := pd (qC hs) (fun t x hx => (hp t x hx).1)
    have hs' := hs.iO (f := p ++ dr n φ) fun t x hx => by rw [← hlook]; exact hx
    refine Oper.wp_mono (fun act2 w2 ⟨hdf, G', hs2⟩ => hK act2 w2 ⟨hb0, hdf, G', ?_, fun hph t x hx => ?_⟩) (WO.uS hg (hx (dr n φ)) hs')
    · show cZ C n (S.bx (k + 1) ph) (S.lv (k + 1)) (S.gen (k + 1)) (bg φ o.dst a) G' act2.tmps w2
      cases hdst : o.dst with
      | none =>
        rw [hdst] at hs2
        refine ⟨{ hs2 with frame := fun t a ha => by simp [look] at ha }, fun t x hx => hs2.frame t x ?_⟩
        show look (p ++ dr n φ) t = some x
        rw [hlook]
        exact hx
      | some d =>
        rw [hdst] at hs2
        refine ⟨{ hs2 with frame := fun t a ha => by simp [look] at ha }, fun t x hx => hs2.frame t x ?_⟩
        show look ((d, a) :: (p ++ dr n φ)) t = some x
        rw [oF hlook]
        exact hx
    · simp only at hph hx
      have hbf : b0 = false := by cases b0 with | false => rfl | true => rw [hb0 rfl] at hph; cases hph
      have hm := rD ((hok hbf).mono k (List.getElem?_eq_some_iff.1 hc).1)
      cases hdst : o.dst with
      | none => rw [hdst] at hx; exact nP hm x (hfix hph t x hx)
      | some d =>
        rw [hdst] at hx
        simp only [bg] at hx
        split at hx
        · cases hx; exact hr (by rw [← hph]; exact hal)
        · exact nP hm x (hfix hph t x hx)
  · have hkc : ¬ S.cs[k]? = some i := fun h => nc (List.mem_of_getElem? h)
    rw [if_neg hkc, if_pos hal'] at hK
    have hw : Region.wanted o (yielded ops tmps) = true := by simp [Region.wanted, hg]
    rw [hw, if_pos rfl]
    refine .inl ?_
    have hbf : b0 = false := by cases b0 with | false => rfl | true => cases hb0 rfl
    obtain ⟨⟨hO, hpos⟩, hBR, hLR⟩ := (hok hbf).at k hkl
    have hlook : ∀ t, look (dr n φ) t = φ t := pd (p := []) (qC hs) (fun t x hx => by simp [look] at hx)
    have hs' := hs.iO (f := dr n φ) fun t x hx => by rw [← hlook]; exact hx
    have hwo : WO P C n ops (fun e st => e = .normal ∧ st = St.put ⟨dr n φ, (S.gen k, S.z) :: S.bx k false, S.lv k, S.gen k + 1⟩ o.dst (.ptr (S.gen k) 0)) [o] ⟨dr n φ, S.bx k false, S.lv k, S.gen k⟩ :=
      WO.alloc T hg hd hop he (WO.nil ⟨rfl, by rw [hz]⟩)
    refine Oper.wp_mono (fun act2 w2 ⟨hdf, G', hs2⟩ => hK act2 w2 ⟨fun _ => rfl, hdf, kv (S.ord k) G', ?_, fun h => by cases h⟩) (WO.uS hg hwo hs')
    simp only [jc, Bool.and_eq_true] at hO
    obtain ⟨⟨hO1, hO2⟩, hO3⟩ := hO
    rw [hdst] at hs2 ⊢
    have h3 : aJ C n ⟨(d, .ptr S.g0 0) :: dr n φ, S.bxT k, S.lv k, S.gen k⟩ (kv (S.ord k) G') act2.tmps w2 := by
      refine aJ.bl (gen' := S.gen k) hs2 (S.ord k) (gP hO1) (Nat.le_of_ble_eq_true hO2) (fun i hi => ?_) (fun t x hx => ?_) (fun i l' hl' => ?_) (fun i hi => ?_)
      · have h4 := k0 hO3 i (by rw [← hnb.h]; exact hi)
        simpa using h4
      · rw [bc] at hx
        show ∃ a, look ((d, .ptr (S.gen k) 0) :: dr n φ) t = some a ∧ bl (S.ord k) a = x
        rw [bc]
        split at hx
        · rename_i e
          rw [if_pos e]
          cases hx
          exact ⟨_, rfl, by simp only [bl, hpos]⟩
        · rename_i e
          rw [if_neg e]
          rw [hlook] at hx ⊢
          exact ⟨x, hx, hfix rfl t x hx⟩
      · exact gZ.le hBR i l' hl'
      · exact nZ hLR i hi
    refine ⟨{ h3 with frame := fun t a ha => by simp [look] at ha }, fun t x hx => h3.frame t x ?_⟩
    show look ((d, _) :: dr n φ) t = some x
    rw [oF hlook]
    exact hx
  · have hkc : ¬ S.cs[k]? = some i := fun h => nc (List.mem_of_getElem? h)
    rw [if_neg hkc, if_neg nal] at hK
    obtain ⟨hya, hr⟩ := hya k ph hkl hal
    have hfix' : ph = false → ∀ t x, bg φ o.dst a t = some x → bl (S.ord k) x = x := fun hph t x hx => by
      cases hdst : o.dst with
      | none => rw [hdst] at hx; exact hfix hph t x hx
      | some d =>
        rw [hdst] at hx
        simp only [bg] at hx
        split at hx
        · cases hx; exact hr hph
        · exact hfix hph t x hx
    obtain ⟨_, ⟨hw, f, hf, hp⟩ | ⟨hw, rfl⟩⟩ := hya
    · rw [ep hs hw]
      simp only [if_true]
      refine .inl ?_
      have hg : cM P o ⟨tmps, []⟩ w fun v w' => Below w.heap.size w w' ∧ aO (az C G (S.gen k) w') v a := hp G tmps w (hs.iO fun t x hx => (hf t x hx).1)
      refine hg.wp fun v w' ⟨hb, hr⟩ => ?_
      rw [Act.put_eq]
      exact hK _ _ ⟨hb0, rfl, G, hs.step hb hd hr, hfix'⟩
    · rw [ep hs hw]
      simp only [Bool.false_eq_true, if_false]
      rw [Act.put_eq]
      exact hK _ _ ⟨hb0, rfl, G, hs.step (Below.refl _ _) hd (.tup #[] [] rfl (by simp)), hfix'⟩
def CD (P : Program) (T : bU P) (C : Ctx) (n : Nat) (S : gz) (ops : Array Oper) (Q : St → Prop) (l : List Oper) (i : Nat) (f : List (Nat × A)) (k : Nat) (b : Bool) : Prop :=
  sC (YD P T C n S ops) (qS S ops) (fun σ => ∃ f', (∀ t, look f' t = σ.1 t) ∧ σ.2 = (S.cs.length, true) ∧ Q ⟨f', S.bxT S.cs.length, S.lv S.cs.length, S.gen S.cs.length⟩) l i (look f, k, b)
def kJ (ops : Array Oper) : List Nat → Bool
  | c :: c' :: r => b8 .any ops ops.size c' c && kJ ops (c' :: r)
  | _ => true
theorem l5 {ops : Array Oper} : ∀ {cs : List Nat}, kJ ops cs = true → ∀ k c c', cs[k]? = some c → cs[k + 1]? = some c' → b8 .any ops ops.size c' c = true
  | [], _, k, c, c', h, _ => by simp at h
  | [_], _, k, c, c', _, h => by simp at h
  | x :: y :: r, h, k, c, c', h1, h2 => by
    simp only [kJ, Bool.and_eq_true] at h
    cases k with
    | zero =>
      simp at h1 h2
      subst h1; subst h2
      exact h.1
    | succ k => exact l5 h.2 k c c' (by simpa using h1) (by simpa using h2)
def mY (o : List Nat) : List (Nat × A) → Prop
  | [] => True
  | (_, a) :: r => bl o a = a ∧ mY o r
theorem mY.at {o : List Nat} : ∀ {f : List (Nat × A)}, mY o f → ∀ t a, look f t = some a → bl o a = a
  | [], _, t, a, h => by simp [look] at h
  | (s, x) :: r, hf, t, a, h => by
    rw [bc] at h
    split at h
    · cases h; exact hf.1
    · exact hf.2.at t a h
theorem W.qf (T : bU P) {nb : Nat} [hnb : NB C nb] {id : Nat} {l l1 l2 : List Oper} {f : List (Nat × A)} {bx : List (Nat × List A)} {lv : List Nat} {gen : Nat} {Q : Exit → St → Prop} (S : gz) (b0 : Bool) (m : Nat) (hB : ik m l.toArray = true) (hch : kJ l.toArray S.cs = true) (h1 : l.take m = l1) (h2 : l.drop m = l2)
    (hok : b0 = false → nD S nb S.cs.length ∧ mY (S.ord 0) f) (e1 : ∀ g c, au (S.bx 0 b0) g = some c → au bx g = some c) (e2 : S.lv 0 = lv) (e3 : Nat.ble gen (S.gen 0) = true)
    (h : CD P T C n S l.toArray (WO P C n l.toArray Q l2) l1 0 f 0 b0) : W P C n (.region id l.toArray true) Q ⟨f, bx, lv, gen⟩ := by
  subst h1; subst h2; subst e2
  intro tmps w ⟨G, hs⟩
  have hs : aJ C n ⟨f, bx, S.lv 0, S.gen 0⟩ G tmps w := aJ.tV hs (g := S.gen 0) (Nat.le_of_ble_eq_true e3)
  have hs : aJ C n ⟨f, S.bx 0 b0, S.lv 0, S.gen 0⟩ G tmps w := { hs with box := fun g c hc => hs.box g c (e1 g c hc) }
  simp only [ik, Bool.and_eq_true] at hB
  obtain ⟨⟨⟨hm, hw⟩, hfore⟩, hlex⟩ := hB
  have hm : m ≤ l.length := by simpa using Nat.le_of_ble_eq_true hm
  have hb : Below w.heap.size w { w with drawn := w.drawn + 1 } := (Below.refl _ w).drew
  have hs' : cZ C n (S.bx 0 b0) (S.lv 0) (S.gen 0) (look f) G tmps { w with drawn := w.drawn + 1 } := cZ.rV (hs.gy hb).2
  have hlen : (l.take m).length = m := by simp; omega
  refine wp_region_any T.mixed ?_
  have hsz : l.toArray.size = (l.take m).length + (l.drop m).length := by simp; omega
  rw [hsz]
  have hcl : dA .any l.toArray (Array.replicate ((l.take m).length + (l.drop m).length) false) := fun j oj _ hl _ _ _ => by
    by_cases q : j < (l.take m).length + (l.drop m).length
    · simp only [Array.getD_eq_getD_getElem?, Array.getElem?_replicate] at hl
      rw [if_pos q] at hl
      cases hl
    · simp only [Array.getD_eq_getD_getElem?, Array.getElem?_replicate] at hl
      rw [if_neg q] at hl
      cases hl
  refine kt (m := m) (Sm := vo C n S b0) (Y := YD P T C n S l.toArray) (ef := qS S l.toArray) (Q := fun σ => ∃ f', (∀ t, look f' t = σ.1 t) ∧ σ.2 = (S.cs.length, true) ∧ WO P C n l.toArray Q (l.drop m) ⟨f', S.bxT S.cs.length, S.lv S.cs.length, S.gen S.cs.length⟩)
    (fun i e σ act w K hs hy hk => uR b0 (fun h => (hok h).1) i e σ act w K hs hy hk) (fun listed σ act w hs hc hsp ⟨f', e1, e2, hq⟩ => ?_) _ _ (look f, 0, b0) ⟨tmps, []⟩ _ ⟨fun h => h, rfl, G, hs', fun h => (hok h).2.at⟩ hcl ?_
  · obtain ⟨tmps, dfs⟩ := act
    obtain ⟨_, rfl, G, hs, _⟩ := hs
    rw [e2] at hs
    refine jK hw (kg hfore) (l.drop m) m listed ⟨tmps, []⟩ w (Nat.le_refl _) (by simp; omega) (fun j => by simp [List.getElem?_drop]) hc hsp.1 hsp.2.1 hsp.2.2 ?_
    exact hq tmps w ⟨G, hs.iO (fun t a ha => by rw [← e1]; exact ha)⟩
  · refine po hw (fun i j oi oj hi hj hij him hjm hap hno => vO (l5 hch) hi hj hij hap hno) (l.take m) 0 _ _ (by rw [hlen]; omega) (fun j hj => ?_) hcl (by simp; omega) (fun j hj => by omega) (fun j _ hj => ?_) (by rw [hlen]; rw [hsz, hlen] at hlex; exact hlex) h
    · rw [hlen] at hj
      rw [Nat.zero_add]
      simp [List.getElem?_take, hj]
    · have hj' : j < l.length := by simpa using hj
      have e : min m l.length + (l.length - m) = l.length := by omega
      simp [e, hj']
variable {op : Op} {ty : TypeId} {pos : String} {af : Array Edge} {a : A} {d i k : Nat} {rest : List Oper} {f : List (Nat × A)} {Q : St → Prop} {b : Bool}
theorem CD.nil (h : Q ⟨f, S.bxT S.cs.length, S.lv S.cs.length, S.gen S.cs.length⟩) (hk : Nat.beq k S.cs.length = true) : CD P T C n S ops Q [] i f k true := by
  have := Nat.eq_of_beq_eq_true hk
  subst this
  exact ⟨f, fun _ => rfl, rfl, h⟩
def pC (p : Nat → Bool → Prop) : Nat → Prop
  | 0 => p 0 false ∧ p 0 true
  | k + 1 => p (k + 1) false ∧ p (k + 1) true ∧ pC p k
theorem pC.at {p : Nat → Bool → Prop} : ∀ {m : Nat}, pC p m → ∀ k b, k ≤ m → p k b
  | 0, h, k, b, hk => by
    obtain rfl : k = 0 := by omega
    cases b
    · exact h.1
    · exact h.2
  | m + 1, h, k, b, hk => by
    rcases Nat.lt_or_ge k (m + 1) with hlt | hge
    · exact h.2.2.at k b (by omega)
    · obtain rfl : k = m + 1 := by omega
      cases b
      · exact h.1
      · exact h.2.1
def rB (x : Nat) (l : List Nat) : Bool := l.any fun y => Nat.beq x y
theorem tx {x : Nat} {l : List Nat} (h : rB x l = false) : x ∉ l := fun hm => by
  have : rB x l = true := List.any_eq_true.2 ⟨x, hm, by simp⟩
  rw [h] at this
  cases this
theorem v5 (hp : pC (fun k b => e9 S ops i k b = true → Pu P C n ⟨bW f (slotsOf op), S.bx k b, S.lv k, S.gen k⟩ ⟨some d, op, ty, pos, af, none⟩ a ∧ (b = false → bl (S.ord k) a = a)) S.cs.length)
    (hi : ops[i]? = some ⟨some d, op, ty, pos, af, none⟩) (h1 : rB i S.cs = false) (h2 : Nat.beq i S.al = false) (h3 : (Nat.ble k S.cs.length && e9 S ops i k b) = true) (hd : Nat.blt d n = true)
    (h : CD P T C n S ops Q rest (i + 1) ((d, a) :: f) k b) : CD P T C n S ops Q (⟨some d, op, ty, pos, af, none⟩ :: rest) i f k b := by
  simp only [Bool.and_eq_true] at h3
  have nc := tx h1
  have na : i ≠ S.al := fun e => by subst e; simp at h2
  refine ⟨a, ⟨_, hi, hd, Nat.le_of_ble_eq_true h3.1, h3.2, .inr (.inr ⟨nc, na, fun k b hk ha => ⟨YA.oW (hp.at k b hk ha).1 hd, (hp.at k b hk ha).2⟩⟩)⟩, ?_⟩
  rw [jV hi]
  simp only [if_neg na, if_neg (fun e => nc (List.mem_of_getElem? e) : ¬ S.cs[k]? = some i)]
  unfold CD at h
  rw [dV] at h
  exact h
theorem aQ (h0 : Pu P C n ⟨bW f (slotsOf op), S.bx k b, S.lv k, S.gen k⟩ ⟨some d, op, ty, pos, af, none⟩ a) (hp : pC (fun k b => e9 S ops i k b = true → Pu P C n ⟨bW f (slotsOf op), S.bx k b, S.lv k, S.gen k⟩ ⟨some d, op, ty, pos, af, none⟩ a ∧ (b = false → bl (S.ord k) a = a)) S.cs.length)
    (hi : ops[i]? = some ⟨some d, op, ty, pos, af, none⟩) (h1 : rB i S.cs = false) (h2 : Nat.beq i S.al = false) (h3 : (Nat.ble k S.cs.length && e9 S ops i k b) = true) (hd : Nat.blt d n = true)
    (h : CD P T C n S ops Q rest (i + 1) ((d, a) :: f) k b) : CD P T C n S ops Q (⟨some d, op, ty, pos, af, none⟩ :: rest) i f k b := v5 hp hi h1 h2 h3 hd h
theorem kC (hx : ∀ b, e9 S ops i k b = true → ∀ g, WO P C n ops (fun e st => e = .normal ∧ st = ⟨(d, a) :: (bW f (slotsOf op) ++ g), S.bx (k + 1) b, S.lv (k + 1), S.gen (k + 1)⟩) [⟨some d, op, ty, pos, af, none⟩] ⟨bW f (slotsOf op) ++ g, S.bx k b, S.lv k, S.gen k⟩)
    (hi : ops[i]? = some ⟨some d, op, ty, pos, af, none⟩) (h1 : S.cs[k]? = some i) (h2 : Nat.beq i S.al = false) (h3 : e9 S ops i k b = true) (hr : e9 S ops i k false = true → bl (S.ord (k + 1)) a = a) (hd : Nat.blt d n = true) (h : CD P T C n S ops Q rest (i + 1) ((d, a) :: f) (k + 1) b) : CD P T C n S ops Q (⟨some d, op, ty, pos, af, none⟩ :: rest) i f k b := by
  have na : i ≠ S.al := fun e => by subst e; simp at h2
  refine ⟨a, ⟨_, hi, hd, Nat.le_of_lt (List.getElem?_eq_some_iff.1 h1).1, h3, .inl ⟨h1, na, fun b hb => ⟨rfl, bW f (slotsOf op), fun t x hx => ?_, fun g => hx b hb g⟩, hr⟩⟩, ?_⟩
  · obtain ⟨h1, h2⟩ := c5 hx
    exact ⟨h1, List.mem_append.2 (.inl h2)⟩
  · rw [jV hi]
    simp only [if_neg na, if_pos h1]
    unfold CD at h
    rw [dV] at h
    exact h
theorem W.eM (T : bU P) {nb : Nat} [hnb : NB C nb] {id : Nat} {l l1 l2 : List Oper} {f : List (Nat × A)} {bx : List (Nat × List A)} {lv : List Nat} {gen : Nat} {Q : Exit → St → Prop} (gH : List (List (Nat × List A))) (lvs : List (List Nat)) (gens : List Nat) (cs : List Nat) (m : Nat) (hB : ik m l.toArray = true) (hch : kJ l.toArray cs = true) (h1 : l.take m = l1) (h2 : l.drop m = l2)
    (h : CD P T C n (uM (bx :: gH) (lv :: lvs) (gen :: gens) cs l.length) l.toArray (WO P C n l.toArray Q l2) l1 0 f 0 true) : W P C n (.region id l.toArray true) Q ⟨f, bx, lv, gen⟩ :=
  W.qf T (uM (bx :: gH) (lv :: lvs) (gen :: gens) cs l.length) true m hB hch h1 h2 (fun h => by cases h) (fun _ _ h => h) rfl (by show Nat.ble gen gen = true; simp) h
end
end Go.Ab
namespace Go.Ab
theorem iv {e e' : Exit} {d : Nat} {a a' : A} {f : List (Nat × A)} {bx bx' : List (Nat × List A)} {lv lv' : List Nat} {gen gen' : Nat} (he : e = e') (ha : a = a') (hb : bx = bx') (hl : lv = lv') (hg : gen = gen') :
    e = e' ∧ (⟨(d, a) :: f, bx, lv, gen⟩ : St) = ⟨(d, a') :: f, bx', lv', gen'⟩ := by subst he ha hb hl hg; exact ⟨rfl, rfl⟩
end Go.Ab
namespace Go.Ab
open Go.RowKit
def aV (es : List (List D)) (k : Nat) : List A := es.flatten.map A.d ++ List.replicate k .any
section
variable {C : Ctx} {n : Nat} {st : St} {G : Gh} {tmps : Array Value} {w : World}
theorem gK {sz : Nat} : ∀ {es : List (List D)}, (∀ (e : List D), e ∈ es → e.length = sz) → es.flatten.length = es.length * sz
  | [], _ => by simp
  | e :: es, h => by rw [List.flatten_cons, List.length_append, gK (fun x hx => h x (List.mem_cons_of_mem _ hx)), h e List.mem_cons_self, List.length_cons, Nat.succ_mul, Nat.add_comm]
theorem aJ.vj (h : aJ C n st G tmps w) {g b len cap sz : Nat} (hg : G.own g = some (.blk b len cap sz 0)) {es : List (List D)} {v : Value} (hx : eS w (bj C G) (.blk b len cap sz 0) v es) (lv : List Nat) (hlv : ∀ g' ∈ lv, g' ∈ st.lv ∧ g' ≠ g) :
    ∃ G', aJ C n ⟨st.f, (st.gen, aV es (cap * sz - len * sz)) :: st.bx, lv, st.gen + 1⟩ G' tmps w ∧ aO (az C G' (st.gen + 1) w) v (.sb st.gen es.length cap) := by
  obtain ⟨rfl, hlen, _, hl, hr⟩ := hx
  obtain ⟨hmine, hnb, huniq, cur, T, hcur, hcs, hlc, hcm, hz, hpos, _, hone⟩ := h.row g b len cap sz 0 hg
  let G' : Gh := ⟨fun x => if x = st.gen then some b else G.box x, fun x => if x = g then none else G.own x⟩
  have hgl := h.gown g _ hg
  have hblt : b < w.heap.size := (Array.getElem?_eq_some_iff.1 hcur).1
  have hpv : ∀ b' o, bj C G' b' o → bj C G b' o := by
    rintro b' o (hp | ⟨g', hp⟩ | ⟨g', len', cap', sz', pub', hp, hl'⟩)
    · exact .inl hp
    · simp only [G'] at hp
      split at hp
      · simp only [Option.some.injEq] at hp
        subst hp
        exact .inr (.inr ⟨g, len, cap, sz, 0, hg, Nat.zero_le _⟩)
      · exact .inr (.inl ⟨g', hp⟩)
    · simp only [G'] at hp
      split at hp
      · cases hp
      · exact .inr (.inr ⟨g', len', cap', sz', pub', hp, hl'⟩)
  have hle : (az C G st.gen w).le (az C G' (st.gen + 1) w) := jY h.fr h.fr (fun b o u hu hn => ⟨hu, fun hp => hn (hpv b o hp)⟩) (fun g' b' hb' => by
      simp only [G']
      rw [if_neg (Nat.ne_of_lt (h.gbox g' b' hb').1)]
      exact hb')
    (fun g' r' hg' hr' => by
      simp only [G'] at hr'
      split at hr'
      · cases hr'
      · exact hr') (Nat.le_succ _) (fun _ _ _ _ _ _ _ _ => rfl) (fun _ _ _ _ => rfl) (.refl w)
  have hfl := gK hl
  have hsub : len * sz ≤ cap * sz := Nat.mul_le_mul_right _ hlc
  refine ⟨G', { size := h.size, frame := h.dp hle, xold := h.xold, kold := h.kold, fr := h.fr, lent := ?_, box := ?_, gbox := ?_, inj := ?_, live := ?_, gown := ?_, row := ?_, mrow := ?_ }, ?_⟩
  · intro g' cells hc
    simp only [bA] at hc
    split at hc
    · rename_i e
      simp only [Option.some.injEq] at hc
      subst hc
      subst e
      refine ⟨b, cur, T, by simp [G'], hcur, ?_, fun i u hu => hone i u hu, fun i u a hu ha => ?_⟩
      · simp only [aV, List.length_append, List.length_map, List.length_replicate, hfl, hlen]; omega
      · unfold aV at ha
        rcases Nat.lt_or_ge i es.flatten.length with hi | hi
        · rw [List.getElem?_append_left (by rw [List.length_map]; exact hi), List.getElem?_map, Option.map_eq_some_iff] at ha
          obtain ⟨d, hd, rfl⟩ := ha
          have hi2 : i < len * sz := by rw [← hlen, ← hfl]; exact hi
          have hdiv : i / sz < es.length := by rw [hlen]; exact Nat.div_lt_of_lt_mul (by rw [Nat.mul_comm]; exact hi2)
          have he : es[i / sz]? = some es[i / sz] := by simp [hdiv]
          have hel := hl _ (List.mem_of_getElem? he)
          have hdd : es[i / sz][i % sz]? = some (es[i / sz][i % sz]'(by rw [hel]; exact Nat.mod_lt _ hz)) := by simp
          have hfg := gV hl _ _ _ _ he hdd
          rw [Nat.div_add_mod' i sz, hd] at hfg
          obtain ⟨u', hu', hud⟩ := hr _ _ _ _ he hdd
          rw [Nat.div_add_mod' i sz, bC hcur] at hu'
          rw [hu] at hu'
          cases hu'
          rw [Option.some.inj hfg]
          exact .d (hud.mono hle.cell)
        · rw [List.getElem?_append_right (by rw [List.length_map]; exact hi)] at ha
          have := List.eq_of_mem_replicate (List.mem_of_getElem? ha)
          subst this
          exact .any _
    · obtain ⟨b', cs, T', h1, h2, h3, h4, h5⟩ := h.box g' cells hc
      exact ⟨b', cs, T', by simp only [G']; rw [if_neg (Nat.ne_of_lt (h.gbox g' b' h1).1)]; exact h1, h2, h3, h4, fun i u a hu ha => (h5 i u a hu ha).mono hle⟩
  · intro g' b' hb
    simp only [G'] at hb
    split at hb
    · rename_i e
      simp only [Option.some.injEq] at hb
      subst hb
      subst e
      exact ⟨Nat.lt_succ_self _, hblt, hmine⟩
    · obtain ⟨h1, h2⟩ := h.gbox g' b' hb
      exact ⟨Nat.lt_succ_of_lt h1, h2⟩
  · intro g1 g2 b' h1 h2
    simp only [G'] at h1 h2
    split at h1 <;> split at h2
    · simp_all
    · simp only [Option.some.injEq] at h1; subst h1; exact absurd h2 (hnb g2)
    · simp only [Option.some.injEq] at h2; subst h2; exact absurd h1 (hnb g1)
    · exact h.inj g1 g2 b' h1 h2
  · intro g' hg'
    obtain ⟨h1, h2⟩ := hlv g' hg'
    obtain ⟨r', hr'⟩ := h.live g' h1
    exact ⟨r', by simp only [G']; rw [if_neg h2]; exact hr'⟩
  · intro g' r' hr'
    simp only [G'] at hr'
    split at hr'
    · cases hr'
    · exact Nat.lt_succ_of_lt (h.gown g' r' hr')
  · intro g' b' len' cap' sz' pub' hr'
    simp only [G'] at hr'
    split at hr'
    · cases hr'
    · rename_i e2
      obtain ⟨h4, h5, h6, h7⟩ := h.row g' b' len' cap' sz' pub' hr'
      have hne : b' ≠ b := fun e => by subst e; exact e2 (huniq g' len' cap' sz' pub' hr')
      refine ⟨h4, fun g2 h2 => ?_, fun g2 bE cap2 sz2 pub2 h2 => ?_, h7⟩
      · simp only [G'] at h2
        split at h2
        · simp only [Option.some.injEq] at h2; exact hne h2.symm
        · exact h5 g2 h2
      · simp only [G'] at h2
        split at h2
        · cases h2
        · exact h6 g2 bE cap2 sz2 pub2 h2
  · intro g' b' hr'
    simp only [G'] at hr'
    split at hr'
    · cases hr'
    · obtain ⟨h4, h4b, h5, me, clock, h6⟩ := h.mrow g' b' hr'
      refine ⟨h4, fun g2 h2 => ?_, fun g2 h2 => ?_, me, clock, h6⟩
      · simp only [G'] at h2
        split at h2
        · simp only [Option.some.injEq] at h2; subst h2; rw [hcur] at h6; cases h6
        · exact h4b g2 h2
      · simp only [G'] at h2
        split at h2
        · cases h2
        · exact h5 g2 h2
  · intro i b' hb
    have h1 := h.lent i b' hb
    simp only [G']
    rw [if_neg (Nat.ne_of_lt (h.gbox i b' h1).1)]
    exact h1
  · exact .sb _ st.gen es.length cap b (Nat.lt_succ_self _) (by simp [az, G']) (by rw [hlen]; exact ⟨hlc, hcm⟩) (by rw [hlen])
end
section
variable {P : Program} (T : bU P) {C : Ctx} {n : Nat} {ops : Array Oper} {Q : Exit → St → Prop} {rest : List Oper}
variable {f : List (Nat × A)} {bx : List (Nat × List A)} {lv : List Nat} {gen : Nat} {d : Nat} {op : Op} {ty : TypeId} {pos : String} {af : Array Edge} {a : A} {dst : Option Nat} {c : Code}
theorem vg (s : Nat) {g : Nat} {es : List (List D)} (hl : look f s = some (.xs g es)) (hgl : (lv.any fun h => Nat.beq h g) = true) (hsn : Nat.blt s n = true) (hp : 0 < es.length) {lv' : List Nat} (hlv : cY lv g = lv')
    (h : ∀ cap k, W P C n c Q ⟨(s, .sb gen es.length cap) :: f, (gen, aV es k) :: bx, lv', gen + 1⟩) : W P C n c Q ⟨f, bx, lv, gen⟩ := by
  subst hlv
  intro tmps w ⟨G, hs⟩
  obtain ⟨v, hv, hr⟩ := hs.frame _ _ hl
  obtain ⟨r, hgr⟩ := hs.live g (ie hgl)
  cases hr with
  | xs _ _ _ hgg h1 hrow =>
  have hx := hrow r hgr
  cases r with
  | nil => obtain ⟨_, rfl⟩ := hx; simp at hp
  | zero b => obtain ⟨_, rfl⟩ := hx; simp at hp
  | mp b => exact hx.elim
  | blk b len cap sz pub =>
    obtain rfl : pub = 0 := hx.2.2.1
    obtain ⟨G', hs', hv'⟩ := hs.vj hgr hx (cY lv g) (fun g' hg' => dJ hg')
    refine h cap (cap * sz - len * sz) tmps w ⟨G', ?_⟩
    have := hs'.set (d := s) (Nat.le_of_ble_eq_true hsn) hv'
    rwa [fX hv] at this
theorem vK {x : Operand} {t e : Nat} {td : bH} {g m cap : Nat} (hx : av f x = some (.sb g m cap)) (ht : au T.l t = some td) (hk : td.k = .slice e) :
    Pu P C n ⟨f, bx, lv, gen⟩ ⟨dst, .call ⟨.builtin .len, #[x], #[t]⟩, ty, pos, af, none⟩ (.d (.v (.int .i64 m))) := by
  refine dg.pu fun G tmps w hs => ?_
  have hr := hs.av hx
  generalize hv : Act.eval ⟨tmps, []⟩ x = v at hr
  cases hr with
  | sb _ _ _ _ b hgg hb hn h2 =>
  refine ⟨.int .i64 m, ?_, .d (.v _ ?_)⟩
  · unfold execOp
    show Sem.run P (do let d ← resolve (Act.eval ⟨tmps, []⟩) ⟨.builtin .len, #[x], #[t]⟩ ty; invoke d.target d.args) w = _
    simp only [resolve, List.map_toArray, List.map_cons, List.map_nil, hv, h2, Sem.run_bind, Sem.run_pure, Result.andThen_ok, invoke, builtin, Builtin.len_]
    simp [run_underlying (T.de ht hk), goInt]
    rfl
  · obtain ⟨h3, h4⟩ := hn
    simp only [maxLen] at h4
    simp [cS, IntKind.min, IntKind.max, IntKind.signed, IntKind.bits]
    omega
theorem bk {t e : Nat} {x ix : Operand} {td ed : bH} {g m cap : Nat} {k : IntKind} {i : Int} (hx : av f x = some (.sb g m cap)) (hi : av f ix = some (.d (.v (.int k i)))) (ht : au T.l t = some td) (hk : td.k = .slice e) (he : au T.l e = some ed)
    (h0 : 0 ≤ i) (hlt : i.toNat < m) {off : Nat} (ho : i.toNat * ed.n = off) : Pu P C n ⟨f, bx, lv, gen⟩ ⟨dst, .indexAddr t x ix, ty, pos, af, none⟩ (.ptr g off) := by
  subst ho
  refine dg.pu fun G tmps w hs => ?_
  have hu := T.de ht hk
  have hrx := hs.av hx
  have hri := hs.av hi
  generalize hvi : Act.eval ⟨tmps, []⟩ ix = vi at hri
  cases hri with | d hri => cases hri with | v _ _ =>
  generalize hvx : Act.eval ⟨tmps, []⟩ x = vx at hrx
  cases hrx with
  | sb _ _ _ _ b hgg hb hn h2 =>
  refine ⟨.pointer (some ⟨b, i.toNat * ed.n, none⟩), ?_, .ptr _ g _ b hgg hb rfl⟩
  unfold execOp
  show Sem.run P _ w = .ok _ w
  have hc2 : 0 ≤ i ∧ i < (m : Int) := ⟨h0, by omega⟩
  simp only [hvi, hvx, h2, Instr.indexAt, asIntOf, Sem.run_bind, Sem.run_pure, Result.andThen_ok, run_underlying hu, hc2, and_self, if_true, T.sizeOf he]
  unfold Addr.add
  split
  · rename_i e; rw [e]
  · simp
theorem oA {es : List (List D)} {sz i k : Nat} {e : List D} (hl : ∀ (x : List D), x ∈ es → x.length = sz) (he : es[i]? = some e) : ∃ r, (aV es k).drop (i * sz) = e.map A.d ++ r := by
  have hi : i < es.length := (List.getElem?_eq_some_iff.1 he).1
  have h1 : es = es.take i ++ e :: es.drop (i + 1) := by
    have := List.drop_eq_getElem_cons hi
    rw [(List.getElem?_eq_some_iff.1 he).2] at this
    rw [← this, List.take_append_drop]
  have h2 : (es.take i).flatten.length = i * sz := by
    rw [gK (sz := sz) (fun x hx => hl x (List.mem_of_mem_take hx)), List.length_take, Nat.min_eq_left (Nat.le_of_lt hi)]
  refine ⟨(es.drop (i + 1)).flatten.map A.d ++ List.replicate k .any, ?_⟩
  have e3 : aV es k = (es.take i).flatten.map A.d ++ (e.map A.d ++ ((es.drop (i + 1)).flatten.map A.d ++ List.replicate k .any)) := by
    unfold aV
    conv => lhs; rw [h1]
    simp [List.append_assoc]
  rw [e3, ← h2, ← List.length_map (f := A.d), List.drop_left]
theorem mr {es : List (List D)} {sz k : Nat} (hl : ∀ (x : List D), x ∈ es → x.length = sz) : (aV es k).length = es.length * sz + k := by
  unfold aV
  rw [List.length_append, List.length_map, gK hl, List.length_replicate]
theorem p0 {es : List (List D)} {sz i k : Nat} {e cs : List D} (hl : ∀ (x : List D), x ∈ es → x.length = sz) (he : es[i]? = some e) (hc : cs.length = sz) : setAt (aV es k) (i * sz) (cs.map A.d) = aV (es.set i cs) k := by
  have hi : i < es.length := (List.getElem?_eq_some_iff.1 he).1
  have h1 : es = es.take i ++ e :: es.drop (i + 1) := by
    have := List.drop_eq_getElem_cons hi
    rw [(List.getElem?_eq_some_iff.1 he).2] at this
    rw [← this, List.take_append_drop]
  have h2 : (es.take i).flatten.length = i * sz := by
    rw [gK (sz := sz) (fun x hx => hl x (List.mem_of_mem_take hx)), List.length_take, Nat.min_eq_left (Nat.le_of_lt hi)]
  have h4 : e.length = sz := hl e (List.mem_of_getElem? he)
  have e3 : aV es k = (es.take i).flatten.map A.d ++ (e.map A.d ++ ((es.drop (i + 1)).flatten.map A.d ++ List.replicate k .any)) := by
    unfold aV
    conv => lhs; rw [h1]
    simp [List.append_assoc]
  have e4 : aV (es.set i cs) k = (es.take i).flatten.map A.d ++ (cs.map A.d ++ ((es.drop (i + 1)).flatten.map A.d ++ List.replicate k .any)) := by
    unfold aV
    rw [List.set_eq_take_append_cons_drop, if_pos hi]
    simp [List.append_assoc]
  unfold setAt
  have h5 : ((es.take i).flatten.map A.d).length = i * sz := by rw [List.length_map, h2]
  have h6 : (cs.map A.d).length = (e.map A.d).length := by rw [List.length_map, List.length_map, hc, h4]
  rw [e3, e4, ← h5, List.take_left, h6, ← List.drop_drop, List.drop_left, List.drop_left, List.append_assoc]
theorem dm {t : Nat} {x : Operand} {td : bH} {g i k : Nat} {es : List (List D)} {e : List D} (hx : av f x = some (.ptr g (i * td.n))) (ht : au T.l t = some td) (hk : td.k.agg = true) (hb : au bx g = some (aV es k)) (hl : ∀ (x : List D), x ∈ es → x.length = td.n) (he : es[i]? = some e) :
    Pu P C n ⟨f, bx, lv, gen⟩ ⟨dst, .load t x, ty, pos, af, none⟩ (.ag e) := by
  refine dg.pu fun G tmps w hs => ?_
  obtain ⟨b, cs, T', h1, h2, h3, h4, h5⟩ := gh hs hb (hs.av hx)
  have hel := hl e (List.mem_of_getElem? he)
  obtain ⟨r, hr⟩ := oA (k := k) hl he
  have hcell : ∀ j y, e[j]? = some y → (aV es k)[i * td.n + j]? = some (.d y) := fun j y hj => by
    rw [← List.getElem?_drop, hr, List.getElem?_append_left (by rw [List.length_map]; exact (List.getElem?_eq_some_iff.1 hj).1), List.getElem?_map, hj]; rfl
  have hall : ∀ j y, e[j]? = some y → a9 w (bj C G) (cs[i * td.n + j]?.getD default) y := fun j y hj => by
    have hc := hcell j y hj
    have hj' : i * td.n + j < cs.size := by rw [h3]; exact (List.getElem?_eq_some_iff.1 hc).1
    have e1 : cs[i * td.n + j]? = some cs[i * td.n + j] := by simp [hj']
    have := h5 _ _ _ e1 hc
    rw [e1]
    generalize cs[i * td.n + j] = u at this ⊢
    cases this with | d hd => exact hd
  obtain ⟨v, h6, h7⟩ := gp (E := az C G gen w) T (t := t) (a := .ag e) (b := b) (off := i * td.n) (u := fun j => cs[i * td.n + j]?.getD default) (l := e) (fun j hj => by
      have hc := hcell j e[j] (by simp [hj])
      have hj' : i * td.n + j < cs.size := by rw [h3]; exact (List.getElem?_eq_some_iff.1 hc).1
      have e1 : cs[i * td.n + j]? = some cs[i * td.n + j] := by simp [hj']
      show cellAt w b (i * td.n + j) = _
      rw [bC h2, e1]; rfl) hall (by unfold gr; rw [ht]; simp [hk, ← hel])
  refine ⟨v, ?_, h7⟩
  rw [fB rfl]
  show Sem.run P _ w = .ok _ w
  have h6' : (Instr.loadAt t (.pointer (some ⟨b, i * td.n, none⟩))).run P w = .ok v w := h6
  simp only [h1, Sem.run_bind, h6', Result.andThen_ok, Sem.run_pure]
theorem fZ {t : TypeId} {x y : Operand} {td : bH} {g i k : Nat} {es : List (List D)} {e cs : List D} (hx : av f x = some (.ptr g (i * td.n))) (ht : au T.l t = some td) (hb : au bx g = some (aV es k)) (ha : av f y = some (.ag cs)) (hl : ∀ (x : List D), x ∈ es → x.length = td.n) (he : es[i]? = some e)
    (hc : cs.length = td.n) (hz : Nat.blt 0 td.n = true) {es' : List (List D)} (hes : es.set i cs = es')
    (h : WO P C n ops Q rest ⟨f, (g, aV es' k) :: bx, lv, gen⟩) : WO P C n ops Q (⟨none, .store t x y, ty, pos, af, none⟩ :: rest) ⟨f, bx, lv, gen⟩ := by
  have hz := Nat.le_of_ble_eq_true hz
  have hi : i < es.length := (List.getElem?_eq_some_iff.1 he).1
  refine WO.store (st := ⟨f, bx, lv, gen⟩) T rfl rfl rfl hx hb ha (cs := cs.map A.d) rfl (by unfold bZ; rw [ht]; simp [hc]) (by rw [List.length_map]; omega) ?_ ?_
  · apply Nat.ble_eq_true_of_le
    rw [List.length_map, hc, mr hl]
    have : (i + 1) * td.n ≤ es.length * td.n := Nat.mul_le_mul_right _ hi
    rw [Nat.succ_mul] at this
    omega
  · rw [p0 hl he hc, hes]
    exact h
end
end Go.Ab
namespace Go.Tb
open Go.Ab
def br (r : List aH) (i : Nat) : aH := r.getD i eV
def dh (cols : List Col) (s : ByteArray) : Option Nat := cols.findIdx? fun x => decide (x.name = s)
def b7 (cols : List Col) (s : ByteArray) : Nat := (dh cols s).getD 0
def wB : ByteArray := B #[98]
def cq (op : Int) (on : List ByteArray) (aa : ByteArray) : eE := ⟨op, ⟨0, B #[], eV, []⟩, [], on, [], [], 0, aa⟩
def gn (op : Int) (on : List ByteArray) (a : bo) : CT := if bd a ≠ 0 then ([], bd a) else dP [] a.cols (cq op on (B #[]))
def cX (op : Int) (on : List ByteArray) (a b : bo) : CT := if bd a ≠ 0 then ([], bd a) else if bd b ≠ 0 then ([], bd b) else dP [⟨wB, b⟩] a.cols (cq op on wB)
def fb : bo := ⟨[], []⟩
def dB : List bo → Int
  | [] => 0
  | t :: r => if bd t ≠ 0 then bd t else dB r
def eH (op : Int) (on : List ByteArray) (l : List bo) : CT := if dB l ≠ 0 then ([], dB l) else
  dP (if 1 < l.length then [⟨wB, l.getD 1 fb⟩] else []) (l.getD 0 fb).cols (cq op on (if 1 < l.length then wB else B #[]))
theorem nf (op : Int) (on : List ByteArray) (a : bo) : eH op on [a] = gn op on a := by
  unfold eH gn
  by_cases h : bd a = 0 <;> simp [dB, h]
theorem mN (op : Int) (on : List ByteArray) (a b : bo) : eH op on [a, b] = cX op on a b := by
  unfold eH cX
  by_cases h : bd a = 0 <;> by_cases h2 : bd b = 0 <;> simp [dB, h, h2]
theorem kZ : ∀ {l : List bo}, dB l = 0 → ∀ t ∈ l, bd t = 0
  | [], _, t, ht => by cases ht
  | u :: r, h, t, ht => by
    simp only [dB] at h
    split at h
    · rename_i h1; exact absurd h h1
    · rename_i h1
      rcases List.mem_cons.1 ht with rfl | ht
      · simpa using h1
      · exact kZ h t ht
theorem c9 {t : bo} (h : bd t = 0) : t.cols.length ≤ 32 ∧ t.rows.length ≤ 20000 := by
  unfold bd at h
  split at h
  · cases h
  · omega
def cE (not : List ByteArray) : List Col → Nat → List Nat
  | [], _ => []
  | c :: r, i => if not.any (fun x => decide (c.name = x)) then cE not r (i + 1) else i :: cE not r (i + 1)
def bt (r : List aH) (at_ : List Nat) : List aH := at_.map (br r)
def ij (a b : List aH) : Bool := decide (a = b) && !(a.any fun x => decide (eV = x))
structure om where
  left : List Nat
  right : List Nat
  m0 : Nat
  m1 : Nat
  t0 : Nat
  t1 : Nat
  more : List Nat
def da (r : List aH) (i j : Nat) : Bool := decide ((br r i).kind = 2) && (decide ((br r j).kind = 2) && decide ((br r i).n < (br r j).n))
def oh (o : om) (x y : List aH) : Int := if (br x o.m0).n < (br y o.t0).n then (br y o.t0).n else (br x o.m0).n
def qG (o : om) (x y : List aH) : Int := if (br y o.t1).n < (br x o.m1).n then (br y o.t1).n else (br x o.m1).n
def j8 (o : om) (x y : List aH) : Bool := da y o.t0 o.t1 && (decide (oh o x y < qG o x y) && ij (bt x o.left) (bt y o.right))
def kV (r : List aH) (i : Nat) (n : Int) : List aH := r.set i ⟨(br r i).kind, n, (br r i).s⟩
def sH (o : om) (x y : List aH) : List aH := kV (kV (x ++ bt y o.more) o.m0 (oh o x y)) o.m1 (qG o x y)
def mx (o : om) (x : List aH) : List (List aH) → List (List aH) → Option (List (List aH))
  | [], out => some out
  | y :: r, out => if j8 o x y = true then (if out.length = 20000 then none else mx o x r (out ++ [sH o x y])) else mx o x r out
def jx (o : om) (bs : List (List aH)) : List (List aH) → List (List aH) → Option (List (List aH))
  | [], out => some out
  | x :: r, out => if da x o.m0 o.m1 = true then (match mx o x bs out with | none => none | some o2 => jx o bs r o2) else jx o bs r out
def vh (a b : bo) (on : List ByteArray) : om :=
  ⟨on.map (b7 a.cols), on.map (b7 b.cols), b7 a.cols aN, b7 a.cols bM, b7 b.cols aN, b7 b.cols bM, cE (on ++ [aN, bM]) b.cols 0⟩
def dS (a b : bo) (on : List ByteArray) : bo × Int :=
  if (cX 7 on a b).2 ≠ 0 then (fb, (cX 7 on a b).2) else
    match jx (vh a b on) b.rows a.rows [] with
    | none => (fb, 7)
    | some rows => (⟨(cX 7 on a b).1, rows⟩, 0)
structure sZ (a b : bo) (on : List ByteArray) (spans : List ByteArray) : Prop where
  ga : bd a = 0
  gb : bd b = 0
  ons : ∀ s ∈ on, ∃ i j c d, dh a.cols s = some i ∧ dh b.cols s = some j ∧ a.cols[i]? = some c ∧ b.cols[j]? = some d ∧ c.type = d.type
  spa : ∀ s ∈ spans, ∃ i c, dh a.cols s = some i ∧ a.cols[i]? = some c ∧ c.type = 2
  spb : ∀ s ∈ spans, ∃ i c, dh b.cols s = some i ∧ b.cols[i]? = some c ∧ c.type = 2
  len : on.length ≤ 16
end Go.Tb
namespace Go.Ab
section
variable {P : Program} {C : Ctx} {n : Nat} {ops : Array Oper} {c : Nat}
variable {op : Op} {ty : TypeId} {pos : String} {af : Array Edge} {a : A} {d i : Nat} {rest l : List Oper} {f : List (Nat × A)} {Q : St → Prop} {ph : Bool} {dst : Option Nat}
variable {bx0 bx1 : List (Nat × List A)} {lv0 lv1 : List Nat} {gen0 gen1 : Nat}
theorem u3 {o : Oper} (hdst : o.dst = some d) (h0 : YA P C n bx0 lv0 gen0 ops o a (look f)) (h1 : YA P C n bx1 lv1 gen1 ops o a (look f)) (hi : ops[i]? = some o) (hc : Nat.beq i c = false) (b0 : bu .any ops i c = false) (b1 : bu .any ops c i = false)
    (h : CC P C n ⟨bx0, bx1, lv0, lv1, gen0, gen1⟩ ops c Q rest (i + 1) ((d, a) :: f) ph) : CC P C n ⟨bx0, bx1, lv0, lv1, gen0, gen1⟩ ops c Q (o :: rest) i f ph := by
  have hic : i ≠ c := fun e => by subst e; simp at hc
  refine ⟨a, ⟨_, hi, h0.1, .inr ⟨hic, fun _ => h0, fun _ => h1, fun _ => b0, fun _ => b1⟩⟩, ?_⟩
  rw [fH hi, hdst]
  simp only [if_neg hic]
  unfold CC at h
  rw [dV] at h
  exact h
theorem lA {j e : Nat} {want : Bool} (hj : cF ops j = some e) (hl : look f e = some (.d (.v (.bool want)))) (h1 : Pu P C n ⟨bW f (slotsOf op), bx1, lv1, gen1⟩ ⟨some d, op, ty, pos, af, none⟩ a) (h0 : Pu P C n ⟨bW f (slotsOf op), bx0, lv0, gen0⟩ ⟨some d, op, ty, pos, af, none⟩ a)
    (hi : ops[i]? = some ⟨some d, op, ty, pos, af, some (j, want)⟩) (hc : Nat.beq i c = false) (b0 : bu .any ops i c = false) (b1 : bu .any ops c i = false) (hd : Nat.blt d n = true)
    (h : CC P C n ⟨bx0, bx1, lv0, lv1, gen0, gen1⟩ ops c Q rest (i + 1) ((d, a) :: f) ph) : CC P C n ⟨bx0, bx1, lv0, lv1, gen0, gen1⟩ ops c Q (⟨some d, op, ty, pos, af, some (j, want)⟩ :: rest) i f ph := by
  have hf : ∀ t x, look (bW f (slotsOf op)) t = some x → look f t = some x ∧ t ∈ (⟨some d, op, ty, pos, af, some (j, want)⟩ : Oper).looksAt ops := fun t x hx => by
    obtain ⟨h1, h2⟩ := c5 hx
    exact ⟨h1, List.mem_append.2 (.inl h2)⟩
  have hw : fk ops ⟨some d, op, ty, pos, af, some (j, want)⟩ (look f) true := ⟨e, _, hj, hl, .inl ⟨want, rfl, by simp⟩⟩
  exact u3 rfl ⟨hd, .inl ⟨hw, _, hf, h0⟩⟩ ⟨hd, .inl ⟨hw, _, hf, h1⟩⟩ hi hc b0 b1 h
theorem dY {j e : Nat} {want b : Bool} (hj : cF ops j = some e) (hl : look f e = some (.d (.v (.bool b)))) (hb : (b == want) = false)
    (hi : ops[i]? = some ⟨some d, op, ty, pos, af, some (j, want)⟩) (hc : Nat.beq i c = false) (b0 : bu .any ops i c = false) (b1 : bu .any ops c i = false) (hd : Nat.blt d n = true)
    (h : CC P C n ⟨bx0, bx1, lv0, lv1, gen0, gen1⟩ ops c Q rest (i + 1) ((d, .tup []) :: f) ph) : CC P C n ⟨bx0, bx1, lv0, lv1, gen0, gen1⟩ ops c Q (⟨some d, op, ty, pos, af, some (j, want)⟩ :: rest) i f ph := by
  have hw : fk ops ⟨some d, op, ty, pos, af, some (j, want)⟩ (look f) false := ⟨e, _, hj, hl, .inl ⟨b, rfl, hb.symm⟩⟩
  exact u3 rfl ⟨hd, .inr ⟨hw, rfl⟩⟩ ⟨hd, .inr ⟨hw, rfl⟩⟩ hi hc b0 b1 h
theorem pP {dst : Option Nat} {j e : Nat} {want b : Bool} (hj : cF ops j = some e) (hl : look f e = some (.d (.v (.bool b))))
    (ht : b = true → CC P C n ⟨bx0, bx1, lv0, lv1, gen0, gen1⟩ ops c Q (⟨dst, op, ty, pos, af, some (j, want)⟩ :: rest) i ((e, .d (.v (.bool true))) :: f) ph)
    (hf : b = false → CC P C n ⟨bx0, bx1, lv0, lv1, gen0, gen1⟩ ops c Q (⟨dst, op, ty, pos, af, some (j, want)⟩ :: rest) i ((e, .d (.v (.bool false))) :: f) ph) : CC P C n ⟨bx0, bx1, lv0, lv1, gen0, gen1⟩ ops c Q (⟨dst, op, ty, pos, af, some (j, want)⟩ :: rest) i f ph := by
  have key : ∀ c, b = c → look ((e, A.d (.v (.bool c))) :: f) = look f := by
    intro c hc
    subst hc
    funext t
    rw [bc]
    split
    · rename_i h; subst h; exact hl.symm
    · rfl
  cases b
  · have := hf rfl; unfold CC at *; rw [key false rfl] at this; exact this
  · have := ht rfl; unfold CC at *; rw [key true rfl] at this; exact this
end
end Go.Ab
namespace Go.Tb
open Go.Ab
theorem jn {cols : List Col} {s : ByteArray} {c : Col} (h : a7 cols s = some c) : ∃ i, dh cols s = some i ∧ cols[i]? = some c ∧ c.name = s := by
  unfold a7 at h
  rw [List.find?_eq_some_iff_getElem] at h
  obtain ⟨hp, i, hi, hc, hmin⟩ := h
  refine ⟨i, ?_, by rw [← hc]; simp, of_decide_eq_true hp⟩
  unfold dh
  rw [List.findIdx?_eq_some_iff_getElem]
  exact ⟨hi, by rw [hc]; exact hp, fun j hj => by have := hmin j hj; simpa using this⟩
theorem jH {cols : List Col} {s : ByteArray} (h : c7 cols s = 0) : ∃ i c, dh cols s = some i ∧ cols[i]? = some c ∧ c.type = 2 := by
  unfold c7 at h
  cases hf : a7 cols s with
  | none => rw [hf] at h; exact absurd h (by decide)
  | some c =>
    rw [hf] at h
    obtain ⟨i, h1, h2, _⟩ := jn hf
    refine ⟨i, c, h1, h2, ?_⟩
    by_cases q : c.type = 2
    · exact q
    · simp [q] at h
theorem iU {cols : List Col} : ∀ {l : List ByteArray}, cz cols l = 0 → ∀ s ∈ l, ∃ i c, dh cols s = some i ∧ cols[i]? = some c ∧ c.type = 2
  | [], _, s, hs => by cases hs
  | x :: r, h, s, hs => by
    simp only [cz] at h
    split at h
    · rename_i h1; exact absurd h h1
    · rename_i h1
      rcases List.mem_cons.1 hs with rfl | hs
      · exact jH (by simpa using h1)
      · exact iU h s hs
theorem nv {a b : List Col} : ∀ {l : List ByteArray}, dO a b l = 0 → ∀ s ∈ l, ∃ i j c d, dh a s = some i ∧ dh b s = some j ∧ a[i]? = some c ∧ b[j]? = some d ∧ c.type = d.type
  | [], _, s, hs => by cases hs
  | x :: r, h, s, hs => by
    simp only [dO] at h
    cases h1 : a7 a x with
    | none => rw [h1] at h; cases h
    | some c =>
      cases h2 : a7 b x with
      | none => rw [h1, h2] at h; cases h
      | some d =>
        rw [h1, h2] at h
        dsimp only at h
        split at h
        · cases h
        · rename_i h3
          rcases List.mem_cons.1 hs with rfl | hs
          · obtain ⟨i, p1, p2, _⟩ := jn h1
            obtain ⟨j, q1, q2, _⟩ := jn h2
            exact ⟨i, j, c, d, p1, q1, p2, q2, by simpa using h3⟩
          · exact nv h s hs
theorem nC {cols : List Col} : ∀ {l : List ByteArray} {out : List Col}, (cd cols out l).2 = 0 → ∀ s ∈ l, ∃ i c, dh cols s = some i ∧ cols[i]? = some c
  | [], _, _, s, hs => by cases hs
  | x :: r, out, h, s, hs => by
    simp only [cd] at h
    cases h1 : a7 cols x with
    | none => rw [h1] at h; cases h
    | some c =>
      rw [h1] at h
      rcases List.mem_cons.1 hs with rfl | hs
      · obtain ⟨i, p1, p2, _⟩ := jn h1
        exact ⟨i, c, p1, p2⟩
      · exact nC h s hs
theorem jW {l : List ByteArray} {m : Int} (h : dN l m = 0) : l.length ≤ 16 := by
  unfold dN at h
  split at h
  · rename_i h1; exact absurd h h1
  · rename_i h1
    unfold dw at h1
    split at h1
    · simp at h1
    · split at h1
      · simp at h1
      · omega
theorem tH {op : Int} (hop : op = 7 ∨ op = 8) {on : List ByteArray} {a b : bo} (h : (cX op on a b).2 = 0) : sZ a b on (aR op) := by
  unfold cX at h
  split at h
  · rename_i h1; exact absurd h h1
  · rename_i h1
    split at h
    · rename_i h2; exact absurd h h2
    · rename_i h2
      have hn : op ≠ 1 ∧ op ≠ 2 ∧ op ≠ 3 ∧ op ≠ 4 ∧ op ≠ 9 ∧ op ≠ 5 ∧ op ≠ 6 := by omega
      unfold dP at h
      split at h
      · rename_i h3; exact absurd h h3
      · rename_i h3
        have h3 : bT (cq op on wB) = 0 := by simpa using h3
        have e : (cq op on wB).op = op := rfl
        rw [e, if_neg hn.1, if_neg hn.2.1, if_neg hn.2.2.1, if_neg hn.2.2.2.1, if_neg hn.2.2.2.2.1, if_pos (by omega)] at h
        have hf : cN [⟨wB, b⟩] (cq op on wB).table = some b := by
          show cN [⟨wB, b⟩] wB = some b
          simp [cN]
        unfold eN at h
        rw [hf] at h
        dsimp only at h
        unfold kr at h
        rw [e, show (cq op on wB).cols = on from rfl] at h
        split at h
        · cases h
        · split at h
          · rename_i h4; exact absurd h h4
          · rename_i h4
            split at h
            · rename_i h5; exact absurd h h5
            · rename_i h5
              split at h
              · rename_i h6; exact absurd h h6
              · rename_i h6
                refine ⟨by simpa using h1, by simpa using h2, nv (by simpa using h4), iU (by simpa using h5), iU (by simpa using h6), ?_⟩
                unfold bT at h3
                split at h3
                · cases h3
                · rw [e, if_neg hn.1, if_neg hn.2.1, if_neg hn.2.2.1, if_neg hn.2.2.2.1, if_neg hn.2.2.2.2.2.1, if_neg hn.2.2.2.2.1] at h3
                  split at h3
                  · cases h3
                  · exact jW h3
structure tI (a : bo) (on : List ByteArray) : Prop where
  ga : bd a = 0
  ons : ∀ s ∈ on, ∃ i c, dh a.cols s = some i ∧ a.cols[i]? = some c
  fr : ∃ i c, dh a.cols aN = some i ∧ a.cols[i]? = some c ∧ c.type = 2
  to : ∃ i c, dh a.cols bM = some i ∧ a.cols[i]? = some c ∧ c.type = 2
  len : on.length ≤ 16
theorem tM {on : List ByteArray} {a : bo} (h : (gn 9 on a).2 = 0) : tI a on := by
  unfold gn at h
  split at h
  · rename_i h1; exact absurd h h1
  · rename_i h1
    unfold dP at h
    split at h
    · rename_i h3; exact absurd h h3
    · rename_i h3
      have h3 : bT (cq 9 on (B #[])) = 0 := by simpa using h3
      have e : (cq 9 on (B #[])).op = 9 := rfl
      rw [e, if_neg (by decide), if_neg (by decide), if_neg (by decide), if_neg (by decide), if_pos rfl] at h
      unfold hY at h
      rw [show (cq 9 on (B #[])).cols = on from rfl] at h
      split at h
      · cases h
      · split at h
        · rename_i h4; exact absurd h h4
        · rename_i h4
          split at h
          · rename_i h5; exact absurd h h5
          · rename_i h5
            split at h
            · rename_i h6; exact absurd h h6
            · rename_i h6
              refine ⟨by simpa using h1, nC (by simpa using h4), jH (by simpa using h5), jH (by simpa using h6), ?_⟩
              unfold bT at h3
              split at h3
              · cases h3
              · rw [e, if_neg (by decide), if_neg (by decide), if_neg (by decide), if_neg (by decide), if_neg (by decide)] at h3
                try rw [if_pos rfl] at h3
                exact jW h3
theorem ny : ∀ {cols : List Col} {r : List aH}, cR cols r = 0 → ∀ (i : Nat) (c : Col) (v : aH), cols[i]? = some c → r[i]? = some v → cg c.type v = 0
  | [], _, _, i, c, v, h, _ => by simp at h
  | _ :: _, [], _, i, c, v, _, h => by simp at h
  | d :: cols, w :: r, h, i, c, v, h1, h2 => by
    simp only [cR] at h
    split at h
    · rename_i h3; exact absurd h h3
    · rename_i h3
      cases i with
      | zero => simp at h1 h2; subst h1; subst h2; simpa using h3
      | succ i => exact ny h i c v (by simpa using h1) (by simpa using h2)
theorem oJ {cols : List Col} : ∀ {l : List (List aH)}, eo cols l = 0 → ∀ r ∈ l, r.length = cols.length ∧ ∀ (i : Nat) (c : Col) (v : aH), cols[i]? = some c → r[i]? = some v → cg c.type v = 0
  | [], _, r, hr => by cases hr
  | x :: l, h, r, hr => by
    simp only [eo] at h
    split at h
    · cases h
    · rename_i h1
      split at h
      · rename_i h2; exact absurd h h2
      · rename_i h2
        rcases List.mem_cons.1 hr with rfl | hr
        · exact ⟨by simpa using h1, ny (by simpa using h2)⟩
        · exact oJ h r hr
theorem dU {t : bo} (h : bd t = 0) : ∀ r ∈ t.rows, r.length = t.cols.length ∧ ∀ (i : Nat) (c : Col) (v : aH), t.cols[i]? = some c → r[i]? = some v → cg c.type v = 0 := by
  unfold bd at h
  split at h
  · cases h
  · split at h
    · rename_i h2; exact absurd h h2
    · exact oJ h
theorem iJ {r : List aH} {i : Nat} (h : i < r.length) : r[i]? = some (br r i) := by
  unfold br
  rw [List.getD_eq_getElem?_getD, List.getElem?_eq_getElem h]; rfl
theorem vt {t : bo} (h : bd t = 0) {r : List aH} (hr : r ∈ t.rows) {i : Nat} {c : Col} (hc : t.cols[i]? = some c) : i < r.length ∧ cg c.type (br r i) = 0 := by
  obtain ⟨h1, h2⟩ := dU h r hr
  have hi : i < r.length := by rw [h1]; exact (List.getElem?_eq_some_iff.1 hc).1
  exact ⟨hi, h2 i c _ hc (iJ hi)⟩
end Go.Tb
namespace Go.Tb
open Go.Ab
@[reducible] def nc (i : Nat) : List D := ic (i : Int)
theorem jZ (not : List ByteArray) : ∀ (cols : List Col) (i : Nat), ∀ k ∈ cE not cols i, i ≤ k ∧ k < i + cols.length
  | [], _, k, h => by simp [cE] at h
  | c :: r, i, k, h => by
    simp only [cE] at h
    split at h
    · have := jZ not r (i + 1) k h
      simp; omega
    · rcases List.mem_cons.1 h with rfl | h
      · simp
      · have := jZ not r (i + 1) k h
        simp; omega
theorem cU {cols : List Col} {s : ByteArray} {i : Nat} (h : dh cols s = some i) : b7 cols s = i := by unfold b7; rw [h]; rfl
structure wa (o : om) (n m : Nat) : Prop where
  left : ∀ i ∈ o.left, i < n
  right : ∀ i ∈ o.right, i < m
  m0 : o.m0 < n
  m1 : o.m1 < n
  t0 : o.t0 < m
  t1 : o.t1 < m
  more : ∀ i ∈ o.more, i < m
theorem wb {a b : bo} {on : List ByteArray} (h : sZ a b on (aR 7)) : wa (vh a b on) a.cols.length b.cols.length := by
  have e : aR 7 = [aN, bM] := rfl
  rw [e] at h
  refine ⟨fun i hi => ?_, fun i hi => ?_, ?_, ?_, ?_, ?_, fun i hi => ?_⟩
  · obtain ⟨s, hs, rfl⟩ := List.mem_map.1 hi
    obtain ⟨i, j, c, d, h1, h2, h3, h4, _⟩ := h.ons s hs
    rw [cU h1]; exact (List.getElem?_eq_some_iff.1 h3).1
  · obtain ⟨s, hs, rfl⟩ := List.mem_map.1 hi
    obtain ⟨i, j, c, d, h1, h2, h3, h4, _⟩ := h.ons s hs
    rw [cU h2]; exact (List.getElem?_eq_some_iff.1 h4).1
  · obtain ⟨i, c, h1, h2, _⟩ := h.spa aN (by simp)
    show b7 a.cols aN < _
    rw [cU h1]; exact (List.getElem?_eq_some_iff.1 h2).1
  · obtain ⟨i, c, h1, h2, _⟩ := h.spa bM (by simp)
    show b7 a.cols bM < _
    rw [cU h1]; exact (List.getElem?_eq_some_iff.1 h2).1
  · obtain ⟨i, c, h1, h2, _⟩ := h.spb aN (by simp)
    show b7 b.cols aN < _
    rw [cU h1]; exact (List.getElem?_eq_some_iff.1 h2).1
  · obtain ⟨i, c, h1, h2, _⟩ := h.spb bM (by simp)
    show b7 b.cols bM < _
    rw [cU h1]; exact (List.getElem?_eq_some_iff.1 h2).1
  · have := jZ _ b.cols 0 i hi
    omega
theorem eL {cols : List Col} {l : List ByteArray} (h : ∀ s ∈ l, ∃ i, dh cols s = some i) : (l.map fun s => ic (idx (dh cols s))) = (l.map (b7 cols)).map nc := by
  rw [List.map_map]
  apply List.map_congr_left
  intro s hs
  obtain ⟨i, hi⟩ := h s hs
  show ic (idx (dh cols s)) = ic ((b7 cols s : Nat) : Int)
  rw [cU hi, hi]
  rfl
theorem mK {r : List aH} {i : Nat} {n : Int} : (r.map aH.c).set i (fO (br r i).c 1 [ci n]) = (kV r i n).map aH.c := by
  unfold kV
  rw [List.map_set]
  rfl
theorem kj (r : List aH) (i : Nat) (n : Int) : (kV r i n).length = r.length := by unfold kV; simp
end Go.Tb
namespace Go.Tb
section
variable {α : Type} [Inhabited α]
def el (l : List α) (k : Nat) : α := l.getD k default
theorem jT {l : List α} {i k : Nat} {x : α} (hi : i < l.length) : el (l.set i x) k = if k = i then x else el l k := by
  unfold el
  rw [List.getD_eq_getElem?_getD, List.getElem?_set, List.getD_eq_getElem?_getD]
  by_cases h : i = k
  · subst h; simp [hi]
  · rw [if_neg h, if_neg (fun e => h e.symm)]
theorem nA {l : List α} {k : Nat} (h : k < l.length) : l[k]? = some (el l k) := by
  unfold el
  rw [List.getD_eq_getElem?_getD, List.getElem?_eq_getElem h]; rfl
def dK (l : List α) (i j : Nat) : List α := (l.set i (el l j)).set j (el l i)
theorem du (l : List α) (i j : Nat) : (dK l i j).length = l.length := by unfold dK; simp
theorem sL {l : List α} {i j k : Nat} (hi : i < l.length) (hj : j < l.length) : el (dK l i j) k = if k = j then el l i else if k = i then el l j else el l k := by
  unfold dK
  rw [jT (by simpa using hj), jT hi]
theorem qW {l : List α} {i j : Nat} (hi : i < l.length) (hj : j < l.length) : (dK l i j).Perm l := by
  unfold dK
  have h1 := nA hi
  have h2 := nA hj
  rw [List.getElem?_eq_getElem hi] at h1
  rw [List.getElem?_eq_getElem hj] at h2
  rw [← Option.some.inj h1, ← Option.some.inj h2]
  exact List.set_set_perm hi hj
variable (lt : α → α → Bool)
def iZ (l : List α) (a b : Nat) : Prop := ∀ i j, a ≤ i → i < j → j < b → lt (el l j) (el l i) = false
structure v3 : Prop where
  asymm : ∀ x y, lt x y = true → lt y x = false
  trans : ∀ x y z, lt y x = false → lt z y = false → lt z x = false
structure bQ (l l' : List α) (a b : Nat) : Prop where
  len : l'.length = l.length
  perm : l'.Perm l
  out : ∀ k, k < a ∨ b ≤ k → el l' k = el l k
theorem bQ.refl (l : List α) (a b : Nat) : bQ l l a b := ⟨rfl, .refl _, fun _ _ => rfl⟩
theorem bQ.trans {l l' l2 : List α} {a b : Nat} (h : bQ l l' a b) (h2 : bQ l' l2 a b) : bQ l l2 a b :=
  ⟨h2.len.trans h.len, h2.perm.trans h.perm, fun k hk => (h2.out k hk).trans (h.out k hk)⟩
theorem bQ.mono {l l' : List α} {a b a' b' : Nat} (h : bQ l l' a b) (ha : a' ≤ a) (hb : b ≤ b') : bQ l l' a' b' :=
  ⟨h.len, h.perm, fun k hk => h.out k (by omega)⟩
theorem bQ.swap {l : List α} {i j a b : Nat} (hi : i < l.length) (hj : j < l.length) (h1 : a ≤ i) (h2 : i < b) (h3 : a ≤ j) (h4 : j < b) : bQ l (dK l i j) a b :=
  ⟨du l i j, qW hi hj, fun k hk => by rw [sL hi hj, if_neg (by omega), if_neg (by omega)]⟩
theorem iZ.out {l l' : List α} {a b c d : Nat} (h : iZ lt l a b) (ht : bQ l l' c d) (hd : b ≤ c ∨ d ≤ a) : iZ lt l' a b := fun i j h1 h2 h3 => by
  rw [ht.out i (by omega), ht.out j (by omega)]
  exact h i j h1 h2 h3
def gW (l : List α) (a : Nat) : Nat → List α
  | 0 => l
  | j + 1 => if a < j + 1 then (if lt (el l (j + 1)) (el l j) = true then gW (dK l (j + 1) j) a j else l) else l
def iK (l : List α) (a : Nat) : Nat → Nat → List α
  | 0, _ => l
  | c + 1, i => iK (gW lt l a i) a c (i + 1)
def eI (l : List α) (a b : Nat) : List α := iK lt l a (b - (a + 1)) (a + 1)
theorem lX (a : Nat) : ∀ (j : Nat) (l : List α), j < l.length → bQ l (gW lt l a j) a (j + 1)
  | 0, l, _ => .refl _ _ _
  | j + 1, l, h => by
    unfold gW
    split
    · split
      · exact (bQ.swap h (by omega) (by omega) (by omega) (by omega) (by omega)).trans ((lX a j (dK l (j + 1) j) (by rw [du]; omega)).mono (Nat.le_refl _) (by omega))
      · exact .refl _ _ _
    · exact .refl _ _ _
theorem kE (a : Nat) : ∀ (c i : Nat) (l : List α), i + c ≤ l.length → bQ l (iK lt l a c i) a (i + c)
  | 0, i, l, _ => .refl _ _ _
  | c + 1, i, l, h => by
    have h1 := lX lt a i l (by omega)
    have h2 := kE a c (i + 1) (gW lt l a i) (by rw [h1.len]; omega)
    rw [show i + 1 + c = i + (c + 1) by omega] at h2
    exact (h1.mono (Nat.le_refl _) (by omega)).trans h2
theorem fI {l : List α} {a b : Nat} (h : b ≤ l.length) : bQ l (eI lt l a b) a b := by
  unfold eI
  rcases Nat.lt_or_ge a b with hab | hab
  · have := kE lt a (b - (a + 1)) (a + 1) l (by omega)
    rw [show a + 1 + (b - (a + 1)) = b by omega] at this
    exact this
  · rw [show b - (a + 1) = 0 by omega]
    exact .refl _ _ _
end
end Go.Tb
namespace Go.Tb
section
variable {α : Type} [Inhabited α]
def db (l : List α) (a b : Nat) : Nat → Nat → List α
  | 0, _ => l
  | c + 1, i => db (dK l (a + i) (b + i)) a b c (i + 1)
theorem eK {a b lo hi : Nat} : ∀ (c i : Nat) (l : List α), a + i + c ≤ l.length → b + i + c ≤ l.length → lo ≤ a → lo ≤ b → a + i + c ≤ hi → b + i + c ≤ hi → bQ l (db l a b c i) lo hi
  | 0, i, l, _, _, _, _, _, _ => .refl _ _ _
  | c + 1, i, l, h1, h2, h3, h4, h5, h6 => by
    unfold db
    exact (bQ.swap (by omega) (by omega) (by omega) (by omega) (by omega) (by omega)).trans (eK c (i + 1) _ (by rw [du]; omega) (by rw [du]; omega) h3 h4 (by omega) (by omega))
def gv : Nat → List α → Nat → Nat → Nat → List α
  | 0, l, _, _, _ => l
  | f + 1, l, m, i, j => if i = j then db l (m - i) m i 0 else if j < i then gv f (db l (m - i) m j 0) m (i - j) j else gv f (db l (m - i) (m + j - i) i 0) m i (j - i)
theorem iB {lo hi : Nat} : ∀ (f : Nat) (l : List α) (m i j : Nat), i ≤ m → m + j ≤ l.length → lo ≤ m - i → m + j ≤ hi → bQ l (gv f l m i j) lo hi
  | 0, l, m, i, j, _, _, _, _ => .refl _ _ _
  | f + 1, l, m, i, j, h1, h2, h3, h4 => by
    unfold gv
    split
    · exact eK i 0 l (by omega) (by omega) (by omega) (by omega) (by omega) (by omega)
    · split
      · have h5 : bQ l (db l (m - i) m j 0) lo hi := eK j 0 l (by omega) (by omega) (by omega) (by omega) (by omega) (by omega)
        exact h5.trans (iB f _ m (i - j) j (by omega) (by rw [h5.len]; omega) (by omega) h4)
      · have h5 : bQ l (db l (m - i) (m + j - i) i 0) lo hi := eK i 0 l (by omega) (by omega) (by omega) (by omega) (by omega) (by omega)
        exact h5.trans (iB f _ m i (j - i) (by omega) (by rw [h5.len]; omega) (by omega) (by omega))
def oP (l : List α) : Nat → Nat → List α
  | 0, _ => l
  | c + 1, k => oP (dK l k (k + 1)) c (k + 1)
def oK (l : List α) : Nat → Nat → List α
  | 0, _ => l
  | c + 1, k => oK (dK l k (k - 1)) c (k - 1)
theorem oq {lo hi : Nat} : ∀ (c k : Nat) (l : List α), k + c < l.length → lo ≤ k → k + c < hi → bQ l (oP l c k) lo hi
  | 0, _, _, _, _, _ => .refl _ _ _
  | c + 1, k, l, h1, h2, h3 => by
    unfold oP
    exact (bQ.swap (by omega) (by omega) (by omega) (by omega) (by omega) (by omega)).trans (oq c (k + 1) _ (by rw [du]; omega) (by omega) (by omega))
theorem oG {lo hi : Nat} : ∀ (c k : Nat) (l : List α), k < l.length → lo + c ≤ k → k < hi → bQ l (oK l c k) lo hi
  | 0, _, _, _, _, _ => .refl _ _ _
  | c + 1, k, l, h1, h2, h3 => by
    unfold oK
    exact (bQ.swap (by omega) (by omega) (by omega) (by omega) (by omega) (by omega)).trans (oG c (k - 1) _ (by rw [du]; omega) (by omega) (by omega))
def dT (p : Nat → Bool) : Nat → Nat → Nat → Nat
  | 0, i, _ => i
  | f + 1, i, j => if i < j then (if p ((i + j) / 2) = true then dT p f ((i + j) / 2 + 1) j else dT p f i ((i + j) / 2)) else i
theorem jR (p : Nat → Bool) : ∀ (f i j : Nat), i ≤ dT p f i j
  | 0, i, _ => Nat.le_refl _
  | f + 1, i, j => by
    unfold dT
    split
    · split
      · exact Nat.le_trans (by omega) (jR p f _ j)
      · exact jR p f i _
    · exact Nat.le_refl _
theorem jU {p : Nat → Bool} : ∀ {f i j : Nat}, i ≤ j → dT p f i j ≤ j
  | 0, i, j, h => h
  | f + 1, i, j, h => by
    unfold dT
    split
    · split
      · exact jU (by omega)
      · exact Nat.le_trans (jU (f := f) (by omega)) (by omega)
    · exact h
variable (lt : α → α → Bool)
def dE : Nat → List α → Nat → Nat → Nat → List α
  | 0, l, _, _, _ => l
  | f + 1, l, a, m, b =>
    if m - a = 1 then oP l (dT (fun h => lt (el l h) (el l a)) (b - m + 1) m b - 1 - a) a
    else if b - m = 1 then oK l (m - dT (fun h => !lt (el l m) (el l h)) (m - a + 1) a m) m
    else
      let mid := (a + b) / 2
      let n := mid + m
      let s0 := if mid < m then n - b else a
      let r0 := if mid < m then mid else m
      let start := dT (fun c => !lt (el l (n - 1 - c)) (el l c)) (r0 - s0 + 1) s0 r0
      let e := n - start
      let l1 := if start < m ∧ m < e then gv (m - start + (e - m)) l m (m - start) (e - m) else l
      let l2 := if a < start ∧ start < mid then dE f l1 a start mid else l1
      if mid < e ∧ e < b then dE f l2 mid e b else l2
end
end Go.Tb
namespace Go.Tb
section
variable {α : Type} [Inhabited α] (lt : α → α → Bool)
theorem eB : ∀ (f : Nat) (l : List α) (a m b : Nat), a < m → m < b → b ≤ l.length → bQ l (dE lt f l a m b) a b
  | 0, l, _, _, _, _, _, _ => .refl _ _ _
  | f + 1, l, a, m, b, h1, h2, h3 => by
    unfold dE
    split
    · rename_i e
      obtain ⟨q1, q2, _, _⟩ | hz : (m ≤ dT (fun h => lt (el l h) (el l a)) (b - m + 1) m b ∧ dT (fun h => lt (el l h) (el l a)) (b - m + 1) m b ≤ b ∧ True ∧ True) ∨ False := by
        left
        exact ⟨jR _ _ _ _, jU (by omega), trivial, trivial⟩
      · exact oq _ _ _ (by omega) (Nat.le_refl _) (by omega)
      · exact hz.elim
    · split
      · have q1 := jR (fun h => !lt (el l m) (el l h)) (m - a + 1) a m
        have q2 := jU (p := fun h => !lt (el l m) (el l h)) (f := m - a + 1) (i := a) (j := m) (by omega)
        exact oG _ _ _ (by omega) (by omega) (by omega)
      · rename_i e1 e2
        dsimp only
        generalize hs0 : (if (a + b) / 2 < m then (a + b) / 2 + m - b else a) = s0
        generalize hr0 : (if (a + b) / 2 < m then (a + b) / 2 else m) = r0
        have hle : s0 ≤ r0 := by subst hs0 hr0; split <;> omega
        have hs1 : a ≤ s0 := by subst hs0; split <;> omega
        have hr1 : r0 ≤ m ∧ r0 ≤ (a + b) / 2 ∨ r0 = m ∧ m ≤ (a + b) / 2 := by subst hr0; split <;> omega
        have g1 := jR (fun c => !lt (el l ((a + b) / 2 + m - 1 - c)) (el l c)) (r0 - s0 + 1) s0 r0
        have g2 := jU (p := fun c => !lt (el l ((a + b) / 2 + m - 1 - c)) (el l c)) (f := r0 - s0 + 1) (i := s0) (j := r0) hle
        generalize hst : dT (fun c => !lt (el l ((a + b) / 2 + m - 1 - c)) (el l c)) (r0 - s0 + 1) s0 r0 = start at g1 g2 ⊢
        have hsb : (a + b) / 2 + m - start ≤ b := by subst hs0; split at g1 <;> omega
        have t1 : bQ l (if start < m ∧ m < (a + b) / 2 + m - start then gv (m - start + ((a + b) / 2 + m - start - m)) l m (m - start) ((a + b) / 2 + m - start - m) else l) a b := by
          split
          · exact iB _ _ _ _ _ (by omega) (by omega) (by omega) (by omega)
          · exact .refl _ _ _
        generalize (if start < m ∧ m < (a + b) / 2 + m - start then gv (m - start + ((a + b) / 2 + m - start - m)) l m (m - start) ((a + b) / 2 + m - start - m) else l) = l1 at t1 ⊢
        have t2 : bQ l1 (if a < start ∧ start < (a + b) / 2 then dE lt f l1 a start ((a + b) / 2) else l1) a b := by
          split
          · exact (eB f l1 a start _ (by omega) (by omega) (by rw [t1.len]; omega)).mono (Nat.le_refl _) (by omega)
          · exact .refl _ _ _
        generalize (if a < start ∧ start < (a + b) / 2 then dE lt f l1 a start ((a + b) / 2) else l1) = l2 at t2 ⊢
        have t3 : bQ l2 (if (a + b) / 2 < (a + b) / 2 + m - start ∧ (a + b) / 2 + m - start < b then dE lt f l2 ((a + b) / 2) ((a + b) / 2 + m - start) b else l2) a b := by
          split
          · exact (eB f l2 _ _ b (by omega) (by omega) (by rw [t2.len, t1.len]; omega)).mono (by omega) (Nat.le_refl _)
          · exact .refl _ _ _
        exact (t1.trans t2).trans t3
end
end Go.Tb
namespace Go.Tb
section
variable {α : Type} [Inhabited α] (lt : α → α → Bool) (n : Nat)
def j9 : Nat → List α → Nat → List α
  | 0, l, _ => l
  | f + 1, l, a => if a + 20 ≤ n then j9 f (eI lt l a (a + 20)) (a + 20) else eI lt l a n
def km (bs : Nat) : Nat → List α → Nat → List α
  | 0, l, _ => l
  | f + 1, l, a => if a + 2 * bs ≤ n then km bs f (dE lt n l a (a + bs) (a + 2 * bs)) (a + 2 * bs) else if a + bs < n then dE lt n l a (a + bs) n else l
def lD : Nat → List α → Nat → List α
  | 0, l, _ => l
  | f + 1, l, bs => if bs < n then lD f (km lt n bs (n + 1) l 0) (2 * bs) else l
def dF (l : List α) : List α := lD lt l.length (l.length + 1) (j9 lt l.length (l.length + 1) l 0) 20
def ou (l : List α) (bs lo hi : Nat) : Prop := ∀ i j, lo ≤ i → i < j → j < hi → i / bs = j / bs → lt (el l j) (el l i) = false
theorem qT {bs i j q : Nat} (hb : 0 < bs) (h : i / bs = j / bs) (hj : q * bs ≤ j) : q * bs ≤ i := by
  have h1 : q ≤ j / bs := (Nat.le_div_iff_mul_le hb).2 hj
  rw [← h] at h1
  exact (Nat.le_div_iff_mul_le hb).1 h1
theorem pY {bs i q : Nat} (h1 : q * bs ≤ i) (h2 : i < q * bs + bs) : i / bs = q :=
  Nat.div_eq_of_lt_le h1 (by rw [Nat.succ_mul]; exact h2)
theorem ou.sorted {l : List α} {bs lo hi q : Nat} (h : ou lt l bs lo hi) (h1 : lo ≤ q * bs) {b : Nat} (h2 : b ≤ q * bs + bs) (h3 : b ≤ hi) : iZ lt l (q * bs) b := fun i j p1 p2 p3 =>
  h i j (by omega) p2 (by omega) (by rw [pY p1 (by omega), pY (show q * bs ≤ j by omega) (by omega)])
theorem ou.add {l : List α} {bs q b : Nat} (hb : 0 < bs) (h : ou lt l bs 0 (q * bs)) (hs : iZ lt l (q * bs) b) : ou lt l bs 0 b := fun i j p1 p2 p3 p4 => by
  rcases Nat.lt_or_ge j (q * bs) with hj | hj
  · exact h i j p1 p2 hj p4
  · exact hs i j (qT hb p4 hj) p2 p3
theorem ou.out {l l' : List α} {bs lo hi a b : Nat} (h : ou lt l bs lo hi) (ht : bQ l l' a b) (hd : hi ≤ a ∨ b ≤ lo) : ou lt l' bs lo hi := fun i j p1 p2 p3 p4 => by
  rw [ht.out i (by omega), ht.out j (by omega)]
  exact h i j p1 p2 p3 p4
variable (hw : v3 lt)
theorem mO : ∀ (f : Nat) (l : List α) (a : Nat), n ≤ l.length → a ≤ n → bQ l (j9 lt n f l a) 0 n
  | 0, l, _, _, _ => .refl _ _ _
  | f + 1, l, a, h1, h2 => by
    unfold j9
    split
    · have t := fI lt (l := l) (a := a) (b := a + 20) (by omega)
      exact (t.mono (by omega) (by omega)).trans (mO f _ _ (by rw [t.len]; omega) (by omega))
    · exact (fI lt (by omega)).mono (by omega) (Nat.le_refl _)
theorem mQ {bs : Nat} (hb : 0 < bs) : ∀ (f : Nat) (l : List α) (a : Nat), n ≤ l.length → a ≤ n → bQ l (km lt n bs f l a) 0 n
  | 0, l, _, _, _ => .refl _ _ _
  | f + 1, l, a, h1, h2 => by
    unfold km
    split
    · have t := eB lt n l a (a + bs) (a + 2 * bs) (by omega) (by omega) (by omega)
      exact (t.mono (by omega) (by omega)).trans (mQ hb f _ _ (by rw [t.len]; omega) (by omega))
    · split
      · exact (eB lt n l a (a + bs) n (by omega) (by omega) (by omega)).mono (by omega) (Nat.le_refl _)
      · exact .refl _ _ _
theorem mG : ∀ (f : Nat) (l : List α) (bs : Nat), 0 < bs → n ≤ l.length → bQ l (lD lt n f l bs) 0 n
  | 0, l, _, _, _ => .refl _ _ _
  | f + 1, l, bs, hb, h1 => by
    unfold lD
    split
    · have t := mQ lt n hb (n + 1) l 0 h1 (by omega)
      exact t.trans (mG f _ _ (by omega) (by rw [t.len]; omega))
    · exact .refl _ _ _
theorem fL (l : List α) : bQ l (dF lt l) 0 l.length := by
  have t := mO lt l.length (l.length + 1) l 0 (Nat.le_refl _) (Nat.zero_le _)
  exact t.trans (mG lt l.length _ _ 20 (by omega) (by rw [t.len]; exact Nat.le_refl _))
end
end Go.Tb
namespace Go.Ab
open Go.RowKit
section
variable {P : Program} (T : bU P) {C : Ctx} {n : Nat} {ops : Array Oper}
variable {f : List (Nat × A)} {bx : List (Nat × List A)} {lv : List Nat} {gen : Nat} {ty : TypeId} {pos : String} {af : Array Edge} {dst : Option Nat}
theorem vE {t e m : Nat} {x y : Operand} {td ed : bH} {k1 k2 : IntKind} (hx : av f x = some (.d (.v (.int k1 (m : Int))))) (hy : av f y = some (.d (.v (.int k2 (m : Int))))) (ht : au T.l t = some td) (hk : td.k = .slice e) (he : au T.l e = some ed)
    (hz : Nat.blt 0 ed.n = true) (hb : (ed.b : Int) * (m : Int) ≤ 281474976710656) (hm : m ≤ maxLen) : Pu P C n ⟨f, bx, lv, gen⟩ ⟨dst, .makeSlice t x y, ty, pos, af, none⟩ (.d (.sl (List.replicate m (ed.z.map D.v)))) := by
  have hz := Nat.le_of_ble_eq_true hz
  intro G tmps w hs
  have hu := T.de ht hk
  obtain ⟨i, z, hi, hin, hib, hiz, hzc, hzl, hzk, _⟩ := T.info he
  have hzs : z.cells.size = ed.n := by rw [← hzl, ← hzc]; simp
  have hrx := hs.av hx
  have hry := hs.av hy
  generalize hvx : Act.eval ⟨tmps, []⟩ x = vx at hrx
  generalize hvy : Act.eval ⟨tmps, []⟩ y = vy at hry
  cases hrx with | d hrx => cases hrx with | v _ _ =>
  cases hry with | d hry => cases hry with | v _ _ =>
  have hrun := run_make (P := P) w t e i z hu hi hiz k1 k2 (m : Int) (m : Int) (Int.natCast_nonneg _) (Int.le_refl _) (by rw [hib]; exact hb) (by simp only [maxLen] at hm; omega)
  simp only [Int.toNat_natCast] at hrun
  have hbl : Below w.heap.size w (w.alloc (.cells (madeCells z.cells (m * i.size)) e)) := (Below.refl _ w).alloc (Nat.le_refl _) _
  obtain ⟨hle, hs'⟩ := hs.gy hbl
  refine cr (v := .slice (some ⟨w.heap.size, 0, none⟩) m m) (w' := w.alloc (.cells (madeCells z.cells (m * i.size)) e)) ?_ ⟨hbl, .d ?_⟩
  · unfold execOp
    show Sem.run P _ w = .ok _ _
    simp only [hvx, hvy, Sem.run_bind, hrun, Result.andThen_ok, Sem.run_pure]
  · rcases Nat.eq_zero_or_pos m with h0 | hpos
    · subst h0
      exact .emp _ 0 (by simp)
    · have := a9.ofRow (w := w.alloc (.cells (madeCells z.cells (m * i.size)) e)) (pv := bj C G) (b := w.heap.size) (cap := m) (sz := ed.n) (es := List.replicate m (ed.z.map D.v)) (heap_alloc_new w _) (by simp) hm
        (fun x hx => by rw [List.eq_of_mem_replicate hx, List.length_map, hzl]) (fun t _ hp => by have := mV hs hp; omega) (fun k j e' d hk hj => by
          have hkm : k < m := by have := (List.getElem?_eq_some_iff.1 hk).1; simpa using this
          have he' := List.eq_of_mem_replicate (List.mem_of_getElem? hk)
          subst he'
          rw [List.getElem?_map, Option.map_eq_some_iff] at hj
          obtain ⟨u, hu, rfl⟩ := hj
          have hjn : j < ed.n := by rw [← hzl]; exact (List.getElem?_eq_some_iff.1 hu).1
          refine ⟨u, ?_, .v _ (List.all_eq_true.1 hzk u (List.mem_of_getElem? hu))⟩
          unfold madeCells
          rw [Array.getElem?_map, Array.getElem?_range, if_pos (by rw [hin]; exact mM hkm hjn), Option.map_some]
          have e1 : (k * ed.n + j) % z.cells.size = j := by rw [hzs, Nat.mul_comm, Nat.mul_add_mod, Nat.mod_eq_of_lt hjn]
          rw [e1, getElem!_pos z.cells j (by rw [hzs]; exact hjn)]
          rw [← hzc] at hu
          congr 1
          simpa using (List.getElem?_eq_some_iff.1 hu).2)
      rw [List.length_replicate] at this
      exact this
end
end Go.Ab
namespace Go.Ab
theorem lj : ∀ (l m : List A), dn (l ++ m) = (dn l && dn m)
  | [], m => by simp [dn]
  | a :: l, m => by simp [dn, lj l m, Bool.and_assoc]
theorem pF : ∀ l : List D, dn (l.map A.d) = true
  | [] => rfl
  | d :: l => by simp [dn, eQ, pF l]
theorem mJ : ∀ k : Nat, dn (List.replicate k A.any) = true
  | 0 => rfl
  | k + 1 => by simp [List.replicate_succ, dn, eQ, mJ k]
theorem a0 (o : List Nat) (es : List (List D)) (k : Nat) : ek o (aV es k) = aV es k :=
  et o _ (by unfold aV; rw [lj, pF, mJ]; rfl)
theorem rp (gs : List Nat) (m : Nat) (es : List (List D)) (k : Nat) : hF gs m (aV es k) = aV es k := by
  rw [er]
  unfold aV
  rw [List.map_append, List.map_map, List.map_replicate]
  rfl
theorem r7 (bx : List (Nat × List A)) (gs os : List Nat) (n : Nat) (es : List (List D)) (k : Nat) : (aV es k).map (dc bx gs os (n + 1)) = aV es k := by
  unfold aV
  rw [List.map_append, List.map_map, List.map_replicate]
  rfl
theorem gG {order : List Nat} {bx : List (Nat × List A)} {es : List (List D)} {k : Nat} (h : au bx 0 = some (aV es k)) : nK order bx 0 [aV es k] := by
  refine ⟨?_, trivial⟩
  rw [h]
  show some (ek order (aV es k)) = _
  rw [a0]
section
variable {P : Program} {C : Ctx} {n : Nat} {ops : Array Oper} {Q : Exit → St → Prop} {rest : List Oper}
variable {f : List (Nat × A)} {bx : List (Nat × List A)} {lv : List Nat} {gen : Nat} {d : Nat} {ty : TypeId} {pos : String} {af : Array Edge}
theorem fJ [en P] [GC P C] {x : Operand} {xs : Array Operand} {tys : Array TypeId} {fid : FuncId} {caps as' args : List A} {es es' : List (List D)} {k : Nat} (g : Nat) (hx : av f x = some (.clo fid caps)) (hxs : gI f xs.toList = some as')
    (harg : (as' ++ caps).map (dc bx [g] [] 5) = args) (hb : au bx g = some (aV es k)) (hf : cP P fid args [aV es k] 0 (.tup []) [aV es' k] 0) (hd : Nat.blt d n = true)
    (h : WO P C n ops Q rest ⟨(d, .tup []) :: f, (g, aV es' k) :: bx, lv, gen + 1⟩) :
    WO P C n ops Q (⟨some d, .call ⟨.value x, xs, tys⟩, ty, pos, af, none⟩ :: rest) ⟨f, bx, lv, gen⟩ := by
  refine iC [g] [] hx hxs harg (b0 := [aV es k]) (by simp only [gl, hb]; rw [r7]) rfl hf rfl rfl rfl hd rfl (bx' := (g, aV es' k) :: bx) (by simp only [gm]; rw [rp]; rfl) (lv' := lv) (by simp) (gen' := gen + 1) (by show 1 + 0 + gen = gen + 1; omega) h
end
end Go.Ab
namespace Go.Ab
open Go.RowKit
section
variable {P : Program} (T : bU P) {C : Ctx} {n : Nat} {ops : Array Oper} {Q : Exit → St → Prop} {rest : List Oper}
variable {f : List (Nat × A)} {bx : List (Nat × List A)} {lv : List Nat} {gen : Nat} {d : Nat} {op : Op} {ty : TypeId} {pos : String} {af : Array Edge} {a : A} {dst : Option Nat} {c : Code}
theorem eS.same {w : World} {pv : Nat → Nat → Prop} {r : Row} {v v' : Value} {es es' : List (List D)} (h : eS w pv r v es) (h' : eS w pv r v' es') : v = v' := by
  cases r with
  | nil => exact h.1.trans h'.1.symm
  | zero b => exact h.1.trans h'.1.symm
  | blk b len cap sz pub => exact h.1.trans h'.1.symm
  | mp b => exact h.elim
end
end Go.Ab
namespace Go.Ab
open Go.RowKit
mutual
def jg (g : Nat) : A → Bool
  | .ptr g' _ => !Nat.beq g' g
  | .np g' _ _ => !Nat.beq g' g
  | .sb g' _ _ => !Nat.beq g' g
  | .agg l => iQ g l
  | .tup l => iQ g l
  | .row l => iQ g l
  | .clo _ l => iQ g l
  | .bnd _ l => iQ g l
  | _ => true
def iQ (g : Nat) : List A → Bool
  | [] => true
  | a :: l => jg g a && iQ g l
end
theorem fR {g : Nat} : ∀ {l : List A}, iQ g l = true → ∀ a ∈ l, jg g a = true
  | [], _, a, ha => by cases ha
  | b :: l, h, a, ha => by
    simp only [iQ, Bool.and_eq_true] at h
    cases ha with
    | head => exact h.1
    | tail _ ha => exact fR h.2 a ha
theorem aO.forget {E E' : En} {g : Nat} (hw : E.w = E'.w) (hc : ∀ b o u, cellAt E.w b o = some u → ¬ E.pv b o → cellAt E'.w b o = some u ∧ ¬ E'.pv b o) (hold : ∀ b, E.old b → E'.old b) (hb : ∀ g' b, g' ≠ g → E.box g' = some b → E'.box g' = some b) (ho : E'.own = E.own) (hg : E'.gen = E.gen)
    {v : Value} {a : A} (h : aO E v a) (ha : jg g a = true) : aO E' v a := by
  have hne : ∀ {g'}, (!Nat.beq g' g) = true → g' ≠ g := fun h e => by subst e; simp at h
  have hc' : ∀ b o u, cellAt E.w b o = some u → ¬ E.pv b o → cellAt E.w b o = some u ∧ ¬ E'.pv b o := fun b o u h1 h2 => ⟨h1, (hc b o u h1 h2).2⟩
  induction h with
  | any x => exact .any x
  | d hd => exact .d (hd.mono hc)
  | ag vs l hs hd => exact .ag vs l hs (fun i u x h1 h2 => (hd i u x h1 h2).mono hc)
  | own x g' es hd hgg hr => exact .own x g' es (hd.mono hc) (by rw [hg]; exact hgg) (fun r hr' => hr r (by rw [← ho]; exact hr'))
  | agg vs l hs hone _ ih => exact .agg vs l hs hone (fun i u x hu hx => ih i u x hu hx (fR (by simpa [jg] using ha) x (List.mem_of_getElem? hx)))
  | tup vs l hs _ ih => exact .tup vs l hs (fun i u x hu hx => ih i u x hu hx (fR (by simpa [jg] using ha) x (List.mem_of_getElem? hx)))
  | rowd b off l u hcc hd => exact .rowd b off l u (fun j hj => hc _ _ _ (hcc j hj).1 (hcc j hj).2) (fun j x hx => (hd j x hx).mono hc)
  | row b off l u hcc _ ih => exact .row b off l u (fun j hj => ⟨by rw [← hw]; exact (hcc j hj).1, hold _ (hcc j hj).2.1, (hcc j hj).2.2⟩) (fun j x hx => ih j x hx (fR (by simpa [jg] using ha) x (List.mem_of_getElem? hx)))
  | ptr x g' off b hgg hb0 hp => exact .ptr x g' off b (by rw [hg]; exact hgg) (hb g' b (hne (by simpa [jg] using ha)) hb0) hp
  | xs x g' es hgg h1 hx => exact .xs x g' es (by rw [hg]; exact hgg) h1 (fun r hr' => hw ▸ (hx r (by rw [← ho]; exact hr')).gL hc')
  | xp x g' i off l hgg h1 hx => exact .xp x g' i off l (by rw [hg]; exact hgg) h1 (fun r hr' => hw ▸ (hx r (by rw [← ho]; exact hr')).gL hc')
  | mp x g' es hgg h1 hx => exact .mp x g' es (by rw [hg]; exact hgg) h1 (fun r hr' => hw ▸ (hx r (by rw [← ho]; exact hr')).gL hc')
  | ni t x => exact .ni t x
  | fl x es hd hfl => exact .fl x es (hd.mono hc) hfl
  | bf x g' T s hgg h1 hx => exact .bf x g' T s (by rw [hg]; exact hgg) h1 (fun r hr' => hw ▸ hx r (by rw [← ho]; exact hr'))
  | np x g' T b hgg hb0 hT u hp => exact .np x g' T b (by rw [hg]; exact hgg) (hb g' b (hne (by simpa [jg] using ha)) hb0) (hw ▸ hT) u hp
  | sb x g' n c b hgg hb0 hn hp => exact .sb x g' n c b (by rw [hg]; exact hgg) (hb g' b (hne (by simpa [jg] using ha)) hb0) hn hp
  | clo f vs l hs _ ih => exact .clo f vs l hs (fun i u x hu hx => ih i u x hu hx (fR (by simpa [jg] using ha) x (List.mem_of_getElem? hx)))
  | bnd f vs l hs _ ih => exact .bnd f vs l hs (fun i u x hu hx => ih i u x hu hx (fR (by simpa [jg] using ha) x (List.mem_of_getElem? hx)))
def lb (g : Nat) : List Nat → List (Nat × A) → List (Nat × A)
  | _, [] => []
  | seen, (s, a) :: r => bif seen.any (Nat.beq s) then lb g seen r else bif jg g a then (s, a) :: lb g (s :: seen) r else lb g (s :: seen) r
theorem jE {g : Nat} : ∀ {f : List (Nat × A)} {seen : List Nat} {t : Nat} {a : A}, look (lb g seen f) t = some a → look f t = some a ∧ jg g a = true ∧ t ∉ seen
  | [], _, t, a, h => by simp [lb, look] at h
  | (s, b) :: r, seen, t, a, h => by
    simp only [lb] at h
    cases q : seen.any (Nat.beq s) with
    | true =>
      rw [q] at h
      simp only [cond_true] at h
      obtain ⟨h1, h2, h3⟩ := jE h
      have hm : s ∈ seen := by
        obtain ⟨y, hy, hb⟩ := List.any_eq_true.1 q
        rw [Nat.eq_of_beq_eq_true hb]; exact hy
      refine ⟨?_, h2, h3⟩
      rw [bc]
      rw [if_neg (fun e : s = t => h3 (e ▸ hm))]
      exact h1
    | false =>
      rw [q] at h
      simp only [cond_false] at h
      have hm : s ∉ seen := fun hm => by
        have : seen.any (Nat.beq s) = true := List.any_eq_true.2 ⟨s, hm, by simp⟩
        rw [q] at this; cases this
      cases q2 : jg g b with
      | true =>
        rw [q2] at h
        simp only [cond_true] at h
        rw [bc] at h
        split at h
        · rename_i e
          subst e
          cases h
          exact ⟨by rw [bc, if_pos rfl], q2, hm⟩
        · rename_i e
          obtain ⟨h1, h2, h3⟩ := jE h
          exact ⟨by rw [bc, if_neg e]; exact h1, h2, fun hh => h3 (List.mem_cons_of_mem _ hh)⟩
      | false =>
        rw [q2] at h
        simp only [cond_false] at h
        obtain ⟨h1, h2, h3⟩ := jE h
        exact ⟨by rw [bc, if_neg (fun e : s = t => h3 (e ▸ List.mem_cons_self))]; exact h1, h2, fun hh => h3 (List.mem_cons_of_mem _ hh)⟩
def ml (g : Nat) : List Nat → List (Nat × List A) → Option (List (Nat × List A))
  | _, [] => some []
  | seen, (s, c) :: r => bif seen.any (Nat.beq s) then ml g seen r else bif Nat.beq s g then ml g (s :: seen) r else bif iQ g c then (match ml g (s :: seen) r with | some l => some ((s, c) :: l) | none => none) else none
theorem fA {α : Type} {f : List (Nat × α)} {s t : Nat} {a : α} : au ((s, a) :: f) t = if s = t then some a else au f t := by
  rw [bA]
theorem ju {g : Nat} : ∀ {f f' : List (Nat × List A)} {seen : List Nat} {t : Nat} {a : List A}, ml g seen f = some f' → au f' t = some a → au f t = some a ∧ iQ g a = true ∧ t ≠ g ∧ t ∉ seen
  | [], f', _, t, a, hc, h => by simp [ml] at hc; subst hc; simp [au] at h
  | (s, b) :: r, f', seen, t, a, hc, h => by
    simp only [ml] at hc
    cases q : seen.any (Nat.beq s) with
    | true =>
      rw [q] at hc
      simp only [cond_true] at hc
      obtain ⟨h1, h2, h3, h4⟩ := ju hc h
      have hm : s ∈ seen := by
        obtain ⟨y, hy, hb⟩ := List.any_eq_true.1 q
        rw [Nat.eq_of_beq_eq_true hb]; exact hy
      exact ⟨by rw [fA, if_neg (fun e : s = t => h4 (e ▸ hm))]; exact h1, h2, h3, h4⟩
    | false =>
      rw [q] at hc
      simp only [cond_false] at hc
      have hm : s ∉ seen := fun hm => by
        have : seen.any (Nat.beq s) = true := List.any_eq_true.2 ⟨s, hm, by simp⟩
        rw [q] at this; cases this
      cases q1 : Nat.beq s g with
      | true =>
        rw [q1] at hc
        simp only [cond_true] at hc
        obtain ⟨h1, h2, h3, h4⟩ := ju hc h
        exact ⟨by rw [fA, if_neg (fun e : s = t => h4 (e ▸ List.mem_cons_self))]; exact h1, h2, h3, fun hh => h4 (List.mem_cons_of_mem _ hh)⟩
      | false =>
        rw [q1] at hc
        simp only [cond_false] at hc
        cases q2 : iQ g b with
        | false => rw [q2] at hc; cases hc
        | true =>
          rw [q2] at hc
          simp only [cond_true] at hc
          split at hc
          · rename_i l hl
            simp only [Option.some.injEq] at hc
            subst hc
            rw [fA] at h
            split at h
            · rename_i e
              subst e
              cases h
              exact ⟨by rw [fA, if_pos rfl], q2, fun e => by subst e; simp at q1, hm⟩
            · rename_i e
              obtain ⟨h1, h2, h3, h4⟩ := ju hl h
              exact ⟨by rw [fA, if_neg e]; exact h1, h2, h3, fun hh => h4 (List.mem_cons_of_mem _ hh)⟩
          · cases hc
section
variable {P : Program} (T : bU P) {C : Ctx} {n : Nat} {ops : Array Oper} {Q : Exit → St → Prop} {rest : List Oper}
variable {f f' : List (Nat × A)} {bx bx' : List (Nat × List A)} {lv : List Nat} {gen : Nat} {d : Nat} {op : Op} {ty : TypeId} {pos : String} {af : Array Edge} {a : A} {dst : Option Nat} {c : Code}
theorem pn [hnb : NB C 0] (s : Nat) {g m cap sz k : Nat} {es : List (List D)} (hl : look f s = some (.sb g m cap)) (hb : au bx g = some (aV es k)) (hsn : Nat.blt s n = true) (hm : es.length = m) (hls : ∀ (x : List D), x ∈ es → x.length = sz) (hf : lb g [] f = f') (hbx : ml g [] bx = some bx')
    (h : W P C n c Q ⟨(s, .d (.sl es)) :: f', bx', lv, gen⟩) : W P C n c Q ⟨f, bx, lv, gen⟩ := by
  subst hf; subst hm
  intro tmps w ⟨G, hs⟩
  obtain ⟨v, hv, hr⟩ := hs.frame _ _ hl
  obtain ⟨b, cs, T', hgb, hw, h3, h4, h5⟩ := hs.box _ _ hb
  cases hr with
  | sb _ _ _ _ b' hgg hb' hn hx =>
  have hb' : G.box g = some b' := hb'
  rw [hgb] at hb'
  cases hb'
  let G' : Gh := ⟨fun x => if x = g then none else G.box x, G.own⟩
  have hpv : ∀ b' o, bj C G' b' o → bj C G b' o := by
    rintro b' o (hp | ⟨g', hp⟩ | hp)
    · exact .inl hp
    · simp only [G'] at hp
      split at hp
      · cases hp
      · exact .inr (.inl ⟨g', hp⟩)
    · exact .inr (.inr hp)
  have hnot : ∀ o, ¬ bj C G' b o := by
    rintro o (hp | ⟨g', hp⟩ | ⟨g', len, cap, sz, pub, hp, _⟩)
    · have := hs.xold b o hp
      rcases (hs.gbox g b hgb).2.2.1 with hm | hm
      · omega
      · exact this.2 hm
    · simp only [G'] at hp
      split at hp
      · cases hp
      · rename_i e; exact e (hs.inj g' g b hp hgb)
    · exact (hs.row g' b len cap sz pub hp).2.1 g hgb
  have hrep : ∀ {v : Value} {a : A}, aO (az C G gen w) v a → jg g a = true → aO (az C G' gen w) v a := fun h ha =>
    aO.forget (E := az C G gen w) (E' := az C G' gen w) rfl (fun b o u hu hn => ⟨hu, fun hp => hn (hpv b o hp)⟩) (fun b h => h) (fun g' b hne hb => by show (if g' = g then none else G.box g') = some b; rw [if_neg hne]; exact hb) rfl rfl h ha
  have hs' : aJ C n ⟨lb g [] f, bx', lv, gen⟩ G' tmps w := by
    refine { size := hs.size, frame := ?_, box := ?_, gbox := ?_, inj := ?_, live := hs.live, gown := hs.gown, row := ?_, mrow := ?_, xold := hs.xold, kold := hs.kold, lent := ?_, fr := hs.fr }
    · intro t a ha
      obtain ⟨h1, h2, _⟩ := jE ha
      obtain ⟨v, hv, hr⟩ := hs.frame t a h1
      exact ⟨v, hv, hrep hr h2⟩
    · intro g' cells hc
      obtain ⟨h1, h2, h6, _⟩ := ju hbx hc
      obtain ⟨b2, cs2, T2, p1, p2, p3, p4, p5⟩ := hs.box g' cells h1
      exact ⟨b2, cs2, T2, by simp only [G']; rw [if_neg h6]; exact p1, p2, p3, p4, fun i u a hu ha => hrep (p5 i u a hu ha) (fR h2 a (List.mem_of_getElem? ha))⟩
    · intro g' b2 hb2
      simp only [G'] at hb2
      split at hb2
      · cases hb2
      · exact hs.gbox g' b2 hb2
    · intro g1 g2 b2 h1 h2
      simp only [G'] at h1 h2
      split at h1
      · cases h1
      · split at h2
        · cases h2
        · exact hs.inj g1 g2 b2 h1 h2
    · intro g' b2 len cap sz pub hr
      obtain ⟨p1, p2, p3⟩ := hs.row g' b2 len cap sz pub hr
      refine ⟨p1, fun g2 h2 => ?_, p3⟩
      simp only [G'] at h2
      split at h2
      · cases h2
      · exact p2 g2 h2
    · intro g' b2 hr
      obtain ⟨p1, p2, p3⟩ := hs.mrow g' b2 hr
      refine ⟨p1, fun g2 h2 => ?_, p3⟩
      simp only [G'] at h2
      split at h2
      · cases h2
      · exact p2 g2 h2
    · intro i b2 hb2
      have := hnb.h
      have hi := (List.getElem?_eq_some_iff.1 hb2).1
      omega
  have hdata : aO (az C G' gen w) v (.d (.sl es)) := by
    rw [hx]
    have hfl := gK hls
    have hcell : ∀ i j (e : List D) (y : D), es[i]? = some e → e[j]? = some y → ∃ u, cs[i * sz + j]? = some u ∧ a9 w (bj C G') u y := fun i j e y hi hj => by
      have hfg := gV hls i j e y hi hj
      have hlt : i * sz + j < es.flatten.length := (List.getElem?_eq_some_iff.1 hfg).1
      have hc : (aV es k)[i * sz + j]? = some (.d y) := by
        unfold aV
        rw [List.getElem?_append_left (by rw [List.length_map]; exact hlt), List.getElem?_map, hfg]; rfl
      have hj' : i * sz + j < cs.size := by rw [h3]; exact (List.getElem?_eq_some_iff.1 hc).1
      have e1 : cs[i * sz + j]? = some cs[i * sz + j] := by simp [hj']
      have := hrep (h5 _ _ _ e1 hc) rfl
      generalize cs[i * sz + j] = u at this e1
      cases this with | d hd => exact ⟨u, e1, hd⟩
    refine .d ?_
    exact a9.ofRow hw hn.1 hn.2 hls (fun t _ => hnot t) hcell
  refine h tmps w ⟨G', ?_⟩
  have := hs'.set (d := s) (Nat.le_of_ble_eq_true hsn) hdata
  rwa [fX hv] at this
theorem s8 {es : List (List D)} {sz i k off : Nat} {e cs : List D} (hl : ∀ (x : List D), x ∈ es → x.length = sz) (he : es[i]? = some e) (hc : off + cs.length ≤ sz) : setAt (aV es k) (i * sz + off) (cs.map A.d) = aV (es.set i (fO e off cs)) k := by
  have hel := hl e (List.mem_of_getElem? he)
  have h1 : (fO e off cs).length = sz := by rw [pg (by omega)]; exact hel
  rw [← p0 (k := k) hl he h1]
  obtain ⟨r, hr⟩ := oA (k := k) hl he
  have hp : i * sz ≤ (aV es k).length := by
    rw [mr hl]
    have hi : i < es.length := (List.getElem?_eq_some_iff.1 he).1
    have : i * sz ≤ es.length * sz := Nat.mul_le_mul_right _ (by omega)
    omega
  have hsplit : aV es k = (aV es k).take (i * sz) ++ (e.map A.d ++ r) := by rw [← hr, List.take_append_drop]
  generalize (aV es k).take (i * sz) = X at hsplit
  have hX : X.length = i * sz := by
    have := congrArg List.length hsplit
    have h2 := congrArg List.length hr
    rw [List.length_drop] at h2
    simp at this h2
    omega
  rw [hsplit]
  unfold setAt fO
  have e1 : (X ++ (e.map A.d ++ r)).take (i * sz + off) = X ++ (e.map A.d).take off := by
    rw [← hX, List.take_append]
    simp
    rw [List.take_append_of_le_length (by simp; omega), List.take_of_length_le (by omega)]
  have e2 : (X ++ (e.map A.d ++ r)).drop (i * sz + off + (cs.map A.d).length) = (e.map A.d).drop (off + cs.length) ++ r := by
    rw [← hX, List.length_map, Nat.add_assoc, List.drop_append]
    simp
    rw [List.drop_append_of_le_length (by simp; omega), List.drop_eq_nil_of_le (by omega), List.nil_append]
  have e3 : (X ++ (e.map A.d ++ r)).take (i * sz) = X := by rw [← hX, List.take_left]
  have e4 : (X ++ (e.map A.d ++ r)).drop (i * sz + ((e.take off ++ cs ++ e.drop (off + cs.length)).map A.d).length) = r := by
    have : ((e.take off ++ cs ++ e.drop (off + cs.length)).map A.d).length = (e.map A.d).length := by simp; omega
    rw [this, ← hX, ← List.drop_drop, List.drop_left, List.drop_left]
  rw [e1, e2, e3, e4]
  simp [List.map_take, List.map_drop]
theorem pU {t : TypeId} {x y : Operand} {g i k p sz off : Nat} {es : List (List D)} {e cs : List D} (hx : av f x = some (.ptr g p)) (hp : p = i * sz + off) (hb : au bx g = some (aV es k)) (ha : av f y = some a) (hcs : cellsOf bx a = some (cs.map A.d)) (hl : ∀ (x : List D), x ∈ es → x.length = sz) (he : es[i]? = some e)
    (hc : off + cs.length ≤ sz) (hsz : bZ T t = cs.length) (hz : cs.length ≠ 0) {es' : List (List D)} (hes : es.set i (fO e off cs) = es')
    (h : WO P C n ops Q rest ⟨f, (g, aV es' k) :: bx, lv, gen⟩) : WO P C n ops Q (⟨none, .store t x y, ty, pos, af, none⟩ :: rest) ⟨f, bx, lv, gen⟩ := by
  subst hp
  have hi : i < es.length := (List.getElem?_eq_some_iff.1 he).1
  refine WO.store (st := ⟨f, bx, lv, gen⟩) T rfl rfl rfl hx hb ha hcs (by rw [List.length_map]; exact hsz) (by rw [List.length_map]; exact hz) ?_ ?_
  · apply Nat.ble_eq_true_of_le
    rw [List.length_map, mr hl]
    have : (i + 1) * sz ≤ es.length * sz := Nat.mul_le_mul_right _ hi
    rw [Nat.succ_mul] at this
    omega
  · rw [s8 hl he hc, hes]
    exact h
end
end Go.Ab
namespace Go.Tb
open Go.Ab
structure pI where
  left : List Nat
  right : List Nat
  m : Nat
  t : Nat
  more : List Nat
def j0 (o : pI) (x y : List aH) : Bool := decide ((br x o.m).kind = 0) || (decide ((br y o.t).kind = 0) || (decide ((br x o.m).n < (br y o.t).n) || !ij (bt x o.left) (bt y o.right)))
def eT (bs : List (List aH)) (i : Nat) : List aH := bs.getD i []
def gA (o : pI) (bs : List (List aH)) (x : List aH) : List (List aH) → Nat → Option Nat → Option Nat
  | [], _, b => b
  | y :: r, k, b => if j0 o x y = true then gA o bs x r (k + 1) b else
      if idx b < 0 ∨ (br (eT bs (idx b).toNat) o.t).n ≤ (br y o.t).n then gA o bs x r (k + 1) (some k) else gA o bs x r (k + 1) b
def nk (o : pI) (bs : List (List aH)) (b : Option Nat) : List aH := match b with
  | none => List.replicate o.more.length eV
  | some i => bt (eT bs i) o.more
def fW (o : pI) (bs : List (List aH)) (x : List aH) : List aH := x ++ nk o bs (gA o bs x bs 0 none)
def py (a b : bo) (on : List ByteArray) : pI := ⟨on.map (b7 a.cols), on.map (b7 b.cols), b7 a.cols aN, b7 b.cols aN, cE (on ++ [aN]) b.cols 0⟩
def cH (a b : bo) (on : List ByteArray) : bo × Int :=
  if (cX 8 on a b).2 ≠ 0 then (fb, (cX 8 on a b).2) else (⟨(cX 8 on a b).1, a.rows.map (fW (py a b on) b.rows)⟩, 0)
structure wh (o : pI) (n m : Nat) : Prop where
  left : ∀ i ∈ o.left, i < n
  right : ∀ i ∈ o.right, i < m
  mm : o.m < n
  tt : o.t < m
  more : ∀ i ∈ o.more, i < m
theorem wj {a b : bo} {on : List ByteArray} (h : sZ a b on (aR 8)) : wh (py a b on) a.cols.length b.cols.length := by
  have e : aR 8 = [aN] := rfl
  rw [e] at h
  refine ⟨fun i hi => ?_, fun i hi => ?_, ?_, ?_, fun i hi => ?_⟩
  · obtain ⟨s, hs, rfl⟩ := List.mem_map.1 hi
    obtain ⟨i, j, c, d, h1, h2, h3, h4, _⟩ := h.ons s hs
    rw [cU h1]; exact (List.getElem?_eq_some_iff.1 h3).1
  · obtain ⟨s, hs, rfl⟩ := List.mem_map.1 hi
    obtain ⟨i, j, c, d, h1, h2, h3, h4, _⟩ := h.ons s hs
    rw [cU h2]; exact (List.getElem?_eq_some_iff.1 h4).1
  · obtain ⟨i, c, h1, h2, _⟩ := h.spa aN (by simp)
    show b7 a.cols aN < _
    rw [cU h1]; exact (List.getElem?_eq_some_iff.1 h2).1
  · obtain ⟨i, c, h1, h2, _⟩ := h.spb aN (by simp)
    show b7 b.cols aN < _
    rw [cU h1]; exact (List.getElem?_eq_some_iff.1 h2).1
  · have := jZ _ b.cols 0 i hi
    omega
theorem ma {bs : List (List aH)} {i : Nat} (h : i < bs.length) : bs[i]? = some (eT bs i) := by
  unfold eT
  rw [List.getD_eq_getElem?_getD, List.getElem?_eq_getElem h]; rfl
end Go.Tb
namespace Go.Ab
section
variable {P : Program} {C : Ctx} {n : Nat} {Q : Exit → St → Prop}
variable {f : List (Nat × A)} {bx : List (Nat × List A)} {lv : List Nat} {gen : Nat} {c : Code}
theorem rh (s : Nat) {g : Nat} {es : List (List D)} (hl : look f s = some (.own g es)) (hsn : Nat.blt s n = true) (h : W P C n c Q ⟨(s, .d (.sl es)) :: f, bx, lv, gen⟩) : W P C n c Q ⟨f, bx, lv, gen⟩ := by
  intro tmps w ⟨G, hs⟩
  obtain ⟨v, hv, hr⟩ := hs.frame s _ hl
  cases hr with
  | own _ _ _ hd _ _ =>
  refine h tmps w ⟨G, ?_⟩
  have := hs.set (d := s) (Nat.le_of_ble_eq_true hsn) (.d hd)
  rwa [fX hv] at this
end
end Go.Ab
namespace Go.Tb
open Go.Ab
structure v8 (left : List Nat) (m0 m1 n : Nat) : Prop where
  left : ∀ i ∈ left, i < n
  m0 : m0 < n
  m1 : m1 < n
theorem uN {a : bo} {on : List ByteArray} (h : tI a on) : v8 (on.map (b7 a.cols)) (b7 a.cols aN) (b7 a.cols bM) a.cols.length := by
  refine ⟨fun i hi => ?_, ?_, ?_⟩
  · obtain ⟨s, hs, rfl⟩ := List.mem_map.1 hi
    obtain ⟨i, c, h1, h2⟩ := h.ons s hs
    rw [cU h1]; exact (List.getElem?_eq_some_iff.1 h2).1
  · obtain ⟨i, c, h1, h2, _⟩ := h.fr
    rw [cU h1]; exact (List.getElem?_eq_some_iff.1 h2).1
  · obtain ⟨i, c, h1, h2, _⟩ := h.to
    rw [cU h1]; exact (List.getElem?_eq_some_iff.1 h2).1
end Go.Tb
namespace Go.Ab
section
variable {P : Program} {C : Ctx} {n : Nat} {ops : Array Oper} {Q : Exit → St → Prop} {rest : List Oper}
variable {f : List (Nat × A)} {bx : List (Nat × List A)} {lv : List Nat} {gen : Nat}
end
end Go.Ab
namespace Go.Tb
open Go.Ab
deriving instance DecidableEq for bo
def cB (n : Int) : aH := ⟨2, n, B #[]⟩
def lN (s : ByteArray) : aH := ⟨3, 0, s⟩
def eD (s : ByteArray) : Col := ⟨s, if s = B #[107] then 3 else 2⟩
def jb : List (List aH) → Int → Int
  | [], n => n
  | r :: l, n => if n ≤ 600 then jb l (IntKind.i64.wrap (IntKind.i64.wrap (n + 1) + (r.length : Int))) else n
def iT (t : bo) : Bool := decide (jb t.rows (t.cols.length : Int) ≤ 600) && decide ((t.cols.length : Int) ≤ 40)
def ng (a b : bo) (on : List ByteArray) : Bool := iT a && (iT b && decide ((on.length : Int) ≤ 40))
theorem sM {a b : bo} {on : List ByteArray} (h : ng a b on = true) : on.length ≤ 40 ∧ a.cols.length ≤ 40 ∧ b.cols.length ≤ 40 := by
  simp only [ng, iT, Bool.and_eq_true, decide_eq_true_eq] at h
  omega
end Go.Tb
namespace Go.Tb
open Go.Ab
end Go.Tb
namespace Go.Tb
open Go.Ab
end Go.Tb
namespace Go.Tb
open Go.Ab
end Go.Tb
namespace Go.Tb
open Go.Ab
theorem qO : ∀ (l r : List Col) (k : Nat), l.drop k = r → (eW l k r = false ↔ ∀ i j x y, k ≤ j → i < j → l[i]? = some x → l[j]? = some y → x.name ≠ y.name)
  | l, [], k, h => by
    simp only [eW, true_iff]
    intro i j x y hj _ _ hy
    have hlt := (List.getElem?_eq_some_iff.1 hy).1
    have := List.drop_eq_nil_iff.1 h
    omega
  | l, c :: r, k, h => by
    have hk : l[k]? = some c := by
      have : (l.drop k)[0]? = some c := by rw [h]; rfl
      simpa using this
    have hr : l.drop (k + 1) = r := by
      have : (l.drop k).drop 1 = r := by rw [h]; rfl
      rw [List.drop_drop] at this
      exact this
    have ih := qO l r (k + 1) hr
    simp only [eW, Bool.or_eq_false_iff, ih]
    constructor
    · rintro ⟨h1, h2⟩ i j x y hj hij hx hy
      rcases Nat.lt_or_ge k j with hlt | hge
      · exact h2 i j x y hlt hij hx hy
      · have : j = k := by omega
        subst this
        rw [hk] at hy
        simp only [Option.some.injEq] at hy
        subst hy
        intro he
        have hmem : x ∈ l.take j := by
          rw [List.mem_iff_getElem?]
          exact ⟨i, by rw [List.getElem?_take, if_pos hij]; exact hx⟩
        have := List.any_eq_false.1 h1 x hmem
        simp [he] at this
    · intro h1
      refine ⟨?_, fun i j x y hj => h1 i j x y (by omega)⟩
      rw [List.any_eq_false]
      intro x hx
      obtain ⟨i, hi⟩ := List.mem_iff_getElem?.1 hx
      rw [List.getElem?_take] at hi
      split at hi
      · rename_i hlt
        have := h1 i k x c (Nat.le_refl _) hlt hi hk
        simpa using this
      · cases hi
theorem ig {l : List Col} : eW l 0 l = false ↔ (l.map Col.name).Nodup := by
  rw [qO l l 0 rfl]
  constructor
  · intro h
    refine List.pairwise_iff_getElem.2 fun i j hi hj hij => ?_
    simp only [List.getElem_map]
    have hi' : i < l.length := by simpa using hi
    have hj' : j < l.length := by simpa using hj
    exact h i j _ _ (Nat.zero_le _) hij (by simp [hi']) (by simp [hj'])
  · intro h i j x y _ hij hx hy
    obtain ⟨hi, rfl⟩ := List.getElem?_eq_some_iff.1 hx
    obtain ⟨hj, rfl⟩ := List.getElem?_eq_some_iff.1 hy
    have := List.pairwise_iff_getElem.1 h i j (by simpa using hi) (by simpa using hj) hij
    simpa using this
def nG (c : Col) : Prop := eh c.name = 0 ∧ (c.type = 1 ∨ c.type = 2 ∨ c.type = 3)
theorem jG (all : List Col) : ∀ (l : List Col) (k : Nat), dH all k l = 0 ↔ (∀ c ∈ l, nG c) ∧ eW all k l = false
  | [], k => by simp [dH, eW]
  | c :: r, k => by
    have ih := jG all r (k + 1)
    simp only [dH, eW, List.mem_cons, Bool.or_eq_false_iff]
    have hb : eg all k c = 0 ↔ nG c ∧ (all.take k).any (fun x => decide (x.name = c.name)) = false := by
      unfold eg nG
      by_cases h1 : eh c.name = 0
      · rw [if_neg (by simp [h1])]
        by_cases h2 : (all.take k).any (fun x => decide (x.name = c.name)) = true
        · rw [if_pos h2]; simp [h2]
        · rw [if_neg h2]
          by_cases h3 : c.type ≠ 1 ∧ c.type ≠ 2 ∧ c.type ≠ 3
          · rw [if_pos h3]
            constructor
            · intro h; cases h
            · rintro ⟨⟨_, h⟩, _⟩; omega
          · rw [if_neg h3]
            exact ⟨fun _ => ⟨⟨h1, by omega⟩, by simpa using h2⟩, fun _ => rfl⟩
      · rw [if_pos h1]
        exact ⟨fun h => absurd h h1, fun h => absurd h.1.1 h1⟩
    by_cases h : eg all k c = 0
    · rw [if_neg (by simp [h])]
      have := hb.1 h
      rw [ih]
      exact ⟨fun q => ⟨fun x hx => by rcases hx with rfl | hx; exact this.1; exact q.1 x hx, this.2, q.2⟩, fun q => ⟨fun x hx => q.1 x (.inr hx), q.2.2⟩⟩
    · rw [if_pos h]
      exact ⟨fun q => absurd q h, fun q => absurd (hb.2 ⟨q.1 c (.inl rfl), q.2.1⟩) h⟩
theorem pT {t : bo} (h : bd t = 0) : (∀ c ∈ t.cols, nG c) ∧ (t.cols.map Col.name).Nodup := by
  unfold bd at h
  split at h
  · cases h
  · split at h
    · rename_i h2; exact absurd h h2
    · rename_i h2
      have := (jG t.cols t.cols 0).1 (by simpa using h2)
      exact ⟨this.1, ig.1 this.2⟩
theorem lZ : ∀ {cols : List Col} {r : List aH}, (∀ (i : Nat) (c : Col) (v : aH), cols[i]? = some c → r[i]? = some v → cg c.type v = 0) → cR cols r = 0
  | [], _, _ => rfl
  | _ :: _, [], _ => rfl
  | c :: cols, v :: r, h => by
    simp only [cR]
    rw [if_neg (by simp [h 0 c v rfl rfl])]
    exact lZ fun i d w hd hw => h (i + 1) d w (by simpa using hd) (by simpa using hw)
theorem nt {cols : List Col} : ∀ {rows : List (List aH)}, (∀ x ∈ rows, x.length = cols.length ∧ cR cols x = 0) → eo cols rows = 0
  | [], _ => rfl
  | x :: r, h => by
    simp only [eo]
    have := h x (List.mem_cons_self ..)
    rw [if_neg (by simp [this.1]), if_neg (by simp [this.2])]
    exact nt fun y hy => h y (List.mem_cons_of_mem _ hy)
theorem u6 {cols : List Col} {rows : List (List aH)} (hl : cols.length ≤ 32) (hr : rows.length ≤ 20000) (hc : ∀ c ∈ cols, nG c) (hn : (cols.map Col.name).Nodup) (hx : ∀ x ∈ rows, x.length = cols.length ∧ cR cols x = 0) : bd ⟨cols, rows⟩ = 0 := by
  unfold bd
  have h1 := (jG cols cols 0).2 ⟨hc, ig.2 hn⟩
  rw [if_neg (by dsimp only; omega), if_neg (by simp [h1])]
  exact nt hx
theorem jB {cols more : List Col} {x y : List aH} (hl : x.length = cols.length) (h1 : ∀ (i : Nat) (c : Col) (v : aH), cols[i]? = some c → x[i]? = some v → cg c.type v = 0) (h2 : ∀ (i : Nat) (c : Col) (v : aH), more[i]? = some c → y[i]? = some v → cg c.type v = 0) :
    cR (cols ++ more) (x ++ y) = 0 :=
  lZ fun i c v hc hv => by
    by_cases q : i < cols.length
    · rw [List.getElem?_append_left q] at hc
      rw [List.getElem?_append_left (by omega)] at hv
      exact h1 i c v hc hv
    · rw [List.getElem?_append_right (by omega)] at hc
      rw [List.getElem?_append_right (by omega), hl] at hv
      exact h2 _ c v hc hv
structure sJ (op : Int) (a b : bo) (on : List ByteArray) : Prop where
  ga : bd a = 0
  gb : bd b = 0
  st : bT (cq op on wB) = 0
  no : (aR op).any (fun n => on.any fun x => decide (n = x)) = false
  on_ : dO a.cols b.cols on = 0
  sa : cz a.cols (aR op) = 0
  sb : cz b.cols (aR op) = 0
  nd : ((a.cols ++ bL on (aR op) b.cols).map Col.name).Nodup
  len : (a.cols ++ bL on (aR op) b.cols).length ≤ 32
theorem oe {op : Int} (hop : op = 7 ∨ op = 8) {on : List ByteArray} {a b : bo} : (cX op on a b).2 = 0 ↔ sJ op a b on := by
  have hn : op ≠ 1 ∧ op ≠ 2 ∧ op ≠ 3 ∧ op ≠ 4 ∧ op ≠ 9 ∧ op ≠ 5 ∧ op ≠ 6 := by omega
  have e : (cq op on wB).op = op := rfl
  have ec : (cq op on wB).cols = on := rfl
  have hf : cN [⟨wB, b⟩] (cq op on wB).table = some b := by
    show cN [⟨wB, b⟩] wB = some b
    simp [cN]
  unfold cX
  by_cases h1 : bd a = 0
  case neg => rw [if_pos h1]; exact ⟨fun h => absurd h h1, fun h => absurd h.ga h1⟩
  rw [if_neg (by simp [h1])]
  by_cases h2 : bd b = 0
  case neg => rw [if_pos h2]; exact ⟨fun h => absurd h h2, fun h => absurd h.gb h2⟩
  rw [if_neg (by simp [h2])]
  unfold dP
  by_cases h3 : bT (cq op on wB) = 0
  case neg => rw [if_pos h3]; exact ⟨fun h => absurd h h3, fun h => absurd h.st h3⟩
  rw [if_neg (by simp [h3]), e, if_neg hn.1, if_neg hn.2.1, if_neg hn.2.2.1, if_neg hn.2.2.2.1, if_neg hn.2.2.2.2.1, if_pos (by omega)]
  unfold eN
  rw [hf]
  dsimp only
  unfold kr
  rw [e, ec]
  by_cases h4 : (aR op).any (fun n => on.any fun x => decide (n = x)) = true
  · rw [if_pos h4]; exact ⟨fun h => (by cases h), fun h => (by have := h.no; rw [h4] at this; cases this)⟩
  rw [if_neg h4]
  by_cases h5 : dO a.cols b.cols on = 0
  case neg => rw [if_pos h5]; exact ⟨fun h => absurd h h5, fun h => absurd h.on_ h5⟩
  rw [if_neg (by simp [h5])]
  by_cases h6 : cz a.cols (aR op) = 0
  case neg => rw [if_pos h6]; exact ⟨fun h => absurd h h6, fun h => absurd h.sa h6⟩
  rw [if_neg (by simp [h6])]
  by_cases h7 : cz b.cols (aR op) = 0
  case neg => rw [if_pos h7]; exact ⟨fun h => absurd h h7, fun h => absurd h.sb h7⟩
  rw [if_neg (by simp [h7])]
  unfold pG
  by_cases h8 : eW (a.cols ++ bL on (aR op) b.cols) 0 (a.cols ++ bL on (aR op) b.cols) = true
  · rw [if_pos h8]; exact ⟨fun h => (by cases h), fun h => (by have := ig.2 h.nd; rw [h8] at this; cases this)⟩
  rw [if_neg h8]
  by_cases h9 : 32 < (a.cols ++ bL on (aR op) b.cols).length
  · rw [if_pos h9]; exact ⟨fun h => (by cases h), fun h => absurd h.len (by omega)⟩
  rw [if_neg h9]
  exact ⟨fun _ => ⟨h1, h2, h3, by simpa using h4, h5, h6, h7, ig.1 (by simpa using h8), by omega⟩, fun _ => rfl⟩
theorem sK {op : Int} (hop : op = 7 ∨ op = 8) {on : List ByteArray} {a b : bo} (h : sJ op a b on) : cX op on a b = (a.cols ++ bL on (aR op) b.cols, 0) := by
  have hn : op ≠ 1 ∧ op ≠ 2 ∧ op ≠ 3 ∧ op ≠ 4 ∧ op ≠ 9 ∧ op ≠ 5 ∧ op ≠ 6 := by omega
  have e : (cq op on wB).op = op := rfl
  have ec : (cq op on wB).cols = on := rfl
  have hf : cN [⟨wB, b⟩] (cq op on wB).table = some b := by
    show cN [⟨wB, b⟩] wB = some b
    simp [cN]
  unfold cX
  rw [if_neg (by simp [h.ga]), if_neg (by simp [h.gb])]
  unfold dP
  rw [if_neg (by simp [h.st]), e, if_neg hn.1, if_neg hn.2.1, if_neg hn.2.2.1, if_neg hn.2.2.2.1, if_neg hn.2.2.2.2.1, if_pos (by omega)]
  unfold eN
  rw [hf]
  dsimp only
  unfold kr
  have := ig.2 h.nd
  rw [e, ec, if_neg (by simp [h.no]), if_neg (by simp [h.on_]), if_neg (by simp [h.sa]), if_neg (by simp [h.sb])]
  unfold pG
  rw [if_neg (by rw [this]; simp), if_neg (by have := h.len; omega)]
theorem lC (on spans : List ByteArray) : ∀ (cols : List Col) (k i : Nat), (cE (on ++ spans) cols k).length = (bL on spans cols).length ∧
    ∀ c, (bL on spans cols)[i]? = some c → ∃ j, (cE (on ++ spans) cols k)[i]? = some (k + j) ∧ cols[j]? = some c
  | [], k, i => by simp [cE, bL]
  | d :: r, k, i => by
    have ih := fun i => lC on spans r (k + 1) i
    have hc : (on ++ spans).any (fun x => decide (d.name = x)) = (on.any (fun x => decide (d.name = x)) || spans.any (fun x => decide (d.name = x))) := List.any_append
    by_cases q : (on ++ spans).any (fun x => decide (d.name = x)) = true
    · have hr : bL on spans (d :: r) = bL on spans r := by
        unfold bL
        rw [List.filter_cons, if_neg]
        rw [hc] at q
        revert q
        cases on.any (fun x => decide (d.name = x)) <;> cases spans.any (fun x => decide (d.name = x)) <;> simp
      simp only [cE, if_pos q, hr]
      refine ⟨(ih i).1, fun c h => ?_⟩
      obtain ⟨j, h1, h2⟩ := (ih i).2 c h
      exact ⟨j + 1, by rw [h1]; congr 1; omega, by simpa using h2⟩
    · have hr : bL on spans (d :: r) = d :: bL on spans r := by
        unfold bL
        rw [List.filter_cons, if_pos]
        rw [hc] at q
        revert q
        cases on.any (fun x => decide (d.name = x)) <;> cases spans.any (fun x => decide (d.name = x)) <;> simp
      simp only [cE, if_neg q, hr]
      refine ⟨by simp [(ih 0).1], fun c h => ?_⟩
      cases i with
      | zero => exact ⟨0, by simp, by simpa using h⟩
      | succ i =>
        obtain ⟨j, h1, h2⟩ := (ih i).2 c (by simpa using h)
        exact ⟨j + 1, by simp only [List.getElem?_cons_succ]; rw [h1]; congr 1; omega, by simpa using h2⟩
theorem uz {b : bo} (hb : bd b = 0) {y : List aH} (hy : y ∈ b.rows) (on spans : List ByteArray) : ∀ (i : Nat) (c : Col) (v : aH), (bL on spans b.cols)[i]? = some c → (bt y (cE (on ++ spans) b.cols 0))[i]? = some v → cg c.type v = 0 := by
  intro i c v hc hv
  obtain ⟨j, h1, h2⟩ := (lC on spans b.cols 0 i).2 c hc
  unfold bt at hv
  rw [List.getElem?_map, h1] at hv
  simp only [Option.map_some, Option.some.injEq, Nat.zero_add] at hv
  rw [← hv]
  exact (vt hb hy h2).2
theorem tp {on spans : List ByteArray} {cols : List Col} {c : Col} (h : c ∈ bL on spans cols) : c ∈ cols := (List.mem_filter.1 h).1
theorem lF (o : pI) (bs : List (List aH)) (x : List aH) : ∀ (r : List (List aH)) (k : Nat) (b : Option Nat), k + r.length = bs.length → (∀ i, b = some i → i < bs.length) → ∀ i, gA o bs x r k b = some i → i < bs.length
  | [], _, b, _, hb, i, h => hb i h
  | y :: r, k, b, hk, hb, i, h => by
    simp only [List.length_cons] at hk
    simp only [gA] at h
    split at h
    · exact lF o bs x r (k + 1) b (by omega) hb i h
    · split at h
      · exact lF o bs x r (k + 1) (some k) (by omega) (fun j hj => by cases hj; omega) i h
      · exact lF o bs x r (k + 1) b (by omega) hb i h
theorem rm {a b : bo} {on : List ByteArray} (h : (cH a b on).2 = 0) : bd (cH a b on).1 = 0 ∧ (cH a b on).1.rows = a.rows.map (fW (py a b on) b.rows) := by
  unfold cH at h ⊢
  by_cases h1 : (cX 8 on a b).2 = 0
  case neg => rw [if_pos h1] at h; exact absurd h h1
  rw [if_neg (by simp [h1])]
  have hj := (oe (.inr rfl)).1 h1
  refine ⟨?_, rfl⟩
  rw [sK (.inr rfl) hj]
  have ha := pT hj.ga
  have hb := pT hj.gb
  refine u6 hj.len (by rw [List.length_map]; exact (c9 hj.ga).2) (fun c hc => ?_) hj.nd fun x hx => ?_
  · rcases List.mem_append.1 hc with hc | hc
    · exact ha.1 c hc
    · exact hb.1 c (tp hc)
  · obtain ⟨z, hz, rfl⟩ := List.mem_map.1 hx
    have hzr := dU hj.ga z hz
    have hm : (py a b on).more.length = (bL on (aR 8) b.cols).length := (lC on [aN] b.cols 0 0).1
    unfold fW
    cases hbst : gA (py a b on) b.rows z b.rows 0 none with
    | none =>
      simp only [nk]
      refine ⟨by rw [List.length_append, List.length_append, List.length_replicate, hzr.1, hm], jB hzr.1 hzr.2 fun i c v _ hv => ?_⟩
      rw [List.getElem?_replicate] at hv
      split at hv
      · simp only [Option.some.injEq] at hv; rw [← hv]; exact tu _
      · cases hv
    | some i =>
      have hi := lF (py a b on) b.rows z b.rows 0 none (by simp) (fun i h => by cases h) i hbst
      have hyr : eT b.rows i ∈ b.rows := List.mem_of_getElem? (ma hi)
      simp only [nk]
      refine ⟨by unfold bt; rw [List.length_append, List.length_append, List.length_map, hzr.1, hm], jB hzr.1 hzr.2 (uz hj.gb hyr on [aN])⟩
end Go.Tb
