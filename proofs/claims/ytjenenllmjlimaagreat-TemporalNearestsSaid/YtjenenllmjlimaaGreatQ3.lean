import Derived.Test.YtjenenllmjlimaaGreatQ2
import Derived.Laws.MakeOwn
namespace Go.Ab
open Go.RowKit
structure iU where
  bxF : Nat → List (Nat × List A)
  bxT : Nat → List (Nat × List A)
  lv : Nat → List Nat
  gen : Nat → Nat
  ord : Nat → List Nat
  g0 : Nat
  z : List A
  cs : List Nat
  al : Nat
def iU.bx (S : iU) (k : Nat) (b : Bool) : List (Nat × List A) := bif b then S.bxT k else S.bxF k
abbrev xk (iW : List (List (Nat × List A))) (lvs : List (List Nat)) (gens : List Nat) (cs : List Nat) (al : Nat) : iU := ⟨fun _ => [], fun k => iW.getD k [], fun k => lvs.getD k [], fun k => gens.getD k 0, fun _ => [], 0, [], cs, al⟩
def gz (S : iU) (ops : Array Oper) (i k : Nat) (b : Bool) : Bool :=
  ((List.range S.cs.length).all fun j => bif Nat.blt j k then !cB .any ops ops.size (S.cs.getD j 0) i else !cB .any ops ops.size i (S.cs.getD j 0)) &&
  (bif b then !cB .any ops ops.size S.al i else (Nat.blt S.al ops.size && !cB .any ops ops.size i S.al))
theorem au {S : iU} {ops : Array Oper} {i k : Nat} {b : Bool} (h : gz S ops i k b = true) (h' : gz S ops i k b = false) : False := by rw [h] at h'; cases h'
section
variable {P : Program} (T : cr P) {C : Ctx} {n : Nat} (S : iU) {ops : Array Oper}
abbrev SD := c7 × Nat × Bool
def xe (C : Ctx) (n : Nat) (S : iU) (b0 : Bool) (σ : SD) (act : Act) (w : World) : Prop :=
  (b0 = true → σ.2.2 = true) ∧ act.defers = [] ∧ ∃ G, dP C n (S.bx σ.2.1 σ.2.2) (S.lv σ.2.1) (S.gen σ.2.1) σ.1 G act.tmps w ∧ (σ.2.2 = false → ∀ t a, σ.1 t = some a → bJ (S.ord σ.2.1) a = a)
def wF (P : Program) (C : Ctx) (n : Nat) (S : iU) (ops : Array Oper) (o : Oper) (a : A) (k : Nat) (b : Bool) (φ : c7) : Prop :=
  o.guard = none ∧ ∃ p, (∀ t x, look p t = some x → φ t = some x ∧ t ∈ o.looksAt ops) ∧
    ∀ g, WO P C n ops (fun e st => e = .normal ∧ st = St.put ⟨p ++ g, S.bx (k + 1) b, S.lv (k + 1), S.gen (k + 1)⟩ o.dst a) [o] ⟨p ++ g, S.bx k b, S.lv k, S.gen k⟩
def YD (P : Program) (T : cr P) (C : Ctx) (n : Nat) (S : iU) (ops : Array Oper) (i : Nat) (a : A) (σ : SD) : Prop :=
  ∃ o, ops[i]? = some o ∧ dV n o.dst = true ∧ σ.2.1 ≤ S.cs.length ∧ gz S ops i σ.2.1 σ.2.2 = true ∧
    ((S.cs[σ.2.1]? = some i ∧ i ≠ S.al ∧ (∀ b, gz S ops i σ.2.1 b = true → wF P C n S ops o a σ.2.1 b σ.1) ∧ (gz S ops i σ.2.1 false = true → bJ (S.ord (σ.2.1 + 1)) a = a)) ∨
     (i ∉ S.cs ∧ i = S.al ∧ σ.2.2 = false ∧ o.guard = none ∧ a = .ptr S.g0 0 ∧ ∃ e d dt, o.op = .alloc e ∧ o.dst = some d ∧ aA T.l e = some dt ∧ S.z = dt.z.map fun v => A.d (.v v)) ∨
     (i ∉ S.cs ∧ i ≠ S.al ∧ ∀ k b, k ≤ S.cs.length → gz S ops i k b = true → YA P C n (S.bx k b) (S.lv k) (S.gen k) ops o a σ.1 ∧ (b = false → bJ (S.ord k) a = a)))
def r8 (S : iU) (ops : Array Oper) (i : Nat) (a : A) (σ : SD) : SD :=
  match ops[i]? with
  | none => σ
  | some o => (bD σ.1 o.dst a, (if S.cs[σ.2.1]? = some i then σ.2.1 + 1 else σ.2.1), if i = S.al then true else σ.2.2)
variable {T} {S}
theorem mW {o : Oper} {a : A} {k : Nat} {b : Bool} {φ : c7} {dst : Option Nat} {x : A} (hd : ∀ d, dst = some d → d ∉ o.looksAt ops) : wF P C n S ops o a k b (bD φ dst x) ↔ wF P C n S ops o a k b φ := by
  constructor
  · rintro ⟨h0, p, h1, h2⟩
    exact ⟨h0, p, fun t y hy => ⟨(fc hd (h1 t y hy).2).symm.trans (h1 t y hy).1, (h1 t y hy).2⟩, h2⟩
  · rintro ⟨h0, p, h1, h2⟩
    exact ⟨h0, p, fun t y hy => ⟨(fc hd (h1 t y hy).2).trans (h1 t y hy).1, (h1 t y hy).2⟩, h2⟩
theorem rq {i k c : Nat} {b : Bool} (h : S.cs[k]? = some c) (hl : loose .any ops i c) : gz S ops i (k + 1) b = gz S ops i k b := by
  unfold gz
  congr 1
  rw [Bool.eq_iff_iff, List.all_eq_true, List.all_eq_true]
  have hk : S.cs.getD k 0 = c := by simp [List.getD_eq_getElem?_getD, h]
  have key : ∀ j, (bif Nat.blt j (k + 1) then !cB .any ops ops.size (S.cs.getD j 0) i else !cB .any ops ops.size i (S.cs.getD j 0)) = (bif Nat.blt j k then !cB .any ops ops.size (S.cs.getD j 0) i else !cB .any ops ops.size i (S.cs.getD j 0)) := fun j => by
    rcases Nat.lt_trichotomy j k with hj | rfl | hj
    · have h1 : Nat.blt j (k + 1) = true := by simp [Nat.blt_eq]; omega
      have h2 : Nat.blt j k = true := by simp [Nat.blt_eq]; omega
      rw [h1, h2]
    · have h1 : Nat.blt j (j + 1) = true := by simp [Nat.blt_eq]
      have h2 : Nat.blt j j = false := by cases q : Nat.blt j j with | false => rfl | true => simp [Nat.blt_eq] at q
      rw [h1, h2, hk, hl.1, hl.2]
      rfl
    · have h1 : Nat.blt j (k + 1) = false := by cases q : Nat.blt j (k + 1) with | false => rfl | true => simp [Nat.blt_eq] at q; omega
      have h2 : Nat.blt j k = false := by cases q : Nat.blt j k with | false => rfl | true => simp [Nat.blt_eq] at q; omega
      rw [h1, h2]
  exact ⟨fun h j hj => by rw [← key]; exact h j hj, fun h j hj => by rw [key]; exact h j hj⟩
theorem oC {i k : Nat} (hlt : S.al < ops.size) (hl : loose .any ops i S.al) : gz S ops i k true = gz S ops i k false := by
  unfold gz
  have h : Nat.blt S.al ops.size = true := by rw [Nat.blt_eq]; exact hlt
  rw [hl.1, hl.2, h]
  rfl
theorem loose.symm {md : Region.Mode} {i j : Nat} (h : loose md ops i j) : loose md ops j i := ⟨h.2, h.1⟩
theorem lb {i : Nat} {o : Oper} (h : ops[i]? = some o) (a : A) (σ : SD) : r8 S ops i a σ = (bD σ.1 o.dst a, (if S.cs[σ.2.1]? = some i then σ.2.1 + 1 else σ.2.1), if i = S.al then true else σ.2.2) := by unfold r8; rw [h]
theorem qB {i k c : Nat} {b : Bool} (h : S.cs[k]? = some c) (hl : loose .any ops i c) (ha : gz S ops i (k + 1) b = true) : gz S ops i k b = true := by rw [← rq h hl]; exact ha
theorem qC {i k c : Nat} {b : Bool} (h : S.cs[k]? = some c) (hl : loose .any ops i c) (ha : gz S ops i k b = true) : gz S ops i (k + 1) b = true := by rw [rq h hl]; exact ha
theorem xF (hch : ∀ k c c', S.cs[k]? = some c → S.cs[k + 1]? = some c' → cB .any ops ops.size c' c = true) {i j : Nat} {oi oj : Oper} (hi : ops[i]? = some oi) (hj : ops[j]? = some oj) (hij : i ≠ j) (hap : oi.apart ops oj = true) (hl : loose .any ops i j) :
    mA (YD P T C n S ops) (r8 S ops) i j := by
  obtain ⟨a1, a2, a3⟩ := Oper.apart_spec hap
  rintro a b ⟨φ, k, ph⟩ ⟨oi', hi', di, hk, ai, hyi⟩ ⟨oj', hj', dj, hk2, aj, hyj⟩
  rw [hi] at hi'
  cases hi'
  rw [hj] at hj'
  cases hj'
  have hcomm : bD (bD φ oi.dst a) oj.dst b = bD (bD φ oj.dst b) oi.dst a := kJ φ a b a2
  have mem_of : ∀ {k c : Nat}, S.cs[k]? = some c → c ∈ S.cs := fun h => List.mem_of_getElem? h
  have klt : ∀ {k c : Nat}, S.cs[k]? = some c → k + 1 ≤ S.cs.length := fun h => (List.getElem?_eq_some_iff.1 h).1
  rw [lb hi] at aj hyj hk2
  simp only [lb hi, lb hj]
  simp only at hk ai hyi hk2 aj hyj
  rcases hyi with ⟨ci, nai, xi, fi⟩ | ⟨nci, ali, rfl, gi, ei, hi6⟩ | ⟨nci, nai, yi⟩
  · -- i is of the chain
    simp only [if_pos ci, if_neg nai] at aj hyj hk2
    rcases hyj with ⟨cj, _⟩ | ⟨ncj, alj, rfl, gj, ej, hj6⟩ | ⟨ncj, naj, yj⟩
    · exact absurd (hch k i j ci cj) (by rw [hl.2]; simp)
    · have hsi : loose .any ops i S.al := by rw [← alj]; exact hl
      have hlt : S.al < ops.size := by rw [← alj]; exact (Array.getElem?_eq_some_iff.1 hj).1
      have n1 : ¬ S.cs[k]? = some j := fun h => ncj (mem_of h)
      refine ⟨⟨oj, hj, dj, hk, qB ci hl.symm aj, .inr (.inl ⟨ncj, alj, rfl, gj, ej, hj6⟩)⟩, ?_, ?_⟩
      · refine ⟨oi, hi, di, ?_, ?_, .inl ⟨?_, nai, fun b hb => (mW a3).2 ?_, ?_⟩⟩
        all_goals simp only [if_neg n1]
        · exact hk
        · rw [if_pos alj, oC hlt hsi]; exact ai
        · exact ci
        · simp only [if_neg n1] at hb
          exact xi b hb
        · exact fi
      · simp only [if_pos ci, if_neg nai, if_pos alj, if_neg n1, hcomm]
        have n2 : ¬ S.cs[k + 1]? = some j := fun h => ncj (mem_of h)
        rw [if_neg n2]
    · have n1 : ¬ S.cs[k]? = some j := fun h => ncj (mem_of h)
      have n2 : ¬ S.cs[k + 1]? = some j := fun h => ncj (mem_of h)
      refine ⟨⟨oj, hj, dj, hk, qB ci hl.symm aj, .inr (.inr ⟨ncj, naj, fun k b h1 h2 => ⟨(dN a1).1 (yj k b h1 h2).1, (yj k b h1 h2).2⟩⟩)⟩, ?_, ?_⟩
      · refine ⟨oi, hi, di, ?_, ?_, .inl ⟨?_, nai, fun b hb => (mW a3).2 ?_, ?_⟩⟩
        all_goals simp only [if_neg n1]
        · exact hk
        · rw [if_neg naj]; exact ai
        · exact ci
        · simp only [if_neg n1] at hb
          exact xi b hb
        · exact fi
      · simp only [if_pos ci, if_neg nai, if_neg naj, if_neg n1, if_neg n2, hcomm]
  · -- i is the allocation
    have n1 : ¬ S.cs[k]? = some i := fun h => nci (mem_of h)
    simp only [if_neg n1, if_pos ali] at aj hyj hk2
    have hsj : loose .any ops j S.al := by rw [← ali]; exact hl.symm
    have hlt : S.al < ops.size := by rw [← ali]; exact (Array.getElem?_eq_some_iff.1 hi).1
    rcases hyj with ⟨cj, naj, xj, fj⟩ | ⟨_, alj, h, _⟩ | ⟨ncj, naj, yj⟩
    · have n2 : ¬ S.cs[k + 1]? = some i := fun h => nci (mem_of h)
      refine ⟨⟨oj, hj, dj, hk, by rw [← oC hlt hsj]; exact aj, .inl ⟨cj, naj, fun b hb => (mW a1).1 (xj b hb), fj⟩⟩, ?_, ?_⟩
      · refine ⟨oi, hi, di, ?_, ?_, .inr (.inl ⟨nci, ali, ?_, gi, ei, hi6⟩)⟩
        all_goals simp only [if_pos cj, if_neg naj]
        · exact klt cj
        · exact qC cj hl ai
      · simp only [if_neg n1, if_pos ali, if_pos cj, if_neg naj, if_neg n2, hcomm]
    · exact absurd (ali.trans alj.symm) hij
    · have n3 : ¬ S.cs[k]? = some j := fun h => ncj (mem_of h)
      refine ⟨⟨oj, hj, dj, hk, by rw [← oC hlt hsj]; exact aj, .inr (.inr ⟨ncj, naj, fun k b h1 h2 => ⟨(dN a1).1 (yj k b h1 h2).1, (yj k b h1 h2).2⟩⟩)⟩, ?_, ?_⟩
      · refine ⟨oi, hi, di, ?_, ?_, .inr (.inl ⟨nci, ali, ?_, gi, ei, hi6⟩)⟩
        all_goals simp only [if_neg n3, if_neg naj]
        · exact hk
        · exact ai
      · simp only [if_neg n1, if_pos ali, if_neg n3, if_neg naj, hcomm]
  · -- i leaves the ghost
    have n1 : ¬ S.cs[k]? = some i := fun h => nci (mem_of h)
    simp only [if_neg n1, if_neg nai] at aj hyj hk2
    rcases hyj with ⟨cj, naj, xj, fj⟩ | ⟨ncj, alj, rfl, gj, ej, hj6⟩ | ⟨ncj, naj, yj⟩
    · have n2 : ¬ S.cs[k + 1]? = some i := fun h => nci (mem_of h)
      refine ⟨⟨oj, hj, dj, hk, aj, .inl ⟨cj, naj, fun b hb => (mW a1).1 (xj b hb), fj⟩⟩, ?_, ?_⟩
      · refine ⟨oi, hi, di, ?_, ?_, .inr (.inr ⟨nci, nai, fun k b h1 h2 => ⟨(dN a3).2 (yi k b h1 h2).1, (yi k b h1 h2).2⟩⟩)⟩
        all_goals simp only [if_pos cj, if_neg naj]
        · exact klt cj
        · exact qC cj hl ai
      · simp only [if_neg n1, if_neg nai, if_pos cj, if_neg naj, if_neg n2, hcomm]
    · have n3 : ¬ S.cs[k]? = some j := fun h => ncj (mem_of h)
      have hsi : loose .any ops i S.al := by rw [← alj]; exact hl
      have hlt : S.al < ops.size := by rw [← alj]; exact (Array.getElem?_eq_some_iff.1 hj).1
      refine ⟨⟨oj, hj, dj, hk, aj, .inr (.inl ⟨ncj, alj, rfl, gj, ej, hj6⟩)⟩, ?_, ?_⟩
      · refine ⟨oi, hi, di, ?_, ?_, .inr (.inr ⟨nci, nai, fun k b h1 h2 => ⟨(dN a3).2 (yi k b h1 h2).1, (yi k b h1 h2).2⟩⟩)⟩
        all_goals simp only [if_neg n3, if_pos alj]
        · exact hk
        · rw [oC hlt hsi]; exact ai
      · simp only [if_neg n1, if_neg nai, if_neg n3, if_pos alj, hcomm]
    · have n3 : ¬ S.cs[k]? = some j := fun h => ncj (mem_of h)
      refine ⟨⟨oj, hj, dj, hk, aj, .inr (.inr ⟨ncj, naj, fun k b h1 h2 => ⟨(dN a1).1 (yj k b h1 h2).1, (yj k b h1 h2).2⟩⟩)⟩, ?_, ?_⟩
      · refine ⟨oi, hi, di, ?_, ?_, .inr (.inr ⟨nci, nai, fun k b h1 h2 => ⟨(dN a3).2 (yi k b h1 h2).1, (yi k b h1 h2).2⟩⟩)⟩
        all_goals simp only [if_neg n3, if_neg naj]
        · exact hk
        · exact ai
      · simp only [if_neg n1, if_neg nai, if_neg n3, if_neg naj, hcomm]
theorem WO.wO {o : Oper} (hg : o.guard = none) {st st1 : St} {G : Gh} {tmps : Array Value} {w : World} {Q' : Exit → Act → World → Prop} (h : WO P C n ops (fun e st => e = .normal ∧ st = st1) [o] st) (hs : aU C n st G tmps w) :
    o.wp P ⟨tmps, []⟩ w (fun act w => act.defers = [] ∧ ∃ G, aU C n st1 G act.tmps w) Q' := by
  have hw : Region.wanted o (yielded ops tmps) = true := by simp [Region.wanted, hg]
  have h := h tmps w ⟨G, hs⟩
  simp only [gQ, hw, if_true] at h
  refine Oper.se (fun c a w hq => ?_) (fun hl => ?_) (fun act2 w2 hq => ?_) h
  · obtain ⟨_, st', _, he, _⟩ := hq
    cases he
  · obtain ⟨_, _, hq⟩ := hl
    obtain ⟨_, st', _, he, _⟩ := hq
    cases he
  · obtain ⟨hdf, st', ⟨G', hs2⟩, _, rfl⟩ := hq
    exact ⟨hdf, G', hs2⟩
theorem rS {bx : List (Nat × List A)} {lv : List Nat} {gen : Nat} {φ : c7} {G : Gh} {tmps : Array Value} {w : World} (hs : dP C n bx lv gen φ G tmps w) (t : Nat) (x : A) (hx : φ t = some x) : t < n := by
  obtain ⟨v, h1, _⟩ := hs.2 t x hx
  have := (Array.getElem?_eq_some_iff.1 h1).1
  rw [hs.1.size] at this
  exact this
theorem ry {φ : c7} {p : List (Nat × A)} (hlt : ∀ t x, φ t = some x → t < n) (hp : ∀ t x, look p t = some x → φ t = some x) (t : Nat) : look (p ++ ez n φ) t = φ t := by
  rw [qy]
  cases q : look p t with
  | some x => exact (hp t x q).symm
  | none =>
    simp only
    unfold ez
    rw [kz]
    cases e : φ t with
    | none => split <;> rfl
    | some x => rw [if_pos (List.mem_range.2 (hlt t x e))]
theorem qg {φ : c7} {f : List (Nat × A)} (h : ∀ t, look f t = φ t) {d : Nat} {a : A} {t : Nat} : look ((d, a) :: f) t = bD φ (some d) a t := by
  rw [bo]
  simp only [bD]
  by_cases e : t = d
  · subst e
    rw [if_pos rfl, if_pos rfl]
  · rw [if_neg e, if_neg (Ne.symm e), h]
def uT (S : iU) (nb k : Nat) : Prop := (jU (S.ord k) (S.gen k) nb = true ∧ pos (S.ord k) (S.gen k) = some S.g0) ∧ jf (S.ord k) ((S.gen k, S.z) :: S.bxF k) (S.bxT k) ∧ qm (S.ord k) (S.lv k) (S.lv k) = true
def oW (S : iU) (nb : Nat) : Nat → Prop
  | 0 => uT S nb 0
  | k + 1 => uT S nb (k + 1) ∧ sD (S.ord k) (S.ord (k + 1)) = true ∧ oW S nb k
theorem oW.at {nb : Nat} : ∀ {m : Nat}, oW S nb m → ∀ k, k ≤ m → uT S nb k
  | 0, h, k, hk => by obtain rfl : k = 0 := by omega
                      exact h
  | m + 1, h, k, hk => by
    rcases Nat.lt_or_ge k (m + 1) with hlt | hge
    · exact oW.at h.2.2 k (by omega)
    · obtain rfl : k = m + 1 := by omega
      exact h.1
theorem oW.mono {nb : Nat} : ∀ {m : Nat}, oW S nb m → ∀ k, k < m → sD (S.ord k) (S.ord (k + 1)) = true
  | 0, _, k, hk => absurd hk (Nat.not_lt_zero _)
  | m + 1, h, k, hk => by
    rcases Nat.lt_or_ge k m with hlt | hge
    · exact oW.mono h.2.2 k hlt
    · obtain rfl : k = m := by omega
      exact h.2.1
theorem w6 {nb : Nat} [hnb : NB C nb] (b0 : Bool) (hok : b0 = false → oW S nb S.cs.length) (i : Nat) (a : A) (σ : SD) (act : Act) (w : World) (K : Act → World → Prop) {Q' : Exit → Act → World → Prop} (hs : xe C n S b0 σ act w) (hy : YD P T C n S ops i a σ) (hK : ∀ act w, xe C n S b0 (r8 S ops i a σ) act w → K act w) : wpOp P ops Q' i K act w := by
  obtain ⟨tmps, dfs⟩ := act
  obtain ⟨hb0, rfl, G, hs, hfix⟩ := hs
  obtain ⟨φ, k, ph⟩ := σ
  obtain ⟨o, ho, hd, hkl, hal, hy⟩ := hy
  rw [lb ho] at hK
  simp only at hs hfix hkl hal hy hK hb0
  unfold wpOp
  simp only [ho]
  rcases hy with ⟨hc, nal, hx, hr⟩ | ⟨nc, hal', rfl, hg, rfl, e, d, dt, hop, hdst, he, hz⟩ | ⟨nc, nal, hya⟩
  · obtain ⟨hg, p, hp, hx⟩ := hx ph hal
    rw [if_pos hc, if_neg nal] at hK
    have hw : Region.wanted o (yielded ops tmps) = true := by simp [Region.wanted, hg]
    rw [hw, if_pos rfl]
    refine .inl ?_
    have hlook := ry (rS hs) (fun t x hx => (hp t x hx).1)
    have hs' := hs.km (f := p ++ ez n φ) fun t x hx => by rw [← hlook]; exact hx
    refine Oper.wp_mono (fun act2 w2 ⟨hdf, G', hs2⟩ => hK act2 w2 ⟨hb0, hdf, G', ?_, fun hph t x hx => ?_⟩) (WO.wO hg (hx (ez n φ)) hs')
    · show dP C n (S.bx (k + 1) ph) (S.lv (k + 1)) (S.gen (k + 1)) (bD φ o.dst a) G' act2.tmps w2
      cases hdst : o.dst with
      | none =>
        rw [hdst] at hs2
        refine ⟨{ hs2 with frame := fun t a ha => by simp [look] at ha }, fun t x hx => hs2.frame t x ?_⟩
        show look (p ++ ez n φ) t = some x
        rw [hlook]
        exact hx
      | some d =>
        rw [hdst] at hs2
        refine ⟨{ hs2 with frame := fun t a ha => by simp [look] at ha }, fun t x hx => hs2.frame t x ?_⟩
        show look ((d, a) :: (p ++ ez n φ)) t = some x
        rw [qg hlook]
        exact hx
    · simp only at hph hx
      have hbf : b0 = false := by cases b0 with | false => rfl | true => rw [hb0 rfl] at hph; cases hph
      have hm := th ((hok hbf).mono k (List.getElem?_eq_some_iff.1 hc).1)
      cases hdst : o.dst with
      | none => rw [hdst] at hx; exact px hm x (hfix hph t x hx)
      | some d =>
        rw [hdst] at hx
        simp only [bD] at hx
        split at hx
        · cases hx; exact hr (by rw [← hph]; exact hal)
        · exact px hm x (hfix hph t x hx)
  · have hkc : ¬ S.cs[k]? = some i := fun h => nc (List.mem_of_getElem? h)
    rw [if_neg hkc, if_pos hal'] at hK
    have hw : Region.wanted o (yielded ops tmps) = true := by simp [Region.wanted, hg]
    rw [hw, if_pos rfl]
    refine .inl ?_
    have hbf : b0 = false := by cases b0 with | false => rfl | true => cases hb0 rfl
    obtain ⟨⟨hO, hpos⟩, hBR, hLR⟩ := (hok hbf).at k hkl
    have hlook : ∀ t, look (ez n φ) t = φ t := ry (p := []) (rS hs) (fun t x hx => by simp [look] at hx)
    have hs' := hs.km (f := ez n φ) fun t x hx => by rw [← hlook]; exact hx
    have hwo : WO P C n ops (fun e st => e = .normal ∧ st = St.put ⟨ez n φ, (S.gen k, S.z) :: S.bx k false, S.lv k, S.gen k + 1⟩ o.dst (.ptr (S.gen k) 0)) [o] ⟨ez n φ, S.bx k false, S.lv k, S.gen k⟩ :=
      WO.alloc T hg hd hop he (WO.nil ⟨rfl, by rw [hz]⟩)
    refine Oper.wp_mono (fun act2 w2 ⟨hdf, G', hs2⟩ => hK act2 w2 ⟨fun _ => rfl, hdf, lC (S.ord k) G', ?_, fun h => by cases h⟩) (WO.wO hg hwo hs')
    simp only [jU, Bool.and_eq_true] at hO
    obtain ⟨⟨hO1, hO2⟩, hO3⟩ := hO
    rw [hdst] at hs2 ⊢
    have h3 : aU C n ⟨(d, .ptr S.g0 0) :: ez n φ, S.bxT k, S.lv k, S.gen k⟩ (lC (S.ord k) G') act2.tmps w2 := by
      refine aU.bJ (gen' := S.gen k) hs2 (S.ord k) (iY hO1) (Nat.le_of_ble_eq_true hO2) (fun i hi => ?_) (fun t x hx => ?_) (fun i l' hl' => ?_) (fun i hi => ?_)
      · have h4 := l8 hO3 i (by rw [← hnb.h]; exact hi)
        simpa using h4
      · rw [bo] at hx
        show ∃ a, look ((d, .ptr (S.gen k) 0) :: ez n φ) t = some a ∧ bJ (S.ord k) a = x
        rw [bo]
        split at hx
        · rename_i e
          rw [if_pos e]
          cases hx
          exact ⟨_, rfl, by simp only [bJ, hpos]⟩
        · rename_i e
          rw [if_neg e]
          rw [hlook] at hx ⊢
          exact ⟨x, hx, hfix rfl t x hx⟩
      · exact jf.le hBR i l' hl'
      · exact pc hLR i hi
    refine ⟨{ h3 with frame := fun t a ha => by simp [look] at ha }, fun t x hx => h3.frame t x ?_⟩
    show look ((d, _) :: ez n φ) t = some x
    rw [qg hlook]
    exact hx
  · have hkc : ¬ S.cs[k]? = some i := fun h => nc (List.mem_of_getElem? h)
    rw [if_neg hkc, if_neg nal] at hK
    obtain ⟨hya, hr⟩ := hya k ph hkl hal
    have hfix' : ph = false → ∀ t x, bD φ o.dst a t = some x → bJ (S.ord k) x = x := fun hph t x hx => by
      cases hdst : o.dst with
      | none => rw [hdst] at hx; exact hfix hph t x hx
      | some d =>
        rw [hdst] at hx
        simp only [bD] at hx
        split at hx
        · cases hx; exact hr hph
        · exact hfix hph t x hx
    obtain ⟨_, ⟨hw, f, hf, hp⟩ | ⟨hw, rfl⟩⟩ := hya
    · rw [fC hs hw]
      simp only [if_true]
      refine .inl ?_
      have hg : du P o ⟨tmps, []⟩ w fun v w' => Below w.heap.size w w' ∧ aW (aJ C G (S.gen k) w') v a := hp G tmps w (hs.km fun t x hx => (hf t x hx).1)
      refine hg.wp fun v w' ⟨hb, hr⟩ => ?_
      rw [Act.put_eq]
      exact hK _ _ ⟨hb0, rfl, G, hs.step hb hd hr, hfix'⟩
    · rw [fC hs hw]
      simp only [Bool.false_eq_true, if_false]
      rw [Act.put_eq]
      exact hK _ _ ⟨hb0, rfl, G, hs.step (Below.refl _ _) hd (.tup #[] [] rfl (by simp)), hfix'⟩
def CD (P : Program) (T : cr P) (C : Ctx) (n : Nat) (S : iU) (ops : Array Oper) (Q : St → Prop) (l : List Oper) (i : Nat) (f : List (Nat × A)) (k : Nat) (b : Bool) : Prop :=
  tH (YD P T C n S ops) (r8 S ops) (fun σ => ∃ f', (∀ t, look f' t = σ.1 t) ∧ σ.2 = (S.cs.length, true) ∧ Q ⟨f', S.bxT S.cs.length, S.lv S.cs.length, S.gen S.cs.length⟩) l i (look f, k, b)
def l4 (ops : Array Oper) : List Nat → Bool
  | c :: c' :: r => cB .any ops ops.size c' c && l4 ops (c' :: r)
  | _ => true
theorem nj {ops : Array Oper} : ∀ {cs : List Nat}, l4 ops cs = true → ∀ k c c', cs[k]? = some c → cs[k + 1]? = some c' → cB .any ops ops.size c' c = true
  | [], _, k, c, c', h, _ => by simp at h
  | [_], _, k, c, c', _, h => by simp at h
  | x :: y :: r, h, k, c, c', h1, h2 => by
    simp only [l4, Bool.and_eq_true] at h
    cases k with
    | zero =>
      simp at h1 h2
      subst h1; subst h2
      exact h.1
    | succ k => exact nj h.2 k c c' (by simpa using h1) (by simpa using h2)
def oB (o : List Nat) : List (Nat × A) → Prop
  | [] => True
  | (_, a) :: r => bJ o a = a ∧ oB o r
theorem oB.at {o : List Nat} : ∀ {f : List (Nat × A)}, oB o f → ∀ t a, look f t = some a → bJ o a = a
  | [], _, t, a, h => by simp [look] at h
  | (s, x) :: r, hf, t, a, h => by
    rw [bo] at h
    split at h
    · cases h; exact hf.1
    · exact hf.2.at t a h
theorem W.rI (T : cr P) {nb : Nat} [hnb : NB C nb] {id : Nat} {l l1 l2 : List Oper} {f : List (Nat × A)} {bx : List (Nat × List A)} {lv : List Nat} {gen : Nat} {Q : Exit → St → Prop} (S : iU) (b0 : Bool) (m : Nat) (hB : jy m l.toArray = true) (hch : l4 l.toArray S.cs = true) (h1 : l.take m = l1) (h2 : l.drop m = l2)
    (hok : b0 = false → oW S nb S.cs.length ∧ oB (S.ord 0) f) (e1 : ∀ g c, aA (S.bx 0 b0) g = some c → aA bx g = some c) (e2 : S.lv 0 = lv) (e3 : Nat.ble gen (S.gen 0) = true)
    (h : CD P T C n S l.toArray (WO P C n l.toArray Q l2) l1 0 f 0 b0) : W P C n (.region id l.toArray true) Q ⟨f, bx, lv, gen⟩ := by
  subst h1; subst h2; subst e2
  intro tmps w ⟨G, hs⟩
  have hs : aU C n ⟨f, bx, S.lv 0, S.gen 0⟩ G tmps w := aU.vM hs (g := S.gen 0) (Nat.le_of_ble_eq_true e3)
  have hs : aU C n ⟨f, S.bx 0 b0, S.lv 0, S.gen 0⟩ G tmps w := { hs with box := fun g c hc => hs.box g c (e1 g c hc) }
  simp only [jy, Bool.and_eq_true] at hB
  obtain ⟨⟨⟨hm, hw⟩, hfore⟩, hlex⟩ := hB
  have hm : m ≤ l.length := by simpa using Nat.le_of_ble_eq_true hm
  have hb : Below w.heap.size w { w with drawn := w.drawn + 1 } := (Below.refl _ w).drew
  have hs' : dP C n (S.bx 0 b0) (S.lv 0) (S.gen 0) (look f) G tmps { w with drawn := w.drawn + 1 } := dP.ua (hs.iM hb).2
  have hlen : (l.take m).length = m := by simp; omega
  refine wp_region_any T.mixed ?_
  have hsz : l.toArray.size = (l.take m).length + (l.drop m).length := by simp; omega
  rw [hsz]
  have hcl : eO .any l.toArray (Array.replicate ((l.take m).length + (l.drop m).length) false) := fun j oj _ hl _ _ _ => by
    by_cases q : j < (l.take m).length + (l.drop m).length
    · simp only [Array.getD_eq_getD_getElem?, Array.getElem?_replicate] at hl
      rw [if_pos q] at hl
      cases hl
    · simp only [Array.getD_eq_getD_getElem?, Array.getElem?_replicate] at hl
      rw [if_neg q] at hl
      cases hl
  refine lD (m := m) (Sm := xe C n S b0) (Y := YD P T C n S l.toArray) (ef := r8 S l.toArray) (Q := fun σ => ∃ f', (∀ t, look f' t = σ.1 t) ∧ σ.2 = (S.cs.length, true) ∧ WO P C n l.toArray Q (l.drop m) ⟨f', S.bxT S.cs.length, S.lv S.cs.length, S.gen S.cs.length⟩)
    (fun i e σ act w K hs hy hk => w6 b0 (fun h => (hok h).1) i e σ act w K hs hy hk) (fun listed σ act w hs hc hsp ⟨f', e1, e2, hq⟩ => ?_) _ _ (look f, 0, b0) ⟨tmps, []⟩ _ ⟨fun h => h, rfl, G, hs', fun h => (hok h).2.at⟩ hcl ?_
  · obtain ⟨tmps, dfs⟩ := act
    obtain ⟨_, rfl, G, hs, _⟩ := hs
    rw [e2] at hs
    refine kQ hw (lJ hfore) (l.drop m) m listed ⟨tmps, []⟩ w (Nat.le_refl _) (by simp; omega) (fun j => by simp [List.getElem?_drop]) hc hsp.1 hsp.2.1 hsp.2.2 ?_
    exact hq tmps w ⟨G, hs.km (fun t a ha => by rw [← e1]; exact ha)⟩
  · refine rh hw (fun i j oi oj hi hj hij him hjm hap hno => xF (nj hch) hi hj hij hap hno) (l.take m) 0 _ _ (by rw [hlen]; omega) (fun j hj => ?_) hcl (by simp; omega) (fun j hj => by omega) (fun j _ hj => ?_) (by rw [hlen]; rw [hsz, hlen] at hlex; exact hlex) h
    · rw [hlen] at hj
      rw [Nat.zero_add]
      simp [List.getElem?_take, hj]
    · have hj' : j < l.length := by simpa using hj
      have e : min m l.length + (l.length - m) = l.length := by omega
      simp [e, hj']
variable {op : Op} {ty : TypeId} {pos : String} {af : Array Edge} {a : A} {d i k : Nat} {rest : List Oper} {f : List (Nat × A)} {Q : St → Prop} {b : Bool}
theorem CD.nil (h : Q ⟨f, S.bxT S.cs.length, S.lv S.cs.length, S.gen S.cs.length⟩) (hk : Nat.beq k S.cs.length = true) : CD P T C n S ops Q [] i f k true := by
  have := Nat.eq_of_beq_eq_true hk
  subst this
  exact ⟨f, fun _ => rfl, rfl, h⟩
def qM (p : Nat → Bool → Prop) : Nat → Prop
  | 0 => p 0 false ∧ p 0 true
  | k + 1 => p (k + 1) false ∧ p (k + 1) true ∧ qM p k
theorem qM.at {p : Nat → Bool → Prop} : ∀ {m : Nat}, qM p m → ∀ k b, k ≤ m → p k b
  | 0, h, k, b, hk => by
    obtain rfl : k = 0 := by omega
    cases b
    · exact h.1
    · exact h.2
  | m + 1, h, k, b, hk => by
    rcases Nat.lt_or_ge k (m + 1) with hlt | hge
    · exact h.2.2.at k b (by omega)
    · obtain rfl : k = m + 1 := by omega
      cases b
      · exact h.1
      · exact h.2.1
def sV (x : Nat) (l : List Nat) : Bool := l.any fun y => Nat.beq x y
theorem vC {x : Nat} {l : List Nat} (h : sV x l = false) : x ∉ l := fun hm => by
  have : sV x l = true := List.any_eq_true.2 ⟨x, hm, by simp⟩
  rw [h] at this
  cases this
theorem xP (hp : qM (fun k b => gz S ops i k b = true → Pu P C n ⟨bT f (slotsOf op), S.bx k b, S.lv k, S.gen k⟩ ⟨some d, op, ty, pos, af, none⟩ a ∧ (b = false → bJ (S.ord k) a = a)) S.cs.length)
    (hi : ops[i]? = some ⟨some d, op, ty, pos, af, none⟩) (h1 : sV i S.cs = false) (h2 : Nat.beq i S.al = false) (h3 : (Nat.ble k S.cs.length && gz S ops i k b) = true) (hd : Nat.blt d n = true)
    (h : CD P T C n S ops Q rest (i + 1) ((d, a) :: f) k b) : CD P T C n S ops Q (⟨some d, op, ty, pos, af, none⟩ :: rest) i f k b := by
  simp only [Bool.and_eq_true] at h3
  have nc := vC h1
  have na : i ≠ S.al := fun e => by subst e; simp at h2
  refine ⟨a, ⟨_, hi, hd, Nat.le_of_ble_eq_true h3.1, h3.2, .inr (.inr ⟨nc, na, fun k b hk ha => ⟨YA.ow (hp.at k b hk ha).1 hd, (hp.at k b hk ha).2⟩⟩)⟩, ?_⟩
  rw [lb hi]
  simp only [if_neg na, if_neg (fun e => nc (List.mem_of_getElem? e) : ¬ S.cs[k]? = some i)]
  unfold CD at h
  rw [dR] at h
  exact h
theorem aZ (h0 : Pu P C n ⟨bT f (slotsOf op), S.bx k b, S.lv k, S.gen k⟩ ⟨some d, op, ty, pos, af, none⟩ a) (hp : qM (fun k b => gz S ops i k b = true → Pu P C n ⟨bT f (slotsOf op), S.bx k b, S.lv k, S.gen k⟩ ⟨some d, op, ty, pos, af, none⟩ a ∧ (b = false → bJ (S.ord k) a = a)) S.cs.length)
    (hi : ops[i]? = some ⟨some d, op, ty, pos, af, none⟩) (h1 : sV i S.cs = false) (h2 : Nat.beq i S.al = false) (h3 : (Nat.ble k S.cs.length && gz S ops i k b) = true) (hd : Nat.blt d n = true)
    (h : CD P T C n S ops Q rest (i + 1) ((d, a) :: f) k b) : CD P T C n S ops Q (⟨some d, op, ty, pos, af, none⟩ :: rest) i f k b := xP hp hi h1 h2 h3 hd h
theorem lS (hx : ∀ b, gz S ops i k b = true → ∀ g, WO P C n ops (fun e st => e = .normal ∧ st = ⟨(d, a) :: (bT f (slotsOf op) ++ g), S.bx (k + 1) b, S.lv (k + 1), S.gen (k + 1)⟩) [⟨some d, op, ty, pos, af, none⟩] ⟨bT f (slotsOf op) ++ g, S.bx k b, S.lv k, S.gen k⟩)
    (hi : ops[i]? = some ⟨some d, op, ty, pos, af, none⟩) (h1 : S.cs[k]? = some i) (h2 : Nat.beq i S.al = false) (h3 : gz S ops i k b = true) (hr : gz S ops i k false = true → bJ (S.ord (k + 1)) a = a) (hd : Nat.blt d n = true) (h : CD P T C n S ops Q rest (i + 1) ((d, a) :: f) (k + 1) b) : CD P T C n S ops Q (⟨some d, op, ty, pos, af, none⟩ :: rest) i f k b := by
  have na : i ≠ S.al := fun e => by subst e; simp at h2
  refine ⟨a, ⟨_, hi, hd, Nat.le_of_lt (List.getElem?_eq_some_iff.1 h1).1, h3, .inl ⟨h1, na, fun b hb => ⟨rfl, bT f (slotsOf op), fun t x hx => ?_, fun g => hx b hb g⟩, hr⟩⟩, ?_⟩
  · obtain ⟨h1, h2⟩ := dB hx
    exact ⟨h1, List.mem_append.2 (.inl h2)⟩
  · rw [lb hi]
    simp only [if_neg na, if_pos h1]
    unfold CD at h
    rw [dR] at h
    exact h
theorem W.fV (T : cr P) {nb : Nat} [hnb : NB C nb] {id : Nat} {l l1 l2 : List Oper} {f : List (Nat × A)} {bx : List (Nat × List A)} {lv : List Nat} {gen : Nat} {Q : Exit → St → Prop} (iW : List (List (Nat × List A))) (lvs : List (List Nat)) (gens : List Nat) (cs : List Nat) (m : Nat) (hB : jy m l.toArray = true) (hch : l4 l.toArray cs = true) (h1 : l.take m = l1) (h2 : l.drop m = l2)
    (h : CD P T C n (xk (bx :: iW) (lv :: lvs) (gen :: gens) cs l.length) l.toArray (WO P C n l.toArray Q l2) l1 0 f 0 true) : W P C n (.region id l.toArray true) Q ⟨f, bx, lv, gen⟩ :=
  W.rI T (xk (bx :: iW) (lv :: lvs) (gen :: gens) cs l.length) true m hB hch h1 h2 (fun h => by cases h) (fun _ _ h => h) rfl (by show Nat.ble gen gen = true; simp) h
end
end Go.Ab
namespace Go.Ab
theorem jD {e e' : Exit} {d : Nat} {a a' : A} {f : List (Nat × A)} {bx bx' : List (Nat × List A)} {lv lv' : List Nat} {gen gen' : Nat} (he : e = e') (ha : a = a') (hb : bx = bx') (hl : lv = lv') (hg : gen = gen') :
    e = e' ∧ (⟨(d, a) :: f, bx, lv, gen⟩ : St) = ⟨(d, a') :: f, bx', lv', gen'⟩ := by subst he ha hb hl hg; exact ⟨rfl, rfl⟩
end Go.Ab
namespace Go.Ab
open Go.RowKit
def bb (es : List (List D)) (k : Nat) : List A := es.flatten.map A.d ++ List.replicate k .any
section
variable {C : Ctx} {n : Nat} {st : St} {G : Gh} {tmps : Array Value} {w : World}
theorem jd {sz : Nat} : ∀ {es : List (List D)}, (∀ (e : List D), e ∈ es → e.length = sz) → es.flatten.length = es.length * sz
  | [], _ => by simp
  | e :: es, h => by rw [List.flatten_cons, List.length_append, jd (fun x hx => h x (List.mem_cons_of_mem _ hx)), h e List.mem_cons_self, List.length_cons, Nat.succ_mul, Nat.add_comm]
theorem aU.wS (h : aU C n st G tmps w) {g b len cap sz : Nat} (hg : G.own g = some (.blk b len cap sz 0)) {es : List (List D)} {v : Value} (hx : fZ w (bF C G) (.blk b len cap sz 0) v es) (lv : List Nat) (hlv : ∀ g' ∈ lv, g' ∈ st.lv ∧ g' ≠ g) :
    ∃ G', aU C n ⟨st.f, (st.gen, bb es (cap * sz - len * sz)) :: st.bx, lv, st.gen + 1⟩ G' tmps w ∧ aW (aJ C G' (st.gen + 1) w) v (.sb st.gen es.length cap) := by
  obtain ⟨rfl, hlen, _, hl, hr⟩ := hx
  obtain ⟨hmine, hnb, huniq, cur, T, hcur, hcs, hlc, hcm, hz, hpos, _, hone⟩ := h.row g b len cap sz 0 hg
  let G' : Gh := ⟨fun x => if x = st.gen then some b else G.box x, fun x => if x = g then none else G.own x⟩
  have hgl := h.gown g _ hg
  have hblt : b < w.heap.size := (Array.getElem?_eq_some_iff.1 hcur).1
  have hpv : ∀ b' o, bF C G' b' o → bF C G b' o := by
    rintro b' o (hp | ⟨g', hp⟩ | ⟨g', len', cap', sz', pub', hp, hl'⟩)
    · exact .inl hp
    · simp only [G'] at hp
      split at hp
      · simp only [Option.some.injEq] at hp
        subst hp
        exact .inr (.inr ⟨g, len, cap, sz, 0, hg, Nat.zero_le _⟩)
      · exact .inr (.inl ⟨g', hp⟩)
    · simp only [G'] at hp
      split at hp
      · cases hp
      · exact .inr (.inr ⟨g', len', cap', sz', pub', hp, hl'⟩)
  have hle : (aJ C G st.gen w).le (aJ C G' (st.gen + 1) w) := lj h.fr h.fr (fun b o u hu hn => ⟨hu, fun hp => hn (hpv b o hp)⟩) (fun g' b' hb' => by
      simp only [G']
      rw [if_neg (Nat.ne_of_lt (h.gbox g' b' hb').1)]
      exact hb')
    (fun g' r' hg' hr' => by
      simp only [G'] at hr'
      split at hr'
      · cases hr'
      · exact hr') (Nat.le_succ _) (fun _ _ _ _ _ _ _ _ => rfl) (fun _ _ _ _ => rfl) (.refl w)
  have hfl := jd hl
  have hsub : len * sz ≤ cap * sz := Nat.mul_le_mul_right _ hlc
  refine ⟨G', { size := h.size, frame := h.ew hle, xold := h.xold, kold := h.kold, fr := h.fr, lent := ?_, box := ?_, gbox := ?_, inj := ?_, live := ?_, gown := ?_, row := ?_, mrow := ?_ }, ?_⟩
  · intro g' cells hc
    simp only [bX] at hc
    split at hc
    · rename_i e
      simp only [Option.some.injEq] at hc
      subst hc
      subst e
      refine ⟨b, cur, T, by simp [G'], hcur, ?_, fun i u hu => hone i u hu, fun i u a hu ha => ?_⟩
      · simp only [bb, List.length_append, List.length_map, List.length_replicate, hfl, hlen]; omega
      · unfold bb at ha
        rcases Nat.lt_or_ge i es.flatten.length with hi | hi
        · rw [List.getElem?_append_left (by rw [List.length_map]; exact hi), List.getElem?_map, Option.map_eq_some_iff] at ha
          obtain ⟨d, hd, rfl⟩ := ha
          have hi2 : i < len * sz := by rw [← hlen, ← hfl]; exact hi
          have hdiv : i / sz < es.length := by rw [hlen]; exact Nat.div_lt_of_lt_mul (by rw [Nat.mul_comm]; exact hi2)
          have he : es[i / sz]? = some es[i / sz] := by simp [hdiv]
          have hel := hl _ (List.mem_of_getElem? he)
          have hdd : es[i / sz][i % sz]? = some (es[i / sz][i % sz]'(by rw [hel]; exact Nat.mod_lt _ hz)) := by simp
          have hfg := jl hl _ _ _ _ he hdd
          rw [Nat.div_add_mod' i sz, hd] at hfg
          obtain ⟨u', hu', hud⟩ := hr _ _ _ _ he hdd
          rw [Nat.div_add_mod' i sz, bW hcur] at hu'
          rw [hu] at hu'
          cases hu'
          rw [Option.some.inj hfg]
          exact .d (hud.mono hle.cell)
        · rw [List.getElem?_append_right (by rw [List.length_map]; exact hi)] at ha
          have := List.eq_of_mem_replicate (List.mem_of_getElem? ha)
          subst this
          exact .any _
    · obtain ⟨b', cs, T', h1, h2, h3, h4, h5⟩ := h.box g' cells hc
      exact ⟨b', cs, T', by simp only [G']; rw [if_neg (Nat.ne_of_lt (h.gbox g' b' h1).1)]; exact h1, h2, h3, h4, fun i u a hu ha => (h5 i u a hu ha).mono hle⟩
  · intro g' b' hb
    simp only [G'] at hb
    split at hb
    · rename_i e
      simp only [Option.some.injEq] at hb
      subst hb
      subst e
      exact ⟨Nat.lt_succ_self _, hblt, hmine⟩
    · obtain ⟨h1, h2⟩ := h.gbox g' b' hb
      exact ⟨Nat.lt_succ_of_lt h1, h2⟩
  · intro g1 g2 b' h1 h2
    simp only [G'] at h1 h2
    split at h1 <;> split at h2
    · simp_all
    · simp only [Option.some.injEq] at h1; subst h1; exact absurd h2 (hnb g2)
    · simp only [Option.some.injEq] at h2; subst h2; exact absurd h1 (hnb g1)
    · exact h.inj g1 g2 b' h1 h2
  · intro g' hg'
    obtain ⟨h1, h2⟩ := hlv g' hg'
    obtain ⟨r', hr'⟩ := h.live g' h1
    exact ⟨r', by simp only [G']; rw [if_neg h2]; exact hr'⟩
  · intro g' r' hr'
    simp only [G'] at hr'
    split at hr'
    · cases hr'
    · exact Nat.lt_succ_of_lt (h.gown g' r' hr')
  · intro g' b' len' cap' sz' pub' hr'
    simp only [G'] at hr'
    split at hr'
    · cases hr'
    · rename_i e2
      obtain ⟨h4, h5, h6, h7⟩ := h.row g' b' len' cap' sz' pub' hr'
      have hne : b' ≠ b := fun e => by subst e; exact e2 (huniq g' len' cap' sz' pub' hr')
      refine ⟨h4, fun g2 h2 => ?_, fun g2 bK cap2 sz2 pub2 h2 => ?_, h7⟩
      · simp only [G'] at h2
        split at h2
        · simp only [Option.some.injEq] at h2; exact hne h2.symm
        · exact h5 g2 h2
      · simp only [G'] at h2
        split at h2
        · cases h2
        · exact h6 g2 bK cap2 sz2 pub2 h2
  · intro g' b' hr'
    simp only [G'] at hr'
    split at hr'
    · cases hr'
    · obtain ⟨h4, h4b, h5, me, clock, h6⟩ := h.mrow g' b' hr'
      refine ⟨h4, fun g2 h2 => ?_, fun g2 h2 => ?_, me, clock, h6⟩
      · simp only [G'] at h2
        split at h2
        · simp only [Option.some.injEq] at h2; subst h2; rw [hcur] at h6; cases h6
        · exact h4b g2 h2
      · simp only [G'] at h2
        split at h2
        · cases h2
        · exact h5 g2 h2
  · intro i b' hb
    have h1 := h.lent i b' hb
    simp only [G']
    rw [if_neg (Nat.ne_of_lt (h.gbox i b' h1).1)]
    exact h1
  · exact .sb _ st.gen es.length cap b (Nat.lt_succ_self _) (by simp [aJ, G']) (by rw [hlen]; exact ⟨hlc, hcm⟩) (by rw [hlen])
end
section
variable {P : Program} (T : cr P) {C : Ctx} {n : Nat} {ops : Array Oper} {Q : Exit → St → Prop} {rest : List Oper}
variable {f : List (Nat × A)} {bx : List (Nat × List A)} {lv : List Nat} {gen : Nat} {d : Nat} {op : Op} {ty : TypeId} {pos : String} {af : Array Edge} {a : A} {dst : Option Nat} {c : Code}
theorem wN (s : Nat) {g : Nat} {es : List (List D)} (hl : look f s = some (.xs g es)) (hgl : (lv.any fun h => Nat.beq h g) = true) (hsn : Nat.blt s n = true) (hp : 0 < es.length) {lv' : List Nat} (hlv : dM lv g = lv')
    (h : ∀ cap k, W P C n c Q ⟨(s, .sb gen es.length cap) :: f, (gen, bb es k) :: bx, lv', gen + 1⟩) : W P C n c Q ⟨f, bx, lv, gen⟩ := by
  subst hlv
  intro tmps w ⟨G, hs⟩
  obtain ⟨v, hv, hr⟩ := hs.frame _ _ hl
  obtain ⟨r, hgr⟩ := hs.live g (jA hgl)
  cases hr with
  | xs _ _ _ hgg h1 hrow =>
  have hx := hrow r hgr
  cases r with
  | nil => obtain ⟨_, rfl⟩ := hx; simp at hp
  | zero b => obtain ⟨_, rfl⟩ := hx; simp at hp
  | mp b => exact hx.elim
  | blk b len cap sz pub =>
    obtain rfl : pub = 0 := hx.2.2.1
    obtain ⟨G', hs', hv'⟩ := hs.wS hgr hx (dM lv g) (fun g' hg' => eW hg')
    refine h cap (cap * sz - len * sz) tmps w ⟨G', ?_⟩
    have := hs'.set (d := s) (Nat.le_of_ble_eq_true hsn) hv'
    rwa [gZ hv] at this
theorem xC {x : Operand} {t e : Nat} {td : bZ} {g m cap : Nat} (hx : av f x = some (.sb g m cap)) (ht : aA T.l t = some td) (hk : td.k = .slice e) :
    Pu P C n ⟨f, bx, lv, gen⟩ ⟨dst, .call ⟨.builtin .len, #[x], #[t]⟩, ty, pos, af, none⟩ (.d (.v (.int .i64 m))) := by
  refine dY.pu fun G tmps w hs => ?_
  have hr := hs.av hx
  generalize hv : Act.eval ⟨tmps, []⟩ x = v at hr
  cases hr with
  | sb _ _ _ _ b hgg hb hn h2 =>
  refine ⟨.int .i64 m, ?_, .d (.v _ ?_)⟩
  · unfold execOp
    show Sem.run P (do let d ← resolve (Act.eval ⟨tmps, []⟩) ⟨.builtin .len, #[x], #[t]⟩ ty; invoke d.target d.args) w = _
    simp only [resolve, List.map_toArray, List.map_cons, List.map_nil, hv, h2, Sem.run_bind, Sem.run_pure, Result.andThen_ok, invoke, builtin, Builtin.len_]
    simp [run_underlying (T.ep ht hk), goInt]
    rfl
  · obtain ⟨h3, h4⟩ := hn
    simp only [maxLen] at h4
    simp [db, IntKind.min, IntKind.max, IntKind.signed, IntKind.bits]
    omega
theorem bG {t e : Nat} {x ix : Operand} {td ed : bZ} {g m cap : Nat} {k : IntKind} {i : Int} (hx : av f x = some (.sb g m cap)) (hi : av f ix = some (.d (.v (.int k i)))) (ht : aA T.l t = some td) (hk : td.k = .slice e) (he : aA T.l e = some ed)
    (h0 : 0 ≤ i) (hlt : i.toNat < m) {off : Nat} (ho : i.toNat * ed.n = off) : Pu P C n ⟨f, bx, lv, gen⟩ ⟨dst, .indexAddr t x ix, ty, pos, af, none⟩ (.ptr g off) := by
  subst ho
  refine dY.pu fun G tmps w hs => ?_
  have hu := T.ep ht hk
  have hrx := hs.av hx
  have hri := hs.av hi
  generalize hvi : Act.eval ⟨tmps, []⟩ ix = vi at hri
  cases hri with | d hri => cases hri with | v _ _ =>
  generalize hvx : Act.eval ⟨tmps, []⟩ x = vx at hrx
  cases hrx with
  | sb _ _ _ _ b hgg hb hn h2 =>
  refine ⟨.pointer (some ⟨b, i.toNat * ed.n, none⟩), ?_, .ptr _ g _ b hgg hb rfl⟩
  unfold execOp
  show Sem.run P _ w = .ok _ w
  have hc2 : 0 ≤ i ∧ i < (m : Int) := ⟨h0, by omega⟩
  simp only [hvi, hvx, h2, Instr.indexAt, asIntOf, Sem.run_bind, Sem.run_pure, Result.andThen_ok, run_underlying hu, hc2, and_self, if_true, T.sizeOf he]
  unfold Addr.add
  split
  · rename_i e; rw [e]
  · simp
theorem pM {es : List (List D)} {sz i k : Nat} {e : List D} (hl : ∀ (x : List D), x ∈ es → x.length = sz) (he : es[i]? = some e) : ∃ r, (bb es k).drop (i * sz) = e.map A.d ++ r := by
  have hi : i < es.length := (List.getElem?_eq_some_iff.1 he).1
  have h1 : es = es.take i ++ e :: es.drop (i + 1) := by
    have := List.drop_eq_getElem_cons hi
    rw [(List.getElem?_eq_some_iff.1 he).2] at this
    rw [← this, List.take_append_drop]
  have h2 : (es.take i).flatten.length = i * sz := by
    rw [jd (sz := sz) (fun x hx => hl x (List.mem_of_mem_take hx)), List.length_take, Nat.min_eq_left (Nat.le_of_lt hi)]
  refine ⟨(es.drop (i + 1)).flatten.map A.d ++ List.replicate k .any, ?_⟩
  have e3 : bb es k = (es.take i).flatten.map A.d ++ (e.map A.d ++ ((es.drop (i + 1)).flatten.map A.d ++ List.replicate k .any)) := by
    unfold bb
    conv => lhs; rw [h1]
    simp [List.append_assoc]
  rw [e3, ← h2, ← List.length_map (f := A.d), List.drop_left]
theorem nz {es : List (List D)} {sz k : Nat} (hl : ∀ (x : List D), x ∈ es → x.length = sz) : (bb es k).length = es.length * sz + k := by
  unfold bb
  rw [List.length_append, List.length_map, jd hl, List.length_replicate]
theorem q9 {es : List (List D)} {sz i k : Nat} {e cs : List D} (hl : ∀ (x : List D), x ∈ es → x.length = sz) (he : es[i]? = some e) (hc : cs.length = sz) : setAt (bb es k) (i * sz) (cs.map A.d) = bb (es.set i cs) k := by
  have hi : i < es.length := (List.getElem?_eq_some_iff.1 he).1
  have h1 : es = es.take i ++ e :: es.drop (i + 1) := by
    have := List.drop_eq_getElem_cons hi
    rw [(List.getElem?_eq_some_iff.1 he).2] at this
    rw [← this, List.take_append_drop]
  have h2 : (es.take i).flatten.length = i * sz := by
    rw [jd (sz := sz) (fun x hx => hl x (List.mem_of_mem_take hx)), List.length_take, Nat.min_eq_left (Nat.le_of_lt hi)]
  have h4 : e.length = sz := hl e (List.mem_of_getElem? he)
  have e3 : bb es k = (es.take i).flatten.map A.d ++ (e.map A.d ++ ((es.drop (i + 1)).flatten.map A.d ++ List.replicate k .any)) := by
    unfold bb
    conv => lhs; rw [h1]
    simp [List.append_assoc]
  have e4 : bb (es.set i cs) k = (es.take i).flatten.map A.d ++ (cs.map A.d ++ ((es.drop (i + 1)).flatten.map A.d ++ List.replicate k .any)) := by
    unfold bb
    rw [List.set_eq_take_append_cons_drop, if_pos hi]
    simp [List.append_assoc]
  unfold setAt
  have h5 : ((es.take i).flatten.map A.d).length = i * sz := by rw [List.length_map, h2]
  have h6 : (cs.map A.d).length = (e.map A.d).length := by rw [List.length_map, List.length_map, hc, h4]
  rw [e3, e4, ← h5, List.take_left, h6, ← List.drop_drop, List.drop_left, List.drop_left, List.append_assoc]
theorem er {t : Nat} {x : Operand} {td : bZ} {g i k : Nat} {es : List (List D)} {e : List D} (hx : av f x = some (.ptr g (i * td.n))) (ht : aA T.l t = some td) (hk : td.k.agg = true) (hb : aA bx g = some (bb es k)) (hl : ∀ (x : List D), x ∈ es → x.length = td.n) (he : es[i]? = some e) :
    Pu P C n ⟨f, bx, lv, gen⟩ ⟨dst, .load t x, ty, pos, af, none⟩ (.ag e) := by
  refine dY.pu fun G tmps w hs => ?_
  obtain ⟨b, cs, T', h1, h2, h3, h4, h5⟩ := ir hs hb (hs.av hx)
  have hel := hl e (List.mem_of_getElem? he)
  obtain ⟨r, hr⟩ := pM (k := k) hl he
  have hcell : ∀ j y, e[j]? = some y → (bb es k)[i * td.n + j]? = some (.d y) := fun j y hj => by
    rw [← List.getElem?_drop, hr, List.getElem?_append_left (by rw [List.length_map]; exact (List.getElem?_eq_some_iff.1 hj).1), List.getElem?_map, hj]; rfl
  have hall : ∀ j y, e[j]? = some y → bl w (bF C G) (cs[i * td.n + j]?.getD default) y := fun j y hj => by
    have hc := hcell j y hj
    have hj' : i * td.n + j < cs.size := by rw [h3]; exact (List.getElem?_eq_some_iff.1 hc).1
    have e1 : cs[i * td.n + j]? = some cs[i * td.n + j] := by simp [hj']
    have := h5 _ _ _ e1 hc
    rw [e1]
    generalize cs[i * td.n + j] = u at this ⊢
    cases this with | d hd => exact hd
  obtain ⟨v, h6, h7⟩ := iE (E := aJ C G gen w) T (t := t) (a := .ag e) (b := b) (off := i * td.n) (u := fun j => cs[i * td.n + j]?.getD default) (l := e) (fun j hj => by
      have hc := hcell j e[j] (by simp [hj])
      have hj' : i * td.n + j < cs.size := by rw [h3]; exact (List.getElem?_eq_some_iff.1 hc).1
      have e1 : cs[i * td.n + j]? = some cs[i * td.n + j] := by simp [hj']
      show cellAt w b (i * td.n + j) = _
      rw [bW h2, e1]; rfl) hall (by unfold iG; rw [ht]; simp [hk, ← hel])
  refine ⟨v, ?_, h7⟩
  rw [gN rfl]
  show Sem.run P _ w = .ok _ w
  have h6' : (Instr.loadAt t (.pointer (some ⟨b, i * td.n, none⟩))).run P w = .ok v w := h6
  simp only [h1, Sem.run_bind, h6', Result.andThen_ok, Sem.run_pure]
theorem ij {t : TypeId} {x y : Operand} {td : bZ} {g i k : Nat} {es : List (List D)} {e cs : List D} (hx : av f x = some (.ptr g (i * td.n))) (ht : aA T.l t = some td) (hb : aA bx g = some (bb es k)) (ha : av f y = some (.ag cs)) (hl : ∀ (x : List D), x ∈ es → x.length = td.n) (he : es[i]? = some e)
    (hc : cs.length = td.n) (hz : Nat.blt 0 td.n = true) {es' : List (List D)} (hes : es.set i cs = es')
    (h : WO P C n ops Q rest ⟨f, (g, bb es' k) :: bx, lv, gen⟩) : WO P C n ops Q (⟨none, .store t x y, ty, pos, af, none⟩ :: rest) ⟨f, bx, lv, gen⟩ := by
  have hz := Nat.le_of_ble_eq_true hz
  have hi : i < es.length := (List.getElem?_eq_some_iff.1 he).1
  refine WO.store (st := ⟨f, bx, lv, gen⟩) T rfl rfl rfl hx hb ha (cs := cs.map A.d) rfl (by unfold cA; rw [ht]; simp [hc]) (by rw [List.length_map]; omega) ?_ ?_
  · apply Nat.ble_eq_true_of_le
    rw [List.length_map, hc, nz hl]
    have : (i + 1) * td.n ≤ es.length * td.n := Nat.mul_le_mul_right _ hi
    rw [Nat.succ_mul] at this
    omega
  · rw [q9 hl he hc, hes]
    exact h
end
end Go.Ab
namespace Go.Tb
open Go.Ab
def ba (r : List aO) (i : Nat) : aO := r.getD i c9
def dy (cols : List Col) (s : ByteArray) : Option Nat := cols.findIdx? fun x => decide (x.name = s)
def bN (cols : List Col) (s : ByteArray) : Nat := (dy cols s).getD 0
def wB : ByteArray := B #[98]
def dp (op : Int) (on : List ByteArray) (aa : ByteArray) : dd := ⟨op, ⟨0, B #[], c9, []⟩, [], on, [], [], 0, aa⟩
def fO (op : Int) (on : List ByteArray) (a : bC) : CT := if bm a ≠ 0 then ([], bm a) else dC [] a.cols (dp op on (B #[]))
def dK (op : Int) (on : List ByteArray) (a b : bC) : CT := if bm a ≠ 0 then ([], bm a) else if bm b ≠ 0 then ([], bm b) else dC [⟨wB, b⟩] a.cols (dp op on wB)
def gh : bC := ⟨[], []⟩
def eI : List bC → Int
  | [] => 0
  | t :: r => if bm t ≠ 0 then bm t else eI r
def fP (op : Int) (on : List ByteArray) (l : List bC) : CT := if eI l ≠ 0 then ([], eI l) else
  dC (if 1 < l.length then [⟨wB, l.getD 1 gh⟩] else []) (l.getD 0 gh).cols (dp op on (if 1 < l.length then wB else B #[]))
theorem oL (op : Int) (on : List ByteArray) (a : bC) : fP op on [a] = fO op on a := by
  unfold fP fO
  by_cases h : bm a = 0 <;> simp [eI, h]
theorem oK (op : Int) (on : List ByteArray) (a b : bC) : fP op on [a, b] = dK op on a b := by
  unfold fP dK
  by_cases h : bm a = 0 <;> by_cases h2 : bm b = 0 <;> simp [eI, h, h2]
theorem lW : ∀ {l : List bC}, eI l = 0 → ∀ t ∈ l, bm t = 0
  | [], _, t, ht => by cases ht
  | u :: r, h, t, ht => by
    simp only [eI] at h
    split at h
    · rename_i h1; exact absurd h h1
    · rename_i h1
      rcases List.mem_cons.1 ht with rfl | ht
      · simpa using h1
      · exact lW h t ht
theorem dq {t : bC} (h : bm t = 0) : t.cols.length ≤ 32 ∧ t.rows.length ≤ 20000 := by
  unfold bm at h
  split at h
  · cases h
  · omega
def cE (not : List ByteArray) : List Col → Nat → List Nat
  | [], _ => []
  | c :: r, i => if not.any (fun x => decide (c.name = x)) then cE not r (i + 1) else i :: cE not r (i + 1)
def bp (r : List aO) (at_ : List Nat) : List aO := at_.map (ba r)
def eu (a b : List aO) : Bool := decide (a = b) && !(a.any fun x => decide (c9 = x))
structure pV where
  left : List Nat
  right : List Nat
  m0 : Nat
  m1 : Nat
  t0 : Nat
  t1 : Nat
  more : List Nat
def eg (r : List aO) (i j : Nat) : Bool := decide ((ba r i).kind = 2) && (decide ((ba r j).kind = 2) && decide ((ba r i).n < (ba r j).n))
def qa (o : pV) (x y : List aO) : Int := if (ba x o.m0).n < (ba y o.t0).n then (ba y o.t0).n else (ba x o.m0).n
def rU (o : pV) (x y : List aO) : Int := if (ba y o.t1).n < (ba x o.m1).n then (ba y o.t1).n else (ba x o.m1).n
def ln (o : pV) (x y : List aO) : Bool := eg y o.t0 o.t1 && (decide (qa o x y < rU o x y) && eu (bp x o.left) (bp y o.right))
def mn (r : List aO) (i : Nat) (n : Int) : List aO := r.set i ⟨(ba r i).kind, n, (ba r i).s⟩
def uR (o : pV) (x y : List aO) : List aO := mn (mn (x ++ bp y o.more) o.m0 (qa o x y)) o.m1 (rU o x y)
def ny (o : pV) (x : List aO) : List (List aO) → List (List aO) → Option (List (List aO))
  | [], out => some out
  | y :: r, out => if ln o x y = true then (if out.length = 20000 then none else ny o x r (out ++ [uR o x y])) else ny o x r out
def kG (o : pV) (bs : List (List aO)) : List (List aO) → List (List aO) → Option (List (List aO))
  | [], out => some out
  | x :: r, out => if eg x o.m0 o.m1 = true then (match ny o x bs out with | none => none | some o2 => kG o bs r o2) else kG o bs r out
def w7 (a b : bC) (on : List ByteArray) : pV :=
  ⟨on.map (bN a.cols), on.map (bN b.cols), bN a.cols aQ, bN a.cols bP, bN b.cols aQ, bN b.cols bP, cE (on ++ [aQ, bP]) b.cols 0⟩
def fa (a b : bC) (on : List ByteArray) : bC × Int :=
  if (dK 7 on a b).2 ≠ 0 then (gh, (dK 7 on a b).2) else
    match kG (w7 a b on) b.rows a.rows [] with
    | none => (gh, 7)
    | some rows => (⟨(dK 7 on a b).1, rows⟩, 0)
structure sU (a b : bC) (on : List ByteArray) (spans : List ByteArray) : Prop where
  ga : bm a = 0
  gb : bm b = 0
  ons : ∀ s ∈ on, ∃ i j c d, dy a.cols s = some i ∧ dy b.cols s = some j ∧ a.cols[i]? = some c ∧ b.cols[j]? = some d ∧ c.type = d.type
  spa : ∀ s ∈ spans, ∃ i c, dy a.cols s = some i ∧ a.cols[i]? = some c ∧ c.type = 2
  spb : ∀ s ∈ spans, ∃ i c, dy b.cols s = some i ∧ b.cols[i]? = some c ∧ c.type = 2
  len : on.length ≤ 16
end Go.Tb
namespace Go.Ab
section
variable {P : Program} {C : Ctx} {n : Nat} {ops : Array Oper} {c : Nat}
variable {op : Op} {ty : TypeId} {pos : String} {af : Array Edge} {a : A} {d i : Nat} {rest l : List Oper} {f : List (Nat × A)} {Q : St → Prop} {ph : Bool} {dst : Option Nat}
variable {bx0 bx1 : List (Nat × List A)} {lv0 lv1 : List Nat} {gen0 gen1 : Nat}
theorem xf {o : Oper} (hdst : o.dst = some d) (h0 : YA P C n bx0 lv0 gen0 ops o a (look f)) (h1 : YA P C n bx1 lv1 gen1 ops o a (look f)) (hi : ops[i]? = some o) (hc : Nat.beq i c = false) (b0 : bE .any ops i c = false) (b1 : bE .any ops c i = false)
    (h : CC P C n ⟨bx0, bx1, lv0, lv1, gen0, gen1⟩ ops c Q rest (i + 1) ((d, a) :: f) ph) : CC P C n ⟨bx0, bx1, lv0, lv1, gen0, gen1⟩ ops c Q (o :: rest) i f ph := by
  have hic : i ≠ c := fun e => by subst e; simp at hc
  refine ⟨a, ⟨_, hi, h0.1, .inr ⟨hic, fun _ => h0, fun _ => h1, fun _ => b0, fun _ => b1⟩⟩, ?_⟩
  rw [fQ hi, hdst]
  simp only [if_neg hic]
  unfold CC at h
  rw [dR] at h
  exact h
theorem mE {j e : Nat} {want : Bool} (hj : c8 ops j = some e) (hl : look f e = some (.d (.v (.bool want)))) (h1 : Pu P C n ⟨bT f (slotsOf op), bx1, lv1, gen1⟩ ⟨some d, op, ty, pos, af, none⟩ a) (h0 : Pu P C n ⟨bT f (slotsOf op), bx0, lv0, gen0⟩ ⟨some d, op, ty, pos, af, none⟩ a)
    (hi : ops[i]? = some ⟨some d, op, ty, pos, af, some (j, want)⟩) (hc : Nat.beq i c = false) (b0 : bE .any ops i c = false) (b1 : bE .any ops c i = false) (hd : Nat.blt d n = true)
    (h : CC P C n ⟨bx0, bx1, lv0, lv1, gen0, gen1⟩ ops c Q rest (i + 1) ((d, a) :: f) ph) : CC P C n ⟨bx0, bx1, lv0, lv1, gen0, gen1⟩ ops c Q (⟨some d, op, ty, pos, af, some (j, want)⟩ :: rest) i f ph := by
  have hf : ∀ t x, look (bT f (slotsOf op)) t = some x → look f t = some x ∧ t ∈ (⟨some d, op, ty, pos, af, some (j, want)⟩ : Oper).looksAt ops := fun t x hx => by
    obtain ⟨h1, h2⟩ := dB hx
    exact ⟨h1, List.mem_append.2 (.inl h2)⟩
  have hw : gD ops ⟨some d, op, ty, pos, af, some (j, want)⟩ (look f) true := ⟨e, _, hj, hl, .inl ⟨want, rfl, by simp⟩⟩
  exact xf rfl ⟨hd, .inl ⟨hw, _, hf, h0⟩⟩ ⟨hd, .inl ⟨hw, _, hf, h1⟩⟩ hi hc b0 b1 h
theorem fz {j e : Nat} {want b : Bool} (hj : c8 ops j = some e) (hl : look f e = some (.d (.v (.bool b)))) (hb : (b == want) = false)
    (hi : ops[i]? = some ⟨some d, op, ty, pos, af, some (j, want)⟩) (hc : Nat.beq i c = false) (b0 : bE .any ops i c = false) (b1 : bE .any ops c i = false) (hd : Nat.blt d n = true)
    (h : CC P C n ⟨bx0, bx1, lv0, lv1, gen0, gen1⟩ ops c Q rest (i + 1) ((d, .tup []) :: f) ph) : CC P C n ⟨bx0, bx1, lv0, lv1, gen0, gen1⟩ ops c Q (⟨some d, op, ty, pos, af, some (j, want)⟩ :: rest) i f ph := by
  have hw : gD ops ⟨some d, op, ty, pos, af, some (j, want)⟩ (look f) false := ⟨e, _, hj, hl, .inl ⟨b, rfl, hb.symm⟩⟩
  exact xf rfl ⟨hd, .inr ⟨hw, rfl⟩⟩ ⟨hd, .inr ⟨hw, rfl⟩⟩ hi hc b0 b1 h
theorem qP {dst : Option Nat} {j e : Nat} {want b : Bool} (hj : c8 ops j = some e) (hl : look f e = some (.d (.v (.bool b))))
    (ht : b = true → CC P C n ⟨bx0, bx1, lv0, lv1, gen0, gen1⟩ ops c Q (⟨dst, op, ty, pos, af, some (j, want)⟩ :: rest) i ((e, .d (.v (.bool true))) :: f) ph)
    (hf : b = false → CC P C n ⟨bx0, bx1, lv0, lv1, gen0, gen1⟩ ops c Q (⟨dst, op, ty, pos, af, some (j, want)⟩ :: rest) i ((e, .d (.v (.bool false))) :: f) ph) : CC P C n ⟨bx0, bx1, lv0, lv1, gen0, gen1⟩ ops c Q (⟨dst, op, ty, pos, af, some (j, want)⟩ :: rest) i f ph := by
  have key : ∀ c, b = c → look ((e, A.d (.v (.bool c))) :: f) = look f := by
    intro c hc
    subst hc
    funext t
    rw [bo]
    split
    · rename_i h; subst h; exact hl.symm
    · rfl
  cases b
  · have := hf rfl; unfold CC at *; rw [key false rfl] at this; exact this
  · have := ht rfl; unfold CC at *; rw [key true rfl] at this; exact this
end
end Go.Ab
namespace Go.Tb
open Go.Ab
theorem kP {cols : List Col} {s : ByteArray} {c : Col} (h : a8 cols s = some c) : ∃ i, dy cols s = some i ∧ cols[i]? = some c ∧ c.name = s := by
  unfold a8 at h
  rw [List.find?_eq_some_iff_getElem] at h
  obtain ⟨hp, i, hi, hc, hmin⟩ := h
  refine ⟨i, ?_, by rw [← hc]; simp, of_decide_eq_true hp⟩
  unfold dy
  rw [List.findIdx?_eq_some_iff_getElem]
  exact ⟨hi, by rw [hc]; exact hp, fun j hj => by have := hmin j hj; simpa using this⟩
theorem kR {cols : List Col} {s : ByteArray} (h : cO cols s = 0) : ∃ i c, dy cols s = some i ∧ cols[i]? = some c ∧ c.type = 2 := by
  unfold cO at h
  cases hf : a8 cols s with
  | none => rw [hf] at h; exact absurd h (by decide)
  | some c =>
    rw [hf] at h
    obtain ⟨i, h1, h2, _⟩ := kP hf
    refine ⟨i, c, h1, h2, ?_⟩
    by_cases q : c.type = 2
    · exact q
    · simp [q] at h
theorem j6 {cols : List Col} : ∀ {l : List ByteArray}, cR cols l = 0 → ∀ s ∈ l, ∃ i c, dy cols s = some i ∧ cols[i]? = some c ∧ c.type = 2
  | [], _, s, hs => by cases hs
  | x :: r, h, s, hs => by
    simp only [cR] at h
    split at h
    · rename_i h1; exact absurd h h1
    · rename_i h1
      rcases List.mem_cons.1 hs with rfl | hs
      · exact kR (by simpa using h1)
      · exact j6 h s hs
theorem oO {a b : List Col} : ∀ {l : List ByteArray}, ee a b l = 0 → ∀ s ∈ l, ∃ i j c d, dy a s = some i ∧ dy b s = some j ∧ a[i]? = some c ∧ b[j]? = some d ∧ c.type = d.type
  | [], _, s, hs => by cases hs
  | x :: r, h, s, hs => by
    simp only [ee] at h
    cases h1 : a8 a x with
    | none => rw [h1] at h; cases h
    | some c =>
      cases h2 : a8 b x with
      | none => rw [h1, h2] at h; cases h
      | some d =>
        rw [h1, h2] at h
        dsimp only at h
        split at h
        · cases h
        · rename_i h3
          rcases List.mem_cons.1 hs with rfl | hs
          · obtain ⟨i, p1, p2, _⟩ := kP h1
            obtain ⟨j, q1, q2, _⟩ := kP h2
            exact ⟨i, j, c, d, p1, q1, p2, q2, by simpa using h3⟩
          · exact oO h s hs
theorem oG {cols : List Col} : ∀ {l : List ByteArray} {out : List Col}, (bz cols out l).2 = 0 → ∀ s ∈ l, ∃ i c, dy cols s = some i ∧ cols[i]? = some c
  | [], _, _, s, hs => by cases hs
  | x :: r, out, h, s, hs => by
    simp only [bz] at h
    cases h1 : a8 cols x with
    | none => rw [h1] at h; cases h
    | some c =>
      rw [h1] at h
      rcases List.mem_cons.1 hs with rfl | hs
      · obtain ⟨i, p1, p2, _⟩ := kP h1
        exact ⟨i, c, p1, p2⟩
      · exact oG h s hs
theorem lg {l : List ByteArray} {m : Int} (h : cV l m = 0) : l.length ≤ 16 := by
  unfold cV at h
  split at h
  · rename_i h1; exact absurd h h1
  · rename_i h1
    unfold cU at h1
    split at h1
    · simp at h1
    · split at h1
      · simp at h1
      · omega
theorem tZ {op : Int} (hop : op = 7 ∨ op = 8) {on : List ByteArray} {a b : bC} (h : (dK op on a b).2 = 0) : sU a b on (aM op) := by
  unfold dK at h
  split at h
  · rename_i h1; exact absurd h h1
  · rename_i h1
    split at h
    · rename_i h2; exact absurd h h2
    · rename_i h2
      have hn : op ≠ 1 ∧ op ≠ 2 ∧ op ≠ 3 ∧ op ≠ 4 ∧ op ≠ 9 ∧ op ≠ 5 ∧ op ≠ 6 := by omega
      unfold dC at h
      split at h
      · rename_i h3; exact absurd h h3
      · rename_i h3
        have h3 : bY (dp op on wB) = 0 := by simpa using h3
        have e : (dp op on wB).op = op := rfl
        rw [e, if_neg hn.1, if_neg hn.2.1, if_neg hn.2.2.1, if_neg hn.2.2.2.1, if_neg hn.2.2.2.2.1, if_pos (by omega)] at h
        have hf : cM [⟨wB, b⟩] (dp op on wB).table = some b := by
          show cM [⟨wB, b⟩] wB = some b
          simp [cM]
        unfold fU at h
        rw [hf] at h
        dsimp only at h
        unfold jN at h
        rw [e, show (dp op on wB).cols = on from rfl] at h
        split at h
        · cases h
        · split at h
          · rename_i h4; exact absurd h h4
          · rename_i h4
            split at h
            · rename_i h5; exact absurd h h5
            · rename_i h5
              split at h
              · rename_i h6; exact absurd h h6
              · rename_i h6
                refine ⟨by simpa using h1, by simpa using h2, oO (by simpa using h4), j6 (by simpa using h5), j6 (by simpa using h6), ?_⟩
                unfold bY at h3
                split at h3
                · cases h3
                · rw [e, if_neg hn.1, if_neg hn.2.1, if_neg hn.2.2.1, if_neg hn.2.2.2.1, if_neg hn.2.2.2.2.2.1, if_neg hn.2.2.2.2.1] at h3
                  split at h3
                  · cases h3
                  · exact lg h3
structure vO (a : bC) (on : List ByteArray) : Prop where
  ga : bm a = 0
  ons : ∀ s ∈ on, ∃ i c, dy a.cols s = some i ∧ a.cols[i]? = some c
  fr : ∃ i c, dy a.cols aQ = some i ∧ a.cols[i]? = some c ∧ c.type = 2
  to : ∃ i c, dy a.cols bP = some i ∧ a.cols[i]? = some c ∧ c.type = 2
  len : on.length ≤ 16
theorem vF {on : List ByteArray} {a : bC} (h : (fO 9 on a).2 = 0) : vO a on := by
  unfold fO at h
  split at h
  · rename_i h1; exact absurd h h1
  · rename_i h1
    unfold dC at h
    split at h
    · rename_i h3; exact absurd h h3
    · rename_i h3
      have h3 : bY (dp 9 on (B #[])) = 0 := by simpa using h3
      have e : (dp 9 on (B #[])).op = 9 := rfl
      rw [e, if_neg (by decide), if_neg (by decide), if_neg (by decide), if_neg (by decide), if_pos rfl] at h
      unfold fG at h
      rw [show (dp 9 on (B #[])).cols = on from rfl] at h
      split at h
      · cases h
      · split at h
        · rename_i h4; exact absurd h h4
        · rename_i h4
          split at h
          · rename_i h5; exact absurd h h5
          · rename_i h5
            split at h
            · rename_i h6; exact absurd h h6
            · rename_i h6
              refine ⟨by simpa using h1, oG (by simpa using h4), kR (by simpa using h5), kR (by simpa using h6), ?_⟩
              unfold bY at h3
              split at h3
              · cases h3
              · rw [e, if_neg (by decide), if_neg (by decide), if_neg (by decide), if_neg (by decide), if_neg (by decide)] at h3
                try rw [if_pos rfl] at h3
                exact lg h3
theorem oH : ∀ {cols : List Col} {r : List aO}, dQ cols r = 0 → ∀ (i : Nat) (c : Col) (v : aO), cols[i]? = some c → r[i]? = some v → bU c.type v = 0
  | [], _, _, i, c, v, h, _ => by simp at h
  | _ :: _, [], _, i, c, v, _, h => by simp at h
  | d :: cols, w :: r, h, i, c, v, h1, h2 => by
    simp only [dQ] at h
    split at h
    · rename_i h3; exact absurd h h3
    · rename_i h3
      cases i with
      | zero => simp at h1 h2; subst h1; subst h2; simpa using h3
      | succ i => exact oH h i c v (by simpa using h1) (by simpa using h2)
theorem pI {cols : List Col} : ∀ {l : List (List aO)}, ek cols l = 0 → ∀ r ∈ l, r.length = cols.length ∧ ∀ (i : Nat) (c : Col) (v : aO), cols[i]? = some c → r[i]? = some v → bU c.type v = 0
  | [], _, r, hr => by cases hr
  | x :: l, h, r, hr => by
    simp only [ek] at h
    split at h
    · cases h
    · rename_i h1
      split at h
      · rename_i h2; exact absurd h h2
      · rename_i h2
        rcases List.mem_cons.1 hr with rfl | hr
        · exact ⟨by simpa using h1, oH (by simpa using h2)⟩
        · exact pI h r hr
theorem eM {t : bC} (h : bm t = 0) : ∀ r ∈ t.rows, r.length = t.cols.length ∧ ∀ (i : Nat) (c : Col) (v : aO), t.cols[i]? = some c → r[i]? = some v → bU c.type v = 0 := by
  unfold bm at h
  split at h
  · cases h
  · split at h
    · rename_i h2; exact absurd h h2
    · exact pI h
theorem eT {r : List aO} {i : Nat} (h : i < r.length) : r[i]? = some (ba r i) := by
  unfold ba
  rw [List.getD_eq_getElem?_getD, List.getElem?_eq_getElem h]; rfl
theorem uF {t : bC} (h : bm t = 0) {r : List aO} (hr : r ∈ t.rows) {i : Nat} {c : Col} (hc : t.cols[i]? = some c) : i < r.length ∧ bU c.type (ba r i) = 0 := by
  obtain ⟨h1, h2⟩ := eM h r hr
  have hi : i < r.length := by rw [h1]; exact (List.getElem?_eq_some_iff.1 hc).1
  exact ⟨hi, h2 i c _ hc (eT hi)⟩
theorem kD {k : Int} {v : aO} (h : bU k v = 0) : v = c9 ∨ (v.kind = k ∧ 1 ≤ k ∧ k ≤ 3 ∧ (k ≠ 3 → v.s = B #[]) ∧ (k = 3 → v.n = 0) ∧ (k = 2 → rj v.n = true)) := by
  obtain ⟨a, n, s⟩ := v
  unfold bU at h
  dsimp only at h
  split at h
  · cases h
  · rename_i h1
    split at h
    · cases h
    · rename_i h2
      split at h
      · cases h
      · split at h
        · cases h
        · rename_i h4
          by_cases q : a = 0
          · left
            subst q
            have e1 : s = B #[] := Classical.byContradiction fun e => h4 (.inl ⟨by decide, e⟩)
            have e2 : n = 0 := Classical.byContradiction fun e => h4 (.inr ⟨.inl rfl, e⟩)
            rw [e1, e2]
            rfl
          · right
            have e3 : ¬ (a ≠ k ∨ k < 1 ∨ 3 < k) := fun e => h1 ⟨q, e⟩
            have e4 : a = k := by omega
            subst e4
            refine ⟨rfl, by omega, by omega, fun e => ?_, fun e => ?_, fun e => ?_⟩
            · exact Classical.byContradiction fun e2 => h4 (.inl ⟨e, e2⟩)
            · exact Classical.byContradiction fun e2 => h4 (.inr ⟨.inr e, e2⟩)
            · cases q2 : rj n with
              | true => rfl
              | false => exact absurd (.inr ⟨e, q2⟩) h2
theorem mx {a b : Int} : eA a b = 0 ↔ a = b := by unfold eA; split <;> (try split) <;> omega
theorem uJ {a b : ByteArray} (h : gm a b = 0) : a = b := by
  unfold gm at h
  split at h
  · cases h
  · split at h
    · assumption
    · cases h
theorem wq {k : Int} {v w : aO} (hv : bU k v = 0) (hw : bU k w = 0) (h : dJ v w = 0) : v = w := by
  obtain ⟨a, n, s⟩ := v
  obtain ⟨a', n', s'⟩ := w
  unfold dJ at h
  dsimp only at h
  split at h
  · rename_i h1; exact absurd (mx.1 h) h1
  · rename_i h1
    have h1 : a = a' := by simpa using h1
    subst h1
    have c1 := kD hv
    have c2 := kD hw
    simp only [aO.mk.injEq, c9] at c1 c2 ⊢
    split at h
    · rename_i h2
      have := uJ h
      rcases c1 with c1 | ⟨c1, _, _, c3, c4, _⟩
      · omega
      · rcases c2 with c2 | ⟨c2, _, _, c5, c6, _⟩
        · omega
        · exact ⟨trivial, by rw [c4 (by omega), c6 (by omega)], this⟩
    · rename_i h2
      split at h
      · have hn := mx.1 h
        rcases c1 with c1 | ⟨c1, _, _, c3, c4, _⟩
        · omega
        · rcases c2 with c2 | ⟨c2, _, _, c5, c6, _⟩
          · omega
          · exact ⟨trivial, hn, by rw [c3 (by omega), c5 (by omega)]⟩
      · rename_i h3
        rcases c1 with c1 | ⟨c1, _, _, c3, c4, _⟩
        · rcases c2 with c2 | ⟨c2, _, _, c5, c6, _⟩
          · exact ⟨trivial, by omega, by rw [c1.2.2, c2.2.2]⟩
          · omega
        · omega
theorem tI (v : aO) : v.kind = 3 ∨ dJ v v = 0 := by
  unfold dJ
  simp only [ne_eq, not_true_eq_false, if_false]
  by_cases q : v.kind = 3
  · exact .inl q
  · right
    rw [if_neg q]
    split
    · exact mx.2 rfl
    · rfl
theorem vd {k : Int} {v : aO} (h : bU k v = 0) : v.kind = 0 ↔ v = c9 := by
  constructor
  · intro q
    rcases kD h with h1 | ⟨h1, h2, _⟩
    · exact h1
    · omega
  · rintro rfl; rfl
end Go.Tb
namespace Go.Tb
open Go.Ab
@[reducible] def nc (i : Nat) : List D := ic (i : Int)
theorem lK (not : List ByteArray) : ∀ (cols : List Col) (i : Nat), ∀ k ∈ cE not cols i, i ≤ k ∧ k < i + cols.length
  | [], _, k, h => by simp [cE] at h
  | c :: r, i, k, h => by
    simp only [cE] at h
    split at h
    · have := lK not r (i + 1) k h
      simp; omega
    · rcases List.mem_cons.1 h with rfl | h
      · simp
      · have := lK not r (i + 1) k h
        simp; omega
theorem cf {cols : List Col} {s : ByteArray} {i : Nat} (h : dy cols s = some i) : bN cols s = i := by unfold bN; rw [h]; rfl
structure xZ (o : pV) (n m : Nat) : Prop where
  left : ∀ i ∈ o.left, i < n
  right : ∀ i ∈ o.right, i < m
  m0 : o.m0 < n
  m1 : o.m1 < n
  t0 : o.t0 < m
  t1 : o.t1 < m
  more : ∀ i ∈ o.more, i < m
theorem xO {a b : bC} {on : List ByteArray} (h : sU a b on (aM 7)) : xZ (w7 a b on) a.cols.length b.cols.length := by
  have e : aM 7 = [aQ, bP] := rfl
  rw [e] at h
  refine ⟨fun i hi => ?_, fun i hi => ?_, ?_, ?_, ?_, ?_, fun i hi => ?_⟩
  · obtain ⟨s, hs, rfl⟩ := List.mem_map.1 hi
    obtain ⟨i, j, c, d, h1, h2, h3, h4, _⟩ := h.ons s hs
    rw [cf h1]; exact (List.getElem?_eq_some_iff.1 h3).1
  · obtain ⟨s, hs, rfl⟩ := List.mem_map.1 hi
    obtain ⟨i, j, c, d, h1, h2, h3, h4, _⟩ := h.ons s hs
    rw [cf h2]; exact (List.getElem?_eq_some_iff.1 h4).1
  · obtain ⟨i, c, h1, h2, _⟩ := h.spa aQ (by simp)
    show bN a.cols aQ < _
    rw [cf h1]; exact (List.getElem?_eq_some_iff.1 h2).1
  · obtain ⟨i, c, h1, h2, _⟩ := h.spa bP (by simp)
    show bN a.cols bP < _
    rw [cf h1]; exact (List.getElem?_eq_some_iff.1 h2).1
  · obtain ⟨i, c, h1, h2, _⟩ := h.spb aQ (by simp)
    show bN b.cols aQ < _
    rw [cf h1]; exact (List.getElem?_eq_some_iff.1 h2).1
  · obtain ⟨i, c, h1, h2, _⟩ := h.spb bP (by simp)
    show bN b.cols bP < _
    rw [cf h1]; exact (List.getElem?_eq_some_iff.1 h2).1
  · have := lK _ b.cols 0 i hi
    omega
theorem fY {cols : List Col} {l : List ByteArray} (h : ∀ s ∈ l, ∃ i, dy cols s = some i) : (l.map fun s => ic (idx (dy cols s))) = (l.map (bN cols)).map nc := by
  rw [List.map_map]
  apply List.map_congr_left
  intro s hs
  obtain ⟨i, hi⟩ := h s hs
  show ic (idx (dy cols s)) = ic ((bN cols s : Nat) : Int)
  rw [cf hi, hi]
  rfl
theorem oD {r : List aO} {i : Nat} {n : Int} : (r.map aO.c).set i (hF (ba r i).c 1 [ci n]) = (mn r i n).map aO.c := by
  unfold mn
  rw [List.map_set]
  rfl
theorem lO (r : List aO) (i : Nat) (n : Int) : (mn r i n).length = r.length := by unfold mn; simp
end Go.Tb
namespace Go.Tb
section
variable {α : Type} [Inhabited α]
def el (l : List α) (k : Nat) : α := l.getD k default
theorem ld {l : List α} {i k : Nat} {x : α} (hi : i < l.length) : el (l.set i x) k = if k = i then x else el l k := by
  unfold el
  rw [List.getD_eq_getElem?_getD, List.getElem?_set, List.getD_eq_getElem?_getD]
  by_cases h : i = k
  · subst h; simp [hi]
  · rw [if_neg h, if_neg (fun e => h e.symm)]
theorem oX {l : List α} {k : Nat} (h : k < l.length) : l[k]? = some (el l k) := by
  unfold el
  rw [List.getD_eq_getElem?_getD, List.getElem?_eq_getElem h]; rfl
def eX (l : List α) (i j : Nat) : List α := (l.set i (el l j)).set j (el l i)
theorem eC (l : List α) (i j : Nat) : (eX l i j).length = l.length := by unfold eX; simp
theorem vg {l : List α} {i j k : Nat} (hi : i < l.length) (hj : j < l.length) : el (eX l i j) k = if k = j then el l i else if k = i then el l j else el l k := by
  unfold eX
  rw [ld (by simpa using hj), ld hi]
theorem sy {l : List α} {i j : Nat} (hi : i < l.length) (hj : j < l.length) : (eX l i j).Perm l := by
  unfold eX
  have h1 := oX hi
  have h2 := oX hj
  rw [List.getElem?_eq_getElem hi] at h1
  rw [List.getElem?_eq_getElem hj] at h2
  rw [← Option.some.inj h1, ← Option.some.inj h2]
  exact List.set_set_perm hi hj
variable (lt : α → α → Bool)
def kj (l : List α) (a b : Nat) : Prop := ∀ i j, a ≤ i → i < j → j < b → lt (el l j) (el l i) = false
structure xS : Prop where
  asymm : ∀ x y, lt x y = true → lt y x = false
  trans : ∀ x y z, lt y x = false → lt z y = false → lt z x = false
structure cd (l l' : List α) (a b : Nat) : Prop where
  len : l'.length = l.length
  perm : l'.Perm l
  out : ∀ k, k < a ∨ b ≤ k → el l' k = el l k
theorem cd.refl (l : List α) (a b : Nat) : cd l l a b := ⟨rfl, .refl _, fun _ _ => rfl⟩
theorem cd.trans {l l' l2 : List α} {a b : Nat} (h : cd l l' a b) (h2 : cd l' l2 a b) : cd l l2 a b :=
  ⟨h2.len.trans h.len, h2.perm.trans h.perm, fun k hk => (h2.out k hk).trans (h.out k hk)⟩
theorem cd.mono {l l' : List α} {a b a' b' : Nat} (h : cd l l' a b) (ha : a' ≤ a) (hb : b ≤ b') : cd l l' a' b' :=
  ⟨h.len, h.perm, fun k hk => h.out k (by omega)⟩
theorem cd.swap {l : List α} {i j a b : Nat} (hi : i < l.length) (hj : j < l.length) (h1 : a ≤ i) (h2 : i < b) (h3 : a ≤ j) (h4 : j < b) : cd l (eX l i j) a b :=
  ⟨eC l i j, sy hi hj, fun k hk => by rw [vg hi hj, if_neg (by omega), if_neg (by omega)]⟩
theorem kj.out {l l' : List α} {a b c d : Nat} (h : kj lt l a b) (ht : cd l l' c d) (hd : b ≤ c ∨ d ≤ a) : kj lt l' a b := fun i j h1 h2 h3 => by
  rw [ht.out i (by omega), ht.out j (by omega)]
  exact h i j h1 h2 h3
def jo (l : List α) (a : Nat) : Nat → List α
  | 0 => l
  | j + 1 => if a < j + 1 then (if lt (el l (j + 1)) (el l j) = true then jo (eX l (j + 1) j) a j else l) else l
def jQ (l : List α) (a : Nat) : Nat → Nat → List α
  | 0, _ => l
  | c + 1, i => jQ (jo lt l a i) a c (i + 1)
def fX (l : List α) (a b : Nat) : List α := jQ lt l a (b - (a + 1)) (a + 1)
theorem m9 (a : Nat) : ∀ (j : Nat) (l : List α), j < l.length → cd l (jo lt l a j) a (j + 1)
  | 0, l, _ => .refl _ _ _
  | j + 1, l, h => by
    unfold jo
    split
    · split
      · exact (cd.swap h (by omega) (by omega) (by omega) (by omega) (by omega)).trans ((m9 a j (eX l (j + 1) j) (by rw [eC]; omega)).mono (Nat.le_refl _) (by omega))
      · exact .refl _ _ _
    · exact .refl _ _ _
theorem lQ (a : Nat) : ∀ (c i : Nat) (l : List α), i + c ≤ l.length → cd l (jQ lt l a c i) a (i + c)
  | 0, i, l, _ => .refl _ _ _
  | c + 1, i, l, h => by
    have h1 := m9 lt a i l (by omega)
    have h2 := lQ a c (i + 1) (jo lt l a i) (by rw [h1.len]; omega)
    rw [show i + 1 + c = i + (c + 1) by omega] at h2
    exact (h1.mono (Nat.le_refl _) (by omega)).trans h2
theorem gS {l : List α} {a b : Nat} (h : b ≤ l.length) : cd l (fX lt l a b) a b := by
  unfold fX
  rcases Nat.lt_or_ge a b with hab | hab
  · have := lQ lt a (b - (a + 1)) (a + 1) l (by omega)
    rw [show a + 1 + (b - (a + 1)) = b by omega] at this
    exact this
  · rw [show b - (a + 1) = 0 by omega]
    exact .refl _ _ _
end
end Go.Tb
namespace Go.Tb
section
variable {α : Type} [Inhabited α]
def eh (l : List α) (a b : Nat) : Nat → Nat → List α
  | 0, _ => l
  | c + 1, i => eh (eX l (a + i) (b + i)) a b c (i + 1)
theorem fT {a b lo hi : Nat} : ∀ (c i : Nat) (l : List α), a + i + c ≤ l.length → b + i + c ≤ l.length → lo ≤ a → lo ≤ b → a + i + c ≤ hi → b + i + c ≤ hi → cd l (eh l a b c i) lo hi
  | 0, i, l, _, _, _, _, _, _ => .refl _ _ _
  | c + 1, i, l, h1, h2, h3, h4, h5, h6 => by
    unfold eh
    exact (cd.swap (by omega) (by omega) (by omega) (by omega) (by omega) (by omega)).trans (fT c (i + 1) _ (by rw [eC]; omega) (by rw [eC]; omega) h3 h4 (by omega) (by omega))
def iT : Nat → List α → Nat → Nat → Nat → List α
  | 0, l, _, _, _ => l
  | f + 1, l, m, i, j => if i = j then eh l (m - i) m i 0 else if j < i then iT f (eh l (m - i) m j 0) m (i - j) j else iT f (eh l (m - i) (m + j - i) i 0) m i (j - i)
theorem jG {lo hi : Nat} : ∀ (f : Nat) (l : List α) (m i j : Nat), i ≤ m → m + j ≤ l.length → lo ≤ m - i → m + j ≤ hi → cd l (iT f l m i j) lo hi
  | 0, l, m, i, j, _, _, _, _ => .refl _ _ _
  | f + 1, l, m, i, j, h1, h2, h3, h4 => by
    unfold iT
    split
    · exact fT i 0 l (by omega) (by omega) (by omega) (by omega) (by omega) (by omega)
    · split
      · have h5 : cd l (eh l (m - i) m j 0) lo hi := fT j 0 l (by omega) (by omega) (by omega) (by omega) (by omega) (by omega)
        exact h5.trans (jG f _ m (i - j) j (by omega) (by rw [h5.len]; omega) (by omega) h4)
      · have h5 : cd l (eh l (m - i) (m + j - i) i 0) lo hi := fT i 0 l (by omega) (by omega) (by omega) (by omega) (by omega) (by omega)
        exact h5.trans (jG f _ m i (j - i) (by omega) (by rw [h5.len]; omega) (by omega) (by omega))
def pG (l : List α) : Nat → Nat → List α
  | 0, _ => l
  | c + 1, k => pG (eX l k (k + 1)) c (k + 1)
def pS (l : List α) : Nat → Nat → List α
  | 0, _ => l
  | c + 1, k => pS (eX l k (k - 1)) c (k - 1)
theorem pY {lo hi : Nat} : ∀ (c k : Nat) (l : List α), k + c < l.length → lo ≤ k → k + c < hi → cd l (pG l c k) lo hi
  | 0, _, _, _, _, _ => .refl _ _ _
  | c + 1, k, l, h1, h2, h3 => by
    unfold pG
    exact (cd.swap (by omega) (by omega) (by omega) (by omega) (by omega) (by omega)).trans (pY c (k + 1) _ (by rw [eC]; omega) (by omega) (by omega))
theorem qi {lo hi : Nat} : ∀ (c k : Nat) (l : List α), k < l.length → lo + c ≤ k → k < hi → cd l (pS l c k) lo hi
  | 0, _, _, _, _, _ => .refl _ _ _
  | c + 1, k, l, h1, h2, h3 => by
    unfold pS
    exact (cd.swap (by omega) (by omega) (by omega) (by omega) (by omega) (by omega)).trans (qi c (k - 1) _ (by rw [eC]; omega) (by omega) (by omega))
def fb (p : Nat → Bool) : Nat → Nat → Nat → Nat
  | 0, i, _ => i
  | f + 1, i, j => if i < j then (if p ((i + j) / 2) = true then fb p f ((i + j) / 2 + 1) j else fb p f i ((i + j) / 2)) else i
theorem lf (p : Nat → Bool) : ∀ (f i j : Nat), i ≤ fb p f i j
  | 0, i, _ => Nat.le_refl _
  | f + 1, i, j => by
    unfold fb
    split
    · split
      · exact Nat.le_trans (by omega) (lf p f _ j)
      · exact lf p f i _
    · exact Nat.le_refl _
theorem kZ {p : Nat → Bool} : ∀ {f i j : Nat}, i ≤ j → fb p f i j ≤ j
  | 0, i, j, h => h
  | f + 1, i, j, h => by
    unfold fb
    split
    · split
      · exact kZ (by omega)
      · exact Nat.le_trans (kZ (f := f) (by omega)) (by omega)
    · exact h
variable (lt : α → α → Bool)
def eR : Nat → List α → Nat → Nat → Nat → List α
  | 0, l, _, _, _ => l
  | f + 1, l, a, m, b =>
    if m - a = 1 then pG l (fb (fun h => lt (el l h) (el l a)) (b - m + 1) m b - 1 - a) a
    else if b - m = 1 then pS l (m - fb (fun h => !lt (el l m) (el l h)) (m - a + 1) a m) m
    else
      let mid := (a + b) / 2
      let n := mid + m
      let s0 := if mid < m then n - b else a
      let r0 := if mid < m then mid else m
      let start := fb (fun c => !lt (el l (n - 1 - c)) (el l c)) (r0 - s0 + 1) s0 r0
      let e := n - start
      let l1 := if start < m ∧ m < e then iT (m - start + (e - m)) l m (m - start) (e - m) else l
      let l2 := if a < start ∧ start < mid then eR f l1 a start mid else l1
      if mid < e ∧ e < b then eR f l2 mid e b else l2
end
end Go.Tb
namespace Go.Tb
section
variable {α : Type} [Inhabited α] (lt : α → α → Bool)
theorem fK : ∀ (f : Nat) (l : List α) (a m b : Nat), a < m → m < b → b ≤ l.length → cd l (eR lt f l a m b) a b
  | 0, l, _, _, _, _, _, _ => .refl _ _ _
  | f + 1, l, a, m, b, h1, h2, h3 => by
    unfold eR
    split
    · rename_i e
      obtain ⟨q1, q2, _, _⟩ | hz : (m ≤ fb (fun h => lt (el l h) (el l a)) (b - m + 1) m b ∧ fb (fun h => lt (el l h) (el l a)) (b - m + 1) m b ≤ b ∧ True ∧ True) ∨ False := by
        left
        exact ⟨lf _ _ _ _, kZ (by omega), trivial, trivial⟩
      · exact pY _ _ _ (by omega) (Nat.le_refl _) (by omega)
      · exact hz.elim
    · split
      · have q1 := lf (fun h => !lt (el l m) (el l h)) (m - a + 1) a m
        have q2 := kZ (p := fun h => !lt (el l m) (el l h)) (f := m - a + 1) (i := a) (j := m) (by omega)
        exact qi _ _ _ (by omega) (by omega) (by omega)
      · rename_i e1 e2
        dsimp only
        generalize hs0 : (if (a + b) / 2 < m then (a + b) / 2 + m - b else a) = s0
        generalize hr0 : (if (a + b) / 2 < m then (a + b) / 2 else m) = r0
        have hle : s0 ≤ r0 := by subst hs0 hr0; split <;> omega
        have hs1 : a ≤ s0 := by subst hs0; split <;> omega
        have hr1 : r0 ≤ m ∧ r0 ≤ (a + b) / 2 ∨ r0 = m ∧ m ≤ (a + b) / 2 := by subst hr0; split <;> omega
        have g1 := lf (fun c => !lt (el l ((a + b) / 2 + m - 1 - c)) (el l c)) (r0 - s0 + 1) s0 r0
        have g2 := kZ (p := fun c => !lt (el l ((a + b) / 2 + m - 1 - c)) (el l c)) (f := r0 - s0 + 1) (i := s0) (j := r0) hle
        generalize hst : fb (fun c => !lt (el l ((a + b) / 2 + m - 1 - c)) (el l c)) (r0 - s0 + 1) s0 r0 = start at g1 g2 ⊢
        have hsb : (a + b) / 2 + m - start ≤ b := by subst hs0; split at g1 <;> omega
        have t1 : cd l (if start < m ∧ m < (a + b) / 2 + m - start then iT (m - start + ((a + b) / 2 + m - start - m)) l m (m - start) ((a + b) / 2 + m - start - m) else l) a b := by
          split
          · exact jG _ _ _ _ _ (by omega) (by omega) (by omega) (by omega)
          · exact .refl _ _ _
        generalize (if start < m ∧ m < (a + b) / 2 + m - start then iT (m - start + ((a + b) / 2 + m - start - m)) l m (m - start) ((a + b) / 2 + m - start - m) else l) = l1 at t1 ⊢
        have t2 : cd l1 (if a < start ∧ start < (a + b) / 2 then eR lt f l1 a start ((a + b) / 2) else l1) a b := by
          split
          · exact (fK f l1 a start _ (by omega) (by omega) (by rw [t1.len]; omega)).mono (Nat.le_refl _) (by omega)
          · exact .refl _ _ _
        generalize (if a < start ∧ start < (a + b) / 2 then eR lt f l1 a start ((a + b) / 2) else l1) = l2 at t2 ⊢
        have t3 : cd l2 (if (a + b) / 2 < (a + b) / 2 + m - start ∧ (a + b) / 2 + m - start < b then eR lt f l2 ((a + b) / 2) ((a + b) / 2 + m - start) b else l2) a b := by
          split
          · exact (fK f l2 _ _ b (by omega) (by omega) (by rw [t2.len, t1.len]; omega)).mono (by omega) (Nat.le_refl _)
          · exact .refl _ _ _
        exact (t1.trans t2).trans t3
end
end Go.Tb
namespace Go.Tb
section
variable {α : Type} [Inhabited α] (lt : α → α → Bool) (n : Nat)
def lB : Nat → List α → Nat → List α
  | 0, l, _ => l
  | f + 1, l, a => if a + 20 ≤ n then lB f (fX lt l a (a + 20)) (a + 20) else fX lt l a n
def lM (bs : Nat) : Nat → List α → Nat → List α
  | 0, l, _ => l
  | f + 1, l, a => if a + 2 * bs ≤ n then lM bs f (eR lt n l a (a + bs) (a + 2 * bs)) (a + 2 * bs) else if a + bs < n then eR lt n l a (a + bs) n else l
def mh : Nat → List α → Nat → List α
  | 0, l, _ => l
  | f + 1, l, bs => if bs < n then mh f (lM lt n bs (n + 1) l 0) (2 * bs) else l
def eU (l : List α) : List α := mh lt l.length (l.length + 1) (lB lt l.length (l.length + 1) l 0) 20
def qd (l : List α) (bs lo hi : Nat) : Prop := ∀ i j, lo ≤ i → i < j → j < hi → i / bs = j / bs → lt (el l j) (el l i) = false
theorem sQ {bs i j q : Nat} (hb : 0 < bs) (h : i / bs = j / bs) (hj : q * bs ≤ j) : q * bs ≤ i := by
  have h1 : q ≤ j / bs := (Nat.le_div_iff_mul_le hb).2 hj
  rw [← h] at h1
  exact (Nat.le_div_iff_mul_le hb).1 h1
theorem qR {bs i q : Nat} (h1 : q * bs ≤ i) (h2 : i < q * bs + bs) : i / bs = q :=
  Nat.div_eq_of_lt_le h1 (by rw [Nat.succ_mul]; exact h2)
theorem qd.sorted {l : List α} {bs lo hi q : Nat} (h : qd lt l bs lo hi) (h1 : lo ≤ q * bs) {b : Nat} (h2 : b ≤ q * bs + bs) (h3 : b ≤ hi) : kj lt l (q * bs) b := fun i j p1 p2 p3 =>
  h i j (by omega) p2 (by omega) (by rw [qR p1 (by omega), qR (show q * bs ≤ j by omega) (by omega)])
theorem qd.add {l : List α} {bs q b : Nat} (hb : 0 < bs) (h : qd lt l bs 0 (q * bs)) (hs : kj lt l (q * bs) b) : qd lt l bs 0 b := fun i j p1 p2 p3 p4 => by
  rcases Nat.lt_or_ge j (q * bs) with hj | hj
  · exact h i j p1 p2 hj p4
  · exact hs i j (sQ hb p4 hj) p2 p3
theorem qd.out {l l' : List α} {bs lo hi a b : Nat} (h : qd lt l bs lo hi) (ht : cd l l' a b) (hd : hi ≤ a ∨ b ≤ lo) : qd lt l' bs lo hi := fun i j p1 p2 p3 p4 => by
  rw [ht.out i (by omega), ht.out j (by omega)]
  exact h i j p1 p2 p3 p4
variable (hw : xS lt)
theorem oM : ∀ (f : Nat) (l : List α) (a : Nat), n ≤ l.length → a ≤ n → cd l (lB lt n f l a) 0 n
  | 0, l, _, _, _ => .refl _ _ _
  | f + 1, l, a, h1, h2 => by
    unfold lB
    split
    · have t := gS lt (l := l) (a := a) (b := a + 20) (by omega)
      exact (t.mono (by omega) (by omega)).trans (oM f _ _ (by rw [t.len]; omega) (by omega))
    · exact (gS lt (by omega)).mono (by omega) (Nat.le_refl _)
theorem oN {bs : Nat} (hb : 0 < bs) : ∀ (f : Nat) (l : List α) (a : Nat), n ≤ l.length → a ≤ n → cd l (lM lt n bs f l a) 0 n
  | 0, l, _, _, _ => .refl _ _ _
  | f + 1, l, a, h1, h2 => by
    unfold lM
    split
    · have t := fK lt n l a (a + bs) (a + 2 * bs) (by omega) (by omega) (by omega)
      exact (t.mono (by omega) (by omega)).trans (oN hb f _ _ (by rw [t.len]; omega) (by omega))
    · split
      · exact (fK lt n l a (a + bs) n (by omega) (by omega) (by omega)).mono (by omega) (Nat.le_refl _)
      · exact .refl _ _ _
theorem oR : ∀ (f : Nat) (l : List α) (bs : Nat), 0 < bs → n ≤ l.length → cd l (mh lt n f l bs) 0 n
  | 0, l, _, _, _ => .refl _ _ _
  | f + 1, l, bs, hb, h1 => by
    unfold mh
    split
    · have t := oN lt n hb (n + 1) l 0 h1 (by omega)
      exact t.trans (oR f _ _ (by omega) (by rw [t.len]; omega))
    · exact .refl _ _ _
theorem gV (l : List α) : cd l (eU lt l) 0 l.length := by
  have t := oM lt l.length (l.length + 1) l 0 (Nat.le_refl _) (Nat.zero_le _)
  exact t.trans (oR lt l.length _ _ 20 (by omega) (by rw [t.len]; exact Nat.le_refl _))
end
end Go.Tb
namespace Go.Ab
open Go.RowKit
section
variable {P : Program} (T : cr P) {C : Ctx} {n : Nat} {ops : Array Oper}
variable {f : List (Nat × A)} {bx : List (Nat × List A)} {lv : List Nat} {gen : Nat} {ty : TypeId} {pos : String} {af : Array Edge} {dst : Option Nat}
theorem xy {t e m : Nat} {x y : Operand} {td ed : bZ} {k1 k2 : IntKind} (hx : av f x = some (.d (.v (.int k1 (m : Int))))) (hy : av f y = some (.d (.v (.int k2 (m : Int))))) (ht : aA T.l t = some td) (hk : td.k = .slice e) (he : aA T.l e = some ed)
    (hz : Nat.blt 0 ed.n = true) (hb : (ed.b : Int) * (m : Int) ≤ 281474976710656) (hm : m ≤ maxLen) : Pu P C n ⟨f, bx, lv, gen⟩ ⟨dst, .makeSlice t x y, ty, pos, af, none⟩ (.d (.sl (List.replicate m (ed.z.map D.v)))) := by
  have hz := Nat.le_of_ble_eq_true hz
  intro G tmps w hs
  have hu := T.ep ht hk
  obtain ⟨i, z, hi, hin, hib, hiz, hzc, hzl, hzk, _⟩ := T.info he
  have hzs : z.cells.size = ed.n := by rw [← hzl, ← hzc]; simp
  have hrx := hs.av hx
  have hry := hs.av hy
  generalize hvx : Act.eval ⟨tmps, []⟩ x = vx at hrx
  generalize hvy : Act.eval ⟨tmps, []⟩ y = vy at hry
  cases hrx with | d hrx => cases hrx with | v _ _ =>
  cases hry with | d hry => cases hry with | v _ _ =>
  have hrun := run_make (P := P) w t e i z hu hi hiz k1 k2 (m : Int) (m : Int) (Int.natCast_nonneg _) (Int.le_refl _) (by rw [hib]; exact hb) (by simp only [maxLen] at hm; omega)
  simp only [Int.toNat_natCast] at hrun
  have hbl : Below w.heap.size w (w.alloc (.cells (madeCells z.cells (m * i.size)) e)) := (Below.refl _ w).alloc (Nat.le_refl _) _
  obtain ⟨hle, hs'⟩ := hs.iM hbl
  refine cQ (v := .slice (some ⟨w.heap.size, 0, none⟩) m m) (w' := w.alloc (.cells (madeCells z.cells (m * i.size)) e)) ?_ ⟨hbl, .d ?_⟩
  · unfold execOp
    show Sem.run P _ w = .ok _ _
    simp only [hvx, hvy, Sem.run_bind, hrun, Result.andThen_ok, Sem.run_pure]
  · rcases Nat.eq_zero_or_pos m with h0 | hpos
    · subst h0
      exact .emp _ 0 (by simp)
    · have := bl.ofRow (w := w.alloc (.cells (madeCells z.cells (m * i.size)) e)) (pv := bF C G) (b := w.heap.size) (cap := m) (sz := ed.n) (es := List.replicate m (ed.z.map D.v)) (heap_alloc_new w _) (by simp) hm
        (fun x hx => by rw [List.eq_of_mem_replicate hx, List.length_map, hzl]) (fun t _ hp => by have := oo hs hp; omega) (fun k j e' d hk hj => by
          have hkm : k < m := by have := (List.getElem?_eq_some_iff.1 hk).1; simpa using this
          have he' := List.eq_of_mem_replicate (List.mem_of_getElem? hk)
          subst he'
          rw [List.getElem?_map, Option.map_eq_some_iff] at hj
          obtain ⟨u, hu, rfl⟩ := hj
          have hjn : j < ed.n := by rw [← hzl]; exact (List.getElem?_eq_some_iff.1 hu).1
          refine ⟨u, ?_, .v _ (List.all_eq_true.1 hzk u (List.mem_of_getElem? hu))⟩
          unfold madeCells
          rw [Array.getElem?_map, Array.getElem?_range, if_pos (by rw [hin]; exact oU hkm hjn), Option.map_some]
          have e1 : (k * ed.n + j) % z.cells.size = j := by rw [hzs, Nat.mul_comm, Nat.mul_add_mod, Nat.mod_eq_of_lt hjn]
          rw [e1, getElem!_pos z.cells j (by rw [hzs]; exact hjn)]
          rw [← hzc] at hu
          congr 1
          simpa using (List.getElem?_eq_some_iff.1 hu).2)
      rw [List.length_replicate] at this
      exact this
end
end Go.Ab
namespace Go.Ab
theorem mr : ∀ (l m : List A), ey (l ++ m) = (ey l && ey m)
  | [], m => by simp [ey]
  | a :: l, m => by simp [ey, mr l m, Bool.and_assoc]
theorem rm : ∀ l : List D, ey (l.map A.d) = true
  | [] => rfl
  | d :: l => by simp [ey, gd, rm l]
theorem oF : ∀ k : Nat, ey (List.replicate k A.any) = true
  | 0 => rfl
  | k + 1 => by simp [List.replicate_succ, ey, gd, oF k]
theorem bc (o : List Nat) (es : List (List D)) (k : Nat) : fv o (bb es k) = bb es k :=
  fA o _ (by unfold bb; rw [mr, rm, oF]; rfl)
theorem tl (gs : List Nat) (m : Nat) (es : List (List D)) (k : Nat) : jj gs m (bb es k) = bb es k := by
  rw [fB]
  unfold bb
  rw [List.map_append, List.map_map, List.map_replicate]
  rfl
theorem ur (bx : List (Nat × List A)) (gs os : List Nat) (n : Nat) (es : List (List D)) (k : Nat) : (bb es k).map (en bx gs os (n + 1)) = bb es k := by
  unfold bb
  rw [List.map_append, List.map_map, List.map_replicate]
  rfl
theorem iK {order : List Nat} {bx : List (Nat × List A)} {es : List (List D)} {k : Nat} (h : aA bx 0 = some (bb es k)) : pk order bx 0 [bb es k] := by
  refine ⟨?_, trivial⟩
  rw [h]
  show some (fv order (bb es k)) = _
  rw [bc]
section
variable {P : Program} {C : Ctx} {n : Nat} {ops : Array Oper} {Q : Exit → St → Prop} {rest : List Oper}
variable {f : List (Nat × A)} {bx : List (Nat × List A)} {lv : List Nat} {gen : Nat} {d : Nat} {ty : TypeId} {pos : String} {af : Array Edge}
theorem gU [fw P] [GC P C] {x : Operand} {xs : Array Operand} {tys : Array TypeId} {fid : FuncId} {caps as' args : List A} {es es' : List (List D)} {k : Nat} (g : Nat) (hx : av f x = some (.clo fid caps)) (hxs : iV f xs.toList = some as')
    (harg : (as' ++ caps).map (en bx [g] [] 5) = args) (hb : aA bx g = some (bb es k)) (hf : dF P fid args [bb es k] 0 (.tup []) [bb es' k] 0) (hd : Nat.blt d n = true)
    (h : WO P C n ops Q rest ⟨(d, .tup []) :: f, (g, bb es' k) :: bx, lv, gen + 1⟩) :
    WO P C n ops Q (⟨some d, .call ⟨.value x, xs, tys⟩, ty, pos, af, none⟩ :: rest) ⟨f, bx, lv, gen⟩ := by
  refine jI [g] [] hx hxs harg (b0 := [bb es k]) (by simp only [iD, hb]; rw [ur]) rfl hf rfl rfl rfl hd rfl (bx' := (g, bb es' k) :: bx) (by simp only [iL]; rw [tl]; rfl) (lv' := lv) (by simp) (gen' := gen + 1) (by show 1 + 0 + gen = gen + 1; omega) h
end
end Go.Ab
namespace Go.Ab
open Go.RowKit
section
variable {P : Program} (T : cr P) {C : Ctx} {n : Nat} {ops : Array Oper} {Q : Exit → St → Prop} {rest : List Oper}
variable {f : List (Nat × A)} {bx : List (Nat × List A)} {lv : List Nat} {gen : Nat} {d : Nat} {op : Op} {ty : TypeId} {pos : String} {af : Array Edge} {a : A} {dst : Option Nat} {c : Code}
theorem fZ.same {w : World} {pv : Nat → Nat → Prop} {r : Row} {v v' : Value} {es es' : List (List D)} (h : fZ w pv r v es) (h' : fZ w pv r v' es') : v = v' := by
  cases r with
  | nil => exact h.1.trans h'.1.symm
  | zero b => exact h.1.trans h'.1.symm
  | blk b len cap sz pub => exact h.1.trans h'.1.symm
  | mp b => exact h.elim
end
end Go.Ab
namespace Go.Ab
open Go.RowKit
mutual
def jZ (g : Nat) : A → Bool
  | .ptr g' _ => !Nat.beq g' g
  | .np g' _ _ => !Nat.beq g' g
  | .sb g' _ _ => !Nat.beq g' g
  | .agg l => ko g l
  | .tup l => ko g l
  | .row l => ko g l
  | .clo _ l => ko g l
  | .bnd _ l => ko g l
  | _ => true
def ko (g : Nat) : List A → Bool
  | [] => true
  | a :: l => jZ g a && ko g l
end
theorem hZ {g : Nat} : ∀ {l : List A}, ko g l = true → ∀ a ∈ l, jZ g a = true
  | [], _, a, ha => by cases ha
  | b :: l, h, a, ha => by
    simp only [ko, Bool.and_eq_true] at h
    cases ha with
    | head => exact h.1
    | tail _ ha => exact hZ h.2 a ha
theorem aW.forget {E E' : En} {g : Nat} (hw : E.w = E'.w) (hc : ∀ b o u, cellAt E.w b o = some u → ¬ E.pv b o → cellAt E'.w b o = some u ∧ ¬ E'.pv b o) (hold : ∀ b, E.old b → E'.old b) (hb : ∀ g' b, g' ≠ g → E.box g' = some b → E'.box g' = some b) (ho : E'.own = E.own) (hg : E'.gen = E.gen)
    {v : Value} {a : A} (h : aW E v a) (ha : jZ g a = true) : aW E' v a := by
  have hne : ∀ {g'}, (!Nat.beq g' g) = true → g' ≠ g := fun h e => by subst e; simp at h
  have hc' : ∀ b o u, cellAt E.w b o = some u → ¬ E.pv b o → cellAt E.w b o = some u ∧ ¬ E'.pv b o := fun b o u h1 h2 => ⟨h1, (hc b o u h1 h2).2⟩
  induction h with
  | any x => exact .any x
  | d hd => exact .d (hd.mono hc)
  | ag vs l hs hd => exact .ag vs l hs (fun i u x h1 h2 => (hd i u x h1 h2).mono hc)
  | own x g' es hd hgg hr => exact .own x g' es (hd.mono hc) (by rw [hg]; exact hgg) (fun r hr' => hr r (by rw [← ho]; exact hr'))
  | agg vs l hs hone _ ih => exact .agg vs l hs hone (fun i u x hu hx => ih i u x hu hx (hZ (by simpa [jZ] using ha) x (List.mem_of_getElem? hx)))
  | tup vs l hs _ ih => exact .tup vs l hs (fun i u x hu hx => ih i u x hu hx (hZ (by simpa [jZ] using ha) x (List.mem_of_getElem? hx)))
  | rowd b off l u hcc hd => exact .rowd b off l u (fun j hj => hc _ _ _ (hcc j hj).1 (hcc j hj).2) (fun j x hx => (hd j x hx).mono hc)
  | row b off l u hcc _ ih => exact .row b off l u (fun j hj => ⟨by rw [← hw]; exact (hcc j hj).1, hold _ (hcc j hj).2.1, (hcc j hj).2.2⟩) (fun j x hx => ih j x hx (hZ (by simpa [jZ] using ha) x (List.mem_of_getElem? hx)))
  | ptr x g' off b hgg hb0 hp => exact .ptr x g' off b (by rw [hg]; exact hgg) (hb g' b (hne (by simpa [jZ] using ha)) hb0) hp
  | xs x g' es hgg h1 hx => exact .xs x g' es (by rw [hg]; exact hgg) h1 (fun r hr' => hw ▸ (hx r (by rw [← ho]; exact hr')).iX hc')
  | xp x g' i off l hgg h1 hx => exact .xp x g' i off l (by rw [hg]; exact hgg) h1 (fun r hr' => hw ▸ (hx r (by rw [← ho]; exact hr')).iX hc')
  | mp x g' es hgg h1 hx => exact .mp x g' es (by rw [hg]; exact hgg) h1 (fun r hr' => hw ▸ (hx r (by rw [← ho]; exact hr')).iX hc')
  | ni t x => exact .ni t x
  | fl x es hd hfl => exact .fl x es (hd.mono hc) hfl
  | bf x g' T s hgg h1 hx => exact .bf x g' T s (by rw [hg]; exact hgg) h1 (fun r hr' => hw ▸ hx r (by rw [← ho]; exact hr'))
  | np x g' T b hgg hb0 hT u hp => exact .np x g' T b (by rw [hg]; exact hgg) (hb g' b (hne (by simpa [jZ] using ha)) hb0) (hw ▸ hT) u hp
  | sb x g' n c b hgg hb0 hn hp => exact .sb x g' n c b (by rw [hg]; exact hgg) (hb g' b (hne (by simpa [jZ] using ha)) hb0) hn hp
  | clo f vs l hs _ ih => exact .clo f vs l hs (fun i u x hu hx => ih i u x hu hx (hZ (by simpa [jZ] using ha) x (List.mem_of_getElem? hx)))
  | bnd f vs l hs _ ih => exact .bnd f vs l hs (fun i u x hu hx => ih i u x hu hx (hZ (by simpa [jZ] using ha) x (List.mem_of_getElem? hx)))
def mi (g : Nat) : List Nat → List (Nat × A) → List (Nat × A)
  | _, [] => []
  | seen, (s, a) :: r => bif seen.any (Nat.beq s) then mi g seen r else bif jZ g a then (s, a) :: mi g (s :: seen) r else mi g (s :: seen) r
theorem kA {g : Nat} : ∀ {f : List (Nat × A)} {seen : List Nat} {t : Nat} {a : A}, look (mi g seen f) t = some a → look f t = some a ∧ jZ g a = true ∧ t ∉ seen
  | [], _, t, a, h => by simp [mi, look] at h
  | (s, b) :: r, seen, t, a, h => by
    simp only [mi] at h
    cases q : seen.any (Nat.beq s) with
    | true =>
      rw [q] at h
      simp only [cond_true] at h
      obtain ⟨h1, h2, h3⟩ := kA h
      have hm : s ∈ seen := by
        obtain ⟨y, hy, hb⟩ := List.any_eq_true.1 q
        rw [Nat.eq_of_beq_eq_true hb]; exact hy
      refine ⟨?_, h2, h3⟩
      rw [bo]
      rw [if_neg (fun e : s = t => h3 (e ▸ hm))]
      exact h1
    | false =>
      rw [q] at h
      simp only [cond_false] at h
      have hm : s ∉ seen := fun hm => by
        have : seen.any (Nat.beq s) = true := List.any_eq_true.2 ⟨s, hm, by simp⟩
        rw [q] at this; cases this
      cases q2 : jZ g b with
      | true =>
        rw [q2] at h
        simp only [cond_true] at h
        rw [bo] at h
        split at h
        · rename_i e
          subst e
          cases h
          exact ⟨by rw [bo, if_pos rfl], q2, hm⟩
        · rename_i e
          obtain ⟨h1, h2, h3⟩ := kA h
          exact ⟨by rw [bo, if_neg e]; exact h1, h2, fun hh => h3 (List.mem_cons_of_mem _ hh)⟩
      | false =>
        rw [q2] at h
        simp only [cond_false] at h
        obtain ⟨h1, h2, h3⟩ := kA h
        exact ⟨by rw [bo, if_neg (fun e : s = t => h3 (e ▸ List.mem_cons_self))]; exact h1, h2, fun hh => h3 (List.mem_cons_of_mem _ hh)⟩
def nH (g : Nat) : List Nat → List (Nat × List A) → Option (List (Nat × List A))
  | _, [] => some []
  | seen, (s, c) :: r => bif seen.any (Nat.beq s) then nH g seen r else bif Nat.beq s g then nH g (s :: seen) r else bif ko g c then (match nH g (s :: seen) r with | some l => some ((s, c) :: l) | none => none) else none
theorem gP {α : Type} {f : List (Nat × α)} {s t : Nat} {a : α} : aA ((s, a) :: f) t = if s = t then some a else aA f t := by
  rw [bX]
theorem kN {g : Nat} : ∀ {f f' : List (Nat × List A)} {seen : List Nat} {t : Nat} {a : List A}, nH g seen f = some f' → aA f' t = some a → aA f t = some a ∧ ko g a = true ∧ t ≠ g ∧ t ∉ seen
  | [], f', _, t, a, hc, h => by simp [nH] at hc; subst hc; simp [aA] at h
  | (s, b) :: r, f', seen, t, a, hc, h => by
    simp only [nH] at hc
    cases q : seen.any (Nat.beq s) with
    | true =>
      rw [q] at hc
      simp only [cond_true] at hc
      obtain ⟨h1, h2, h3, h4⟩ := kN hc h
      have hm : s ∈ seen := by
        obtain ⟨y, hy, hb⟩ := List.any_eq_true.1 q
        rw [Nat.eq_of_beq_eq_true hb]; exact hy
      exact ⟨by rw [gP, if_neg (fun e : s = t => h4 (e ▸ hm))]; exact h1, h2, h3, h4⟩
    | false =>
      rw [q] at hc
      simp only [cond_false] at hc
      have hm : s ∉ seen := fun hm => by
        have : seen.any (Nat.beq s) = true := List.any_eq_true.2 ⟨s, hm, by simp⟩
        rw [q] at this; cases this
      cases q1 : Nat.beq s g with
      | true =>
        rw [q1] at hc
        simp only [cond_true] at hc
        obtain ⟨h1, h2, h3, h4⟩ := kN hc h
        exact ⟨by rw [gP, if_neg (fun e : s = t => h4 (e ▸ List.mem_cons_self))]; exact h1, h2, h3, fun hh => h4 (List.mem_cons_of_mem _ hh)⟩
      | false =>
        rw [q1] at hc
        simp only [cond_false] at hc
        cases q2 : ko g b with
        | false => rw [q2] at hc; cases hc
        | true =>
          rw [q2] at hc
          simp only [cond_true] at hc
          split at hc
          · rename_i l hl
            simp only [Option.some.injEq] at hc
            subst hc
            rw [gP] at h
            split at h
            · rename_i e
              subst e
              cases h
              exact ⟨by rw [gP, if_pos rfl], q2, fun e => by subst e; simp at q1, hm⟩
            · rename_i e
              obtain ⟨h1, h2, h3, h4⟩ := kN hl h
              exact ⟨by rw [gP, if_neg e]; exact h1, h2, h3, fun hh => h4 (List.mem_cons_of_mem _ hh)⟩
          · cases hc
section
variable {P : Program} (T : cr P) {C : Ctx} {n : Nat} {ops : Array Oper} {Q : Exit → St → Prop} {rest : List Oper}
variable {f f' : List (Nat × A)} {bx bx' : List (Nat × List A)} {lv : List Nat} {gen : Nat} {d : Nat} {op : Op} {ty : TypeId} {pos : String} {af : Array Edge} {a : A} {dst : Option Nat} {c : Code}
theorem rv [hnb : NB C 0] (s : Nat) {g m cap sz k : Nat} {es : List (List D)} (hl : look f s = some (.sb g m cap)) (hb : aA bx g = some (bb es k)) (hsn : Nat.blt s n = true) (hm : es.length = m) (hls : ∀ (x : List D), x ∈ es → x.length = sz) (hf : mi g [] f = f') (hbx : nH g [] bx = some bx')
    (h : W P C n c Q ⟨(s, .d (.sl es)) :: f', bx', lv, gen⟩) : W P C n c Q ⟨f, bx, lv, gen⟩ := by
  subst hf; subst hm
  intro tmps w ⟨G, hs⟩
  obtain ⟨v, hv, hr⟩ := hs.frame _ _ hl
  obtain ⟨b, cs, T', hgb, hw, h3, h4, h5⟩ := hs.box _ _ hb
  cases hr with
  | sb _ _ _ _ b' hgg hb' hn hx =>
  have hb' : G.box g = some b' := hb'
  rw [hgb] at hb'
  cases hb'
  let G' : Gh := ⟨fun x => if x = g then none else G.box x, G.own⟩
  have hpv : ∀ b' o, bF C G' b' o → bF C G b' o := by
    rintro b' o (hp | ⟨g', hp⟩ | hp)
    · exact .inl hp
    · simp only [G'] at hp
      split at hp
      · cases hp
      · exact .inr (.inl ⟨g', hp⟩)
    · exact .inr (.inr hp)
  have hnot : ∀ o, ¬ bF C G' b o := by
    rintro o (hp | ⟨g', hp⟩ | ⟨g', len, cap, sz, pub, hp, _⟩)
    · have := hs.xold b o hp
      rcases (hs.gbox g b hgb).2.2.1 with hm | hm
      · omega
      · exact this.2 hm
    · simp only [G'] at hp
      split at hp
      · cases hp
      · rename_i e; exact e (hs.inj g' g b hp hgb)
    · exact (hs.row g' b len cap sz pub hp).2.1 g hgb
  have hrep : ∀ {v : Value} {a : A}, aW (aJ C G gen w) v a → jZ g a = true → aW (aJ C G' gen w) v a := fun h ha =>
    aW.forget (E := aJ C G gen w) (E' := aJ C G' gen w) rfl (fun b o u hu hn => ⟨hu, fun hp => hn (hpv b o hp)⟩) (fun b h => h) (fun g' b hne hb => by show (if g' = g then none else G.box g') = some b; rw [if_neg hne]; exact hb) rfl rfl h ha
  have hs' : aU C n ⟨mi g [] f, bx', lv, gen⟩ G' tmps w := by
    refine { size := hs.size, frame := ?_, box := ?_, gbox := ?_, inj := ?_, live := hs.live, gown := hs.gown, row := ?_, mrow := ?_, xold := hs.xold, kold := hs.kold, lent := ?_, fr := hs.fr }
    · intro t a ha
      obtain ⟨h1, h2, _⟩ := kA ha
      obtain ⟨v, hv, hr⟩ := hs.frame t a h1
      exact ⟨v, hv, hrep hr h2⟩
    · intro g' cells hc
      obtain ⟨h1, h2, h6, _⟩ := kN hbx hc
      obtain ⟨b2, cs2, T2, p1, p2, p3, p4, p5⟩ := hs.box g' cells h1
      exact ⟨b2, cs2, T2, by simp only [G']; rw [if_neg h6]; exact p1, p2, p3, p4, fun i u a hu ha => hrep (p5 i u a hu ha) (hZ h2 a (List.mem_of_getElem? ha))⟩
    · intro g' b2 hb2
      simp only [G'] at hb2
      split at hb2
      · cases hb2
      · exact hs.gbox g' b2 hb2
    · intro g1 g2 b2 h1 h2
      simp only [G'] at h1 h2
      split at h1
      · cases h1
      · split at h2
        · cases h2
        · exact hs.inj g1 g2 b2 h1 h2
    · intro g' b2 len cap sz pub hr
      obtain ⟨p1, p2, p3⟩ := hs.row g' b2 len cap sz pub hr
      refine ⟨p1, fun g2 h2 => ?_, p3⟩
      simp only [G'] at h2
      split at h2
      · cases h2
      · exact p2 g2 h2
    · intro g' b2 hr
      obtain ⟨p1, p2, p3⟩ := hs.mrow g' b2 hr
      refine ⟨p1, fun g2 h2 => ?_, p3⟩
      simp only [G'] at h2
      split at h2
      · cases h2
      · exact p2 g2 h2
    · intro i b2 hb2
      have := hnb.h
      have hi := (List.getElem?_eq_some_iff.1 hb2).1
      omega
  have hdata : aW (aJ C G' gen w) v (.d (.sl es)) := by
    rw [hx]
    have hfl := jd hls
    have hcell : ∀ i j (e : List D) (y : D), es[i]? = some e → e[j]? = some y → ∃ u, cs[i * sz + j]? = some u ∧ bl w (bF C G') u y := fun i j e y hi hj => by
      have hfg := jl hls i j e y hi hj
      have hlt : i * sz + j < es.flatten.length := (List.getElem?_eq_some_iff.1 hfg).1
      have hc : (bb es k)[i * sz + j]? = some (.d y) := by
        unfold bb
        rw [List.getElem?_append_left (by rw [List.length_map]; exact hlt), List.getElem?_map, hfg]; rfl
      have hj' : i * sz + j < cs.size := by rw [h3]; exact (List.getElem?_eq_some_iff.1 hc).1
      have e1 : cs[i * sz + j]? = some cs[i * sz + j] := by simp [hj']
      have := hrep (h5 _ _ _ e1 hc) rfl
      generalize cs[i * sz + j] = u at this e1
      cases this with | d hd => exact ⟨u, e1, hd⟩
    refine .d ?_
    exact bl.ofRow hw hn.1 hn.2 hls (fun t _ => hnot t) hcell
  refine h tmps w ⟨G', ?_⟩
  have := hs'.set (d := s) (Nat.le_of_ble_eq_true hsn) hdata
  rwa [gZ hv] at this
theorem uX {es : List (List D)} {sz i k off : Nat} {e cs : List D} (hl : ∀ (x : List D), x ∈ es → x.length = sz) (he : es[i]? = some e) (hc : off + cs.length ≤ sz) : setAt (bb es k) (i * sz + off) (cs.map A.d) = bb (es.set i (hF e off cs)) k := by
  have hel := hl e (List.mem_of_getElem? he)
  have h1 : (hF e off cs).length = sz := by rw [qQ (by omega)]; exact hel
  rw [← q9 (k := k) hl he h1]
  obtain ⟨r, hr⟩ := pM (k := k) hl he
  have hp : i * sz ≤ (bb es k).length := by
    rw [nz hl]
    have hi : i < es.length := (List.getElem?_eq_some_iff.1 he).1
    have : i * sz ≤ es.length * sz := Nat.mul_le_mul_right _ (by omega)
    omega
  have hsplit : bb es k = (bb es k).take (i * sz) ++ (e.map A.d ++ r) := by rw [← hr, List.take_append_drop]
  generalize (bb es k).take (i * sz) = X at hsplit
  have hX : X.length = i * sz := by
    have := congrArg List.length hsplit
    have h2 := congrArg List.length hr
    rw [List.length_drop] at h2
    simp at this h2
    omega
  rw [hsplit]
  unfold setAt hF
  have e1 : (X ++ (e.map A.d ++ r)).take (i * sz + off) = X ++ (e.map A.d).take off := by
    rw [← hX, List.take_append]
    simp
    rw [List.take_append_of_le_length (by simp; omega), List.take_of_length_le (by omega)]
  have e2 : (X ++ (e.map A.d ++ r)).drop (i * sz + off + (cs.map A.d).length) = (e.map A.d).drop (off + cs.length) ++ r := by
    rw [← hX, List.length_map, Nat.add_assoc, List.drop_append]
    simp
    rw [List.drop_append_of_le_length (by simp; omega), List.drop_eq_nil_of_le (by omega), List.nil_append]
  have e3 : (X ++ (e.map A.d ++ r)).take (i * sz) = X := by rw [← hX, List.take_left]
  have e4 : (X ++ (e.map A.d ++ r)).drop (i * sz + ((e.take off ++ cs ++ e.drop (off + cs.length)).map A.d).length) = r := by
    have : ((e.take off ++ cs ++ e.drop (off + cs.length)).map A.d).length = (e.map A.d).length := by simp; omega
    rw [this, ← hX, ← List.drop_drop, List.drop_left, List.drop_left]
  rw [e1, e2, e3, e4]
  simp [List.map_take, List.map_drop]
theorem rb {t : TypeId} {x y : Operand} {g i k p sz off : Nat} {es : List (List D)} {e cs : List D} (hx : av f x = some (.ptr g p)) (hp : p = i * sz + off) (hb : aA bx g = some (bb es k)) (ha : av f y = some a) (hcs : cellsOf bx a = some (cs.map A.d)) (hl : ∀ (x : List D), x ∈ es → x.length = sz) (he : es[i]? = some e)
    (hc : off + cs.length ≤ sz) (hsz : cA T t = cs.length) (hz : cs.length ≠ 0) {es' : List (List D)} (hes : es.set i (hF e off cs) = es')
    (h : WO P C n ops Q rest ⟨f, (g, bb es' k) :: bx, lv, gen⟩) : WO P C n ops Q (⟨none, .store t x y, ty, pos, af, none⟩ :: rest) ⟨f, bx, lv, gen⟩ := by
  subst hp
  have hi : i < es.length := (List.getElem?_eq_some_iff.1 he).1
  refine WO.store (st := ⟨f, bx, lv, gen⟩) T rfl rfl rfl hx hb ha hcs (by rw [List.length_map]; exact hsz) (by rw [List.length_map]; exact hz) ?_ ?_
  · apply Nat.ble_eq_true_of_le
    rw [List.length_map, nz hl]
    have : (i + 1) * sz ≤ es.length * sz := Nat.mul_le_mul_right _ hi
    rw [Nat.succ_mul] at this
    omega
  · rw [uX hl he hc, hes]
    exact h
end
end Go.Ab
namespace Go.Tb
open Go.Ab
structure nZ where
  left : List Nat
  right : List Nat
  m : Nat
  t : Nat
  more : List Nat
def gE (o : nZ) (x y : List aO) : Bool := decide ((ba x o.m).kind = 0) || (decide ((ba y o.t).kind = 0) || (decide ((ba x o.m).n < (ba y o.t).n) || !eu (bp x o.left) (bp y o.right)))
def dh (bs : List (List aO)) (i : Nat) : List aO := bs.getD i []
def fm (o : nZ) (bs : List (List aO)) (x : List aO) : List (List aO) → Nat → Option Nat → Option Nat
  | [], _, b => b
  | y :: r, k, b => if gE o x y = true then fm o bs x r (k + 1) b else
      if idx b < 0 ∨ (ba (dh bs (idx b).toNat) o.t).n ≤ (ba y o.t).n then fm o bs x r (k + 1) (some k) else fm o bs x r (k + 1) b
def kX (o : nZ) (bs : List (List aO)) (b : Option Nat) : List aO := match b with
  | none => List.replicate o.more.length c9
  | some i => bp (dh bs i) o.more
def fJ (o : nZ) (bs : List (List aO)) (x : List aO) : List aO := x ++ kX o bs (fm o bs x bs 0 none)
def uN (a b : bC) (on : List ByteArray) : nZ := ⟨on.map (bN a.cols), on.map (bN b.cols), bN a.cols aQ, bN b.cols aQ, cE (on ++ [aQ]) b.cols 0⟩
def cY (a b : bC) (on : List ByteArray) : bC × Int :=
  if (dK 8 on a b).2 ≠ 0 then (gh, (dK 8 on a b).2) else (⟨(dK 8 on a b).1, a.rows.map (fJ (uN a b on) b.rows)⟩, 0)
structure xN (o : nZ) (n m : Nat) : Prop where
  left : ∀ i ∈ o.left, i < n
  right : ∀ i ∈ o.right, i < m
  mm : o.m < n
  tt : o.t < m
  more : ∀ i ∈ o.more, i < m
theorem xX {a b : bC} {on : List ByteArray} (h : sU a b on (aM 8)) : xN (uN a b on) a.cols.length b.cols.length := by
  have e : aM 8 = [aQ] := rfl
  rw [e] at h
  refine ⟨fun i hi => ?_, fun i hi => ?_, ?_, ?_, fun i hi => ?_⟩
  · obtain ⟨s, hs, rfl⟩ := List.mem_map.1 hi
    obtain ⟨i, j, c, d, h1, h2, h3, h4, _⟩ := h.ons s hs
    rw [cf h1]; exact (List.getElem?_eq_some_iff.1 h3).1
  · obtain ⟨s, hs, rfl⟩ := List.mem_map.1 hi
    obtain ⟨i, j, c, d, h1, h2, h3, h4, _⟩ := h.ons s hs
    rw [cf h2]; exact (List.getElem?_eq_some_iff.1 h4).1
  · obtain ⟨i, c, h1, h2, _⟩ := h.spa aQ (by simp)
    show bN a.cols aQ < _
    rw [cf h1]; exact (List.getElem?_eq_some_iff.1 h2).1
  · obtain ⟨i, c, h1, h2, _⟩ := h.spb aQ (by simp)
    show bN b.cols aQ < _
    rw [cf h1]; exact (List.getElem?_eq_some_iff.1 h2).1
  · have := lK _ b.cols 0 i hi
    omega
theorem gv {bs : List (List aO)} {i : Nat} (h : i < bs.length) : bs[i]? = some (dh bs i) := by
  unfold dh
  rw [List.getD_eq_getElem?_getD, List.getElem?_eq_getElem h]; rfl
end Go.Tb
namespace Go.Ab
section
variable {P : Program} {C : Ctx} {n : Nat} {Q : Exit → St → Prop}
variable {f : List (Nat × A)} {bx : List (Nat × List A)} {lv : List Nat} {gen : Nat} {c : Code}
theorem nT (s : Nat) {g : Nat} {es : List (List D)} (hl : look f s = some (.own g es)) (hsn : Nat.blt s n = true) (h : W P C n c Q ⟨(s, .d (.sl es)) :: f, bx, lv, gen⟩) : W P C n c Q ⟨f, bx, lv, gen⟩ := by
  intro tmps w ⟨G, hs⟩
  obtain ⟨v, hv, hr⟩ := hs.frame s _ hl
  cases hr with
  | own _ _ _ hd _ _ =>
  refine h tmps w ⟨G, ?_⟩
  have := hs.set (d := s) (Nat.le_of_ble_eq_true hsn) (.d hd)
  rwa [gZ hv] at this
end
end Go.Ab
namespace Go.Tb
open Go.Ab
structure x4 (left : List Nat) (m0 m1 n : Nat) : Prop where
  left : ∀ i ∈ left, i < n
  m0 : m0 < n
  m1 : m1 < n
theorem wT {a : bC} {on : List ByteArray} (h : vO a on) : x4 (on.map (bN a.cols)) (bN a.cols aQ) (bN a.cols bP) a.cols.length := by
  refine ⟨fun i hi => ?_, ?_, ?_⟩
  · obtain ⟨s, hs, rfl⟩ := List.mem_map.1 hi
    obtain ⟨i, c, h1, h2⟩ := h.ons s hs
    rw [cf h1]; exact (List.getElem?_eq_some_iff.1 h2).1
  · obtain ⟨i, c, h1, h2, _⟩ := h.fr
    rw [cf h1]; exact (List.getElem?_eq_some_iff.1 h2).1
  · obtain ⟨i, c, h1, h2, _⟩ := h.to
    rw [cf h1]; exact (List.getElem?_eq_some_iff.1 h2).1
end Go.Tb
namespace Go.Ab
section
variable {P : Program} {C : Ctx} {n : Nat} {ops : Array Oper} {Q : Exit → St → Prop} {rest : List Oper}
variable {f : List (Nat × A)} {bx : List (Nat × List A)} {lv : List Nat} {gen : Nat}
end
end Go.Ab
namespace Go.Tb
open Go.Ab
deriving instance DecidableEq for bC
def cZ (n : Int) : aO := ⟨2, n, B #[]⟩
def mX (s : ByteArray) : aO := ⟨3, 0, s⟩
def fI (s : ByteArray) : Col := ⟨s, if s = B #[107] then 3 else 2⟩
def j8 : List (List aO) → Int → Int
  | [], n => n
  | r :: l, n => if n ≤ 600 then j8 l (IntKind.i64.wrap (IntKind.i64.wrap (n + 1) + (r.length : Int))) else n
def kt (t : bC) : Bool := decide (j8 t.rows (t.cols.length : Int) ≤ 600) && decide ((t.cols.length : Int) ≤ 40)
def oI (a b : bC) (on : List ByteArray) : Bool := kt a && (kt b && decide ((on.length : Int) ≤ 40))
theorem uU {a b : bC} {on : List ByteArray} (h : oI a b on = true) : on.length ≤ 40 ∧ a.cols.length ≤ 40 ∧ b.cols.length ≤ 40 := by
  simp only [oI, kt, Bool.and_eq_true, decide_eq_true_eq] at h
  omega
end Go.Tb
namespace Go.Tb
open Go.Ab
def iF (op : Int) (on : List ByteArray) (a b : bC) : CT := if op = 9 then fO 9 on a else dK op on a b
def fS (ca cb : List Col) (x y : List aO) (on : List ByteArray) : Bool :=
  on.all fun s => !decide ((ba x (bN ca s)).kind = 0) && decide (dJ (ba x (bN ca s)) (ba y (bN cb s)) = 0)
def eF (row : List aO) (not : List ByteArray) (cols : List Col) : List aO := (cE not cols 0).map fun i => if 0 < row.length then ba row i else c9
end Go.Tb
namespace Go.Tb
open Go.Ab
theorem tG {k : Int} {v w : aO} (hv : bU k v = 0) (hw : bU k w = 0) : (!decide (v.kind = 0) && decide (dJ v w = 0)) = (decide (v = w) && !decide (c9 = v)) := by
  have hn := vd hv
  by_cases q : v = c9
  · have : v.kind = 0 := hn.2 q
    have q3 : c9.kind = 0 := rfl
    simp [q, q3]
  · have q1 : ¬ v.kind = 0 := fun h => q (hn.1 h)
    have q2 : ¬ c9 = v := fun h => q h.symm
    by_cases q3 : v = w
    · subst q3
      have : dJ v v = 0 := by
        rcases tI v with h | h
        · rcases kD hv with h0 | ⟨h1, _, _, _, h5, _⟩
          · exact absurd h0 q
          · unfold dJ
            rw [h1] at h
            simp [h1, h, ig]
        · exact h
      simp [q1, q2, this]
    · have : ¬ dJ v w = 0 := fun h => q3 (wq hv hw h)
      simp [q3, this]
theorem rO (v w : aO) (l m : List aO) : eu (v :: l) (w :: m) = ((decide (v = w) && !decide (c9 = v)) && eu l m) := by
  unfold eu
  simp only [List.any_cons, List.cons.injEq]
  by_cases q : v = w <;> by_cases q2 : l = m <;> simp [q, q2, Bool.not_or]
theorem p9 {a b : bC} {x y : List aO} (ha : bm a = 0) (hb : bm b = 0) (hx : x ∈ a.rows) (hy : y ∈ b.rows) : ∀ {on : List ByteArray},
    (∀ s ∈ on, ∃ i j c d, dy a.cols s = some i ∧ dy b.cols s = some j ∧ a.cols[i]? = some c ∧ b.cols[j]? = some d ∧ c.type = d.type) →
    fS a.cols b.cols x y on = eu (bp x (on.map (bN a.cols))) (bp y (on.map (bN b.cols)))
  | [], _ => rfl
  | s :: r, h => by
    have ih := p9 ha hb hx hy (on := r) (fun s hs => h s (List.mem_cons_of_mem _ hs))
    obtain ⟨i, j, c, d, h1, h2, h3, h4, h5⟩ := h s List.mem_cons_self
    have e1 : fS a.cols b.cols x y (s :: r) = ((!decide ((ba x (bN a.cols s)).kind = 0) && decide (dJ (ba x (bN a.cols s)) (ba y (bN b.cols s)) = 0)) && fS a.cols b.cols x y r) := rfl
    have hv := (uF ha hx h3).2
    have hw := (uF hb hy h4).2
    rw [← h5] at hw
    rw [e1, ih, cf h1, cf h2, tG hv hw]
    show _ = eu (ba x (bN a.cols s) :: bp x (r.map (bN a.cols))) (ba y (bN b.cols s) :: bp y (r.map (bN b.cols)))
    rw [rO, cf h1, cf h2]
end Go.Tb
namespace Go.Tb
open Go.Ab
theorem nf {not not' : List ByteArray} (h : ∀ s, not.any (fun x => decide (s = x)) = not'.any (fun x => decide (s = x))) : ∀ (cols : List Col) (i : Nat), cE not cols i = cE not' cols i
  | [], _ => rfl
  | c :: r, i => by simp only [cE, h c.name, nf h r (i + 1)]
theorem sJ (l m : List ByteArray) (cols : List Col) (i : Nat) : cE (l ++ m) cols i = cE (m ++ l) cols i :=
  nf (fun s => by rw [List.any_append, List.any_append, Bool.or_comm]) cols i
theorem sN {y : List aO} (hy : 0 < y.length) (not : List ByteArray) (cols : List Col) : eF y not cols = bp y (cE not cols 0) := by
  unfold eF bp
  simp only [if_pos hy]
end Go.Tb
