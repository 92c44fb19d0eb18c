import Derived.Test.YtjenenllmjlimaaGreatQ2
import Derived.Laws.MakeOwn
namespace Go.Ab
open Go.RowKit
structure iH where
  bxF : Nat → List (Nat × List A)
  bxT : Nat → List (Nat × List A)
  lv : Nat → List Nat
  gen : Nat → Nat
  ord : Nat → List Nat
  g0 : Nat
  z : List A
  cs : List Nat
  al : Nat
def iH.bx (S : iH) (k : Nat) (b : Bool) : List (Nat × List A) := bif b then S.bxT k else S.bxF k
abbrev xx (iV : List (List (Nat × List A))) (lvs : List (List Nat)) (gens : List Nat) (cs : List Nat) (al : Nat) : iH := ⟨fun _ => [], fun k => iV.getD k [], fun k => lvs.getD k [], fun k => gens.getD k 0, fun _ => [], 0, [], cs, al⟩
def gp (S : iH) (ops : Array Oper) (i k : Nat) (b : Bool) : Bool :=
  ((List.range S.cs.length).all fun j => bif Nat.blt j k then !cI .any ops ops.size (S.cs.getD j 0) i else !cI .any ops ops.size i (S.cs.getD j 0)) &&
  (bif b then !cI .any ops ops.size S.al i else (Nat.blt S.al ops.size && !cI .any ops ops.size i S.al))
theorem ar {S : iH} {ops : Array Oper} {i k : Nat} {b : Bool} (h : gp S ops i k b = true) (h' : gp S ops i k b = false) : False := by rw [h] at h'; cases h'
section
variable {P : Program} (T : cw P) {C : Ctx} {n : Nat} (S : iH) {ops : Array Oper}
abbrev SD := c9 × Nat × Bool
def wQ (C : Ctx) (n : Nat) (S : iH) (b0 : Bool) (σ : SD) (act : Act) (w : World) : Prop :=
  (b0 = true → σ.2.2 = true) ∧ act.defers = [] ∧ ∃ G, dP C n (S.bx σ.2.1 σ.2.2) (S.lv σ.2.1) (S.gen σ.2.1) σ.1 G act.tmps w ∧ (σ.2.2 = false → ∀ t a, σ.1 t = some a → bF (S.ord σ.2.1) a = a)
def w7 (P : Program) (C : Ctx) (n : Nat) (S : iH) (ops : Array Oper) (o : Oper) (a : A) (k : Nat) (b : Bool) (φ : c9) : Prop :=
  o.guard = none ∧ ∃ p, (∀ t x, look p t = some x → φ t = some x ∧ t ∈ o.looksAt ops) ∧
    ∀ g, WO P C n ops (fun e st => e = .normal ∧ st = St.put ⟨p ++ g, S.bx (k + 1) b, S.lv (k + 1), S.gen (k + 1)⟩ o.dst a) [o] ⟨p ++ g, S.bx k b, S.lv k, S.gen k⟩
def YD (P : Program) (T : cw P) (C : Ctx) (n : Nat) (S : iH) (ops : Array Oper) (i : Nat) (a : A) (σ : SD) : Prop :=
  ∃ o, ops[i]? = some o ∧ dW n o.dst = true ∧ σ.2.1 ≤ S.cs.length ∧ gp S ops i σ.2.1 σ.2.2 = true ∧
    ((S.cs[σ.2.1]? = some i ∧ i ≠ S.al ∧ (∀ b, gp S ops i σ.2.1 b = true → w7 P C n S ops o a σ.2.1 b σ.1) ∧ (gp S ops i σ.2.1 false = true → bF (S.ord (σ.2.1 + 1)) a = a)) ∨
     (i ∉ S.cs ∧ i = S.al ∧ σ.2.2 = false ∧ o.guard = none ∧ a = .ptr S.g0 0 ∧ ∃ e d dt, o.op = .alloc e ∧ o.dst = some d ∧ aA T.l e = some dt ∧ S.z = dt.z.map fun v => A.d (.v v)) ∨
     (i ∉ S.cs ∧ i ≠ S.al ∧ ∀ k b, k ≤ S.cs.length → gp S ops i k b = true → YA P C n (S.bx k b) (S.lv k) (S.gen k) ops o a σ.1 ∧ (b = false → bF (S.ord k) a = a)))
def sn (S : iH) (ops : Array Oper) (i : Nat) (a : A) (σ : SD) : SD :=
  match ops[i]? with
  | none => σ
  | some o => (bC σ.1 o.dst a, (if S.cs[σ.2.1]? = some i then σ.2.1 + 1 else σ.2.1), if i = S.al then true else σ.2.2)
variable {T} {S}
theorem mS {o : Oper} {a : A} {k : Nat} {b : Bool} {φ : c9} {dst : Option Nat} {x : A} (hd : ∀ d, dst = some d → d ∉ o.looksAt ops) : w7 P C n S ops o a k b (bC φ dst x) ↔ w7 P C n S ops o a k b φ := by
  constructor
  · rintro ⟨h0, p, h1, h2⟩
    exact ⟨h0, p, fun t y hy => ⟨(fc hd (h1 t y hy).2).symm.trans (h1 t y hy).1, (h1 t y hy).2⟩, h2⟩
  · rintro ⟨h0, p, h1, h2⟩
    exact ⟨h0, p, fun t y hy => ⟨(fc hd (h1 t y hy).2).trans (h1 t y hy).1, (h1 t y hy).2⟩, h2⟩
theorem qI {i k c : Nat} {b : Bool} (h : S.cs[k]? = some c) (hl : loose .any ops i c) : gp S ops i (k + 1) b = gp S ops i k b := by
  unfold gp
  congr 1
  rw [Bool.eq_iff_iff, List.all_eq_true, List.all_eq_true]
  have hk : S.cs.getD k 0 = c := by simp [List.getD_eq_getElem?_getD, h]
  have key : ∀ j, (bif Nat.blt j (k + 1) then !cI .any ops ops.size (S.cs.getD j 0) i else !cI .any ops ops.size i (S.cs.getD j 0)) = (bif Nat.blt j k then !cI .any ops ops.size (S.cs.getD j 0) i else !cI .any ops ops.size i (S.cs.getD j 0)) := fun j => by
    rcases Nat.lt_trichotomy j k with hj | rfl | hj
    · have h1 : Nat.blt j (k + 1) = true := by simp [Nat.blt_eq]; omega
      have h2 : Nat.blt j k = true := by simp [Nat.blt_eq]; omega
      rw [h1, h2]
    · have h1 : Nat.blt j (j + 1) = true := by simp [Nat.blt_eq]
      have h2 : Nat.blt j j = false := by cases q : Nat.blt j j with | false => rfl | true => simp [Nat.blt_eq] at q
      rw [h1, h2, hk, hl.1, hl.2]
      rfl
    · have h1 : Nat.blt j (k + 1) = false := by cases q : Nat.blt j (k + 1) with | false => rfl | true => simp [Nat.blt_eq] at q; omega
      have h2 : Nat.blt j k = false := by cases q : Nat.blt j k with | false => rfl | true => simp [Nat.blt_eq] at q; omega
      rw [h1, h2]
  exact ⟨fun h j hj => by rw [← key]; exact h j hj, fun h j hj => by rw [key]; exact h j hj⟩
theorem oB {i k : Nat} (hlt : S.al < ops.size) (hl : loose .any ops i S.al) : gp S ops i k true = gp S ops i k false := by
  unfold gp
  have h : Nat.blt S.al ops.size = true := by rw [Nat.blt_eq]; exact hlt
  rw [hl.1, hl.2, h]
  rfl
theorem loose.symm {md : Region.Mode} {i j : Nat} (h : loose md ops i j) : loose md ops j i := ⟨h.2, h.1⟩
theorem k9 {i : Nat} {o : Oper} (h : ops[i]? = some o) (a : A) (σ : SD) : sn S ops i a σ = (bC σ.1 o.dst a, (if S.cs[σ.2.1]? = some i then σ.2.1 + 1 else σ.2.1), if i = S.al then true else σ.2.2) := by unfold sn; rw [h]
theorem rl {i k c : Nat} {b : Bool} (h : S.cs[k]? = some c) (hl : loose .any ops i c) (ha : gp S ops i (k + 1) b = true) : gp S ops i k b = true := by rw [← qI h hl]; exact ha
theorem qM {i k c : Nat} {b : Bool} (h : S.cs[k]? = some c) (hl : loose .any ops i c) (ha : gp S ops i k b = true) : gp S ops i (k + 1) b = true := by rw [qI h hl]; exact ha
theorem xC (hch : ∀ k c c', S.cs[k]? = some c → S.cs[k + 1]? = some c' → cI .any ops ops.size c' c = true) {i j : Nat} {oi oj : Oper} (hi : ops[i]? = some oi) (hj : ops[j]? = some oj) (hij : i ≠ j) (hap : oi.apart ops oj = true) (hl : loose .any ops i j) :
    mc (YD P T C n S ops) (sn S ops) i j := by
  obtain ⟨a1, a2, a3⟩ := Oper.apart_spec hap
  rintro a b ⟨φ, k, ph⟩ ⟨oi', hi', di, hk, ai, hyi⟩ ⟨oj', hj', dj, hk2, aj, hyj⟩
  rw [hi] at hi'
  cases hi'
  rw [hj] at hj'
  cases hj'
  have hcomm : bC (bC φ oi.dst a) oj.dst b = bC (bC φ oj.dst b) oi.dst a := kP φ a b a2
  have mem_of : ∀ {k c : Nat}, S.cs[k]? = some c → c ∈ S.cs := fun h => List.mem_of_getElem? h
  have klt : ∀ {k c : Nat}, S.cs[k]? = some c → k + 1 ≤ S.cs.length := fun h => (List.getElem?_eq_some_iff.1 h).1
  rw [k9 hi] at aj hyj hk2
  simp only [k9 hi, k9 hj]
  simp only at hk ai hyi hk2 aj hyj
  rcases hyi with ⟨ci, nai, xi, fi⟩ | ⟨nci, ali, rfl, gi, ei, hi6⟩ | ⟨nci, nai, yi⟩
  · -- i is of the chain
    simp only [if_pos ci, if_neg nai] at aj hyj hk2
    rcases hyj with ⟨cj, _⟩ | ⟨ncj, alj, rfl, gj, ej, hj6⟩ | ⟨ncj, naj, yj⟩
    · exact absurd (hch k i j ci cj) (by rw [hl.2]; simp)
    · have hsi : loose .any ops i S.al := by rw [← alj]; exact hl
      have hlt : S.al < ops.size := by rw [← alj]; exact (Array.getElem?_eq_some_iff.1 hj).1
      have n1 : ¬ S.cs[k]? = some j := fun h => ncj (mem_of h)
      refine ⟨⟨oj, hj, dj, hk, rl ci hl.symm aj, .inr (.inl ⟨ncj, alj, rfl, gj, ej, hj6⟩)⟩, ?_, ?_⟩
      · refine ⟨oi, hi, di, ?_, ?_, .inl ⟨?_, nai, fun b hb => (mS a3).2 ?_, ?_⟩⟩
        all_goals simp only [if_neg n1]
        · exact hk
        · rw [if_pos alj, oB hlt hsi]; exact ai
        · exact ci
        · simp only [if_neg n1] at hb
          exact xi b hb
        · exact fi
      · simp only [if_pos ci, if_neg nai, if_pos alj, if_neg n1, hcomm]
        have n2 : ¬ S.cs[k + 1]? = some j := fun h => ncj (mem_of h)
        rw [if_neg n2]
    · have n1 : ¬ S.cs[k]? = some j := fun h => ncj (mem_of h)
      have n2 : ¬ S.cs[k + 1]? = some j := fun h => ncj (mem_of h)
      refine ⟨⟨oj, hj, dj, hk, rl ci hl.symm aj, .inr (.inr ⟨ncj, naj, fun k b h1 h2 => ⟨(dL a1).1 (yj k b h1 h2).1, (yj k b h1 h2).2⟩⟩)⟩, ?_, ?_⟩
      · refine ⟨oi, hi, di, ?_, ?_, .inl ⟨?_, nai, fun b hb => (mS a3).2 ?_, ?_⟩⟩
        all_goals simp only [if_neg n1]
        · exact hk
        · rw [if_neg naj]; exact ai
        · exact ci
        · simp only [if_neg n1] at hb
          exact xi b hb
        · exact fi
      · simp only [if_pos ci, if_neg nai, if_neg naj, if_neg n1, if_neg n2, hcomm]
  · -- i is the allocation
    have n1 : ¬ S.cs[k]? = some i := fun h => nci (mem_of h)
    simp only [if_neg n1, if_pos ali] at aj hyj hk2
    have hsj : loose .any ops j S.al := by rw [← ali]; exact hl.symm
    have hlt : S.al < ops.size := by rw [← ali]; exact (Array.getElem?_eq_some_iff.1 hi).1
    rcases hyj with ⟨cj, naj, xj, fj⟩ | ⟨_, alj, h, _⟩ | ⟨ncj, naj, yj⟩
    · have n2 : ¬ S.cs[k + 1]? = some i := fun h => nci (mem_of h)
      refine ⟨⟨oj, hj, dj, hk, by rw [← oB hlt hsj]; exact aj, .inl ⟨cj, naj, fun b hb => (mS a1).1 (xj b hb), fj⟩⟩, ?_, ?_⟩
      · refine ⟨oi, hi, di, ?_, ?_, .inr (.inl ⟨nci, ali, ?_, gi, ei, hi6⟩)⟩
        all_goals simp only [if_pos cj, if_neg naj]
        · exact klt cj
        · exact qM cj hl ai
      · simp only [if_neg n1, if_pos ali, if_pos cj, if_neg naj, if_neg n2, hcomm]
    · exact absurd (ali.trans alj.symm) hij
    · have n3 : ¬ S.cs[k]? = some j := fun h => ncj (mem_of h)
      refine ⟨⟨oj, hj, dj, hk, by rw [← oB hlt hsj]; exact aj, .inr (.inr ⟨ncj, naj, fun k b h1 h2 => ⟨(dL a1).1 (yj k b h1 h2).1, (yj k b h1 h2).2⟩⟩)⟩, ?_, ?_⟩
      · refine ⟨oi, hi, di, ?_, ?_, .inr (.inl ⟨nci, ali, ?_, gi, ei, hi6⟩)⟩
        all_goals simp only [if_neg n3, if_neg naj]
        · exact hk
        · exact ai
      · simp only [if_neg n1, if_pos ali, if_neg n3, if_neg naj, hcomm]
  · -- i leaves the ghost
    have n1 : ¬ S.cs[k]? = some i := fun h => nci (mem_of h)
    simp only [if_neg n1, if_neg nai] at aj hyj hk2
    rcases hyj with ⟨cj, naj, xj, fj⟩ | ⟨ncj, alj, rfl, gj, ej, hj6⟩ | ⟨ncj, naj, yj⟩
    · have n2 : ¬ S.cs[k + 1]? = some i := fun h => nci (mem_of h)
      refine ⟨⟨oj, hj, dj, hk, aj, .inl ⟨cj, naj, fun b hb => (mS a1).1 (xj b hb), fj⟩⟩, ?_, ?_⟩
      · refine ⟨oi, hi, di, ?_, ?_, .inr (.inr ⟨nci, nai, fun k b h1 h2 => ⟨(dL a3).2 (yi k b h1 h2).1, (yi k b h1 h2).2⟩⟩)⟩
        all_goals simp only [if_pos cj, if_neg naj]
        · exact klt cj
        · exact qM cj hl ai
      · simp only [if_neg n1, if_neg nai, if_pos cj, if_neg naj, if_neg n2, hcomm]
    · have n3 : ¬ S.cs[k]? = some j := fun h => ncj (mem_of h)
      have hsi : loose .any ops i S.al := by rw [← alj]; exact hl
      have hlt : S.al < ops.size := by rw [← alj]; exact (Array.getElem?_eq_some_iff.1 hj).1
      refine ⟨⟨oj, hj, dj, hk, aj, .inr (.inl ⟨ncj, alj, rfl, gj, ej, hj6⟩)⟩, ?_, ?_⟩
      · refine ⟨oi, hi, di, ?_, ?_, .inr (.inr ⟨nci, nai, fun k b h1 h2 => ⟨(dL a3).2 (yi k b h1 h2).1, (yi k b h1 h2).2⟩⟩)⟩
        all_goals simp only [if_neg n3, if_pos alj]
        · exact hk
        · rw [oB hlt hsi]; exact ai
      · simp only [if_neg n1, if_neg nai, if_neg n3, if_pos alj, hcomm]
    · have n3 : ¬ S.cs[k]? = some j := fun h => ncj (mem_of h)
      refine ⟨⟨oj, hj, dj, hk, aj, .inr (.inr ⟨ncj, naj, fun k b h1 h2 => ⟨(dL a1).1 (yj k b h1 h2).1, (yj k b h1 h2).2⟩⟩)⟩, ?_, ?_⟩
      · refine ⟨oi, hi, di, ?_, ?_, .inr (.inr ⟨nci, nai, fun k b h1 h2 => ⟨(dL a3).2 (yi k b h1 h2).1, (yi k b h1 h2).2⟩⟩)⟩
        all_goals simp only [if_neg n3, if_neg naj]
        · exact hk
        · exact ai
      · simp only [if_neg n1, if_neg nai, if_neg n3, if_neg naj, hcomm]
theorem WO.xe {o : Oper} (hg : o.guard = none) {st st1 : St} {G : Gh} {tmps : Array Value} {w : World} {Q' : Exit → Act → World → Prop} (h : WO P C n ops (fun e st => e = .normal ∧ st = st1) [o] st) (hs : aV C n st G tmps w) :
    o.wp P ⟨tmps, []⟩ w (fun act w => act.defers = [] ∧ ∃ G, aV C n st1 G act.tmps w) Q' := by
  have hw : Region.wanted o (yielded ops tmps) = true := by simp [Region.wanted, hg]
  have h := h tmps w ⟨G, hs⟩
  simp only [gN, hw, if_true] at h
  refine Oper.sd (fun c a w hq => ?_) (fun hl => ?_) (fun act2 w2 hq => ?_) h
  · obtain ⟨_, st', _, he, _⟩ := hq
    cases he
  · obtain ⟨_, _, hq⟩ := hl
    obtain ⟨_, st', _, he, _⟩ := hq
    cases he
  · obtain ⟨hdf, st', ⟨G', hs2⟩, _, rfl⟩ := hq
    exact ⟨hdf, G', hs2⟩
theorem sm {bx : List (Nat × List A)} {lv : List Nat} {gen : Nat} {φ : c9} {G : Gh} {tmps : Array Value} {w : World} (hs : dP C n bx lv gen φ G tmps w) (t : Nat) (x : A) (hx : φ t = some x) : t < n := by
  obtain ⟨v, h1, _⟩ := hs.2 t x hx
  have := (Array.getElem?_eq_some_iff.1 h1).1
  rw [hs.1.size] at this
  exact this
theorem qS {φ : c9} {p : List (Nat × A)} (hlt : ∀ t x, φ t = some x → t < n) (hp : ∀ t x, look p t = some x → φ t = some x) (t : Nat) : look (p ++ ez n φ) t = φ t := by
  rw [qY]
  cases q : look p t with
  | some x => exact (hp t x q).symm
  | none =>
    simp only
    unfold ez
    rw [kD]
    cases e : φ t with
    | none => split <;> rfl
    | some x => rw [if_pos (List.mem_range.2 (hlt t x e))]
theorem pV {φ : c9} {f : List (Nat × A)} (h : ∀ t, look f t = φ t) {d : Nat} {a : A} {t : Nat} : look ((d, a) :: f) t = bC φ (some d) a t := by
  rw [bp]
  simp only [bC]
  by_cases e : t = d
  · subst e
    rw [if_pos rfl, if_pos rfl]
  · rw [if_neg e, if_neg (Ne.symm e), h]
def u3 (S : iH) (nb k : Nat) : Prop := (j8 (S.ord k) (S.gen k) nb = true ∧ pos (S.ord k) (S.gen k) = some S.g0) ∧ jo (S.ord k) ((S.gen k, S.z) :: S.bxF k) (S.bxT k) ∧ qm (S.ord k) (S.lv k) (S.lv k) = true
def oA (S : iH) (nb : Nat) : Nat → Prop
  | 0 => u3 S nb 0
  | k + 1 => u3 S nb (k + 1) ∧ s7 (S.ord k) (S.ord (k + 1)) = true ∧ oA S nb k
theorem oA.at {nb : Nat} : ∀ {m : Nat}, oA S nb m → ∀ k, k ≤ m → u3 S nb k
  | 0, h, k, hk => by obtain rfl : k = 0 := by omega
                      exact h
  | m + 1, h, k, hk => by
    rcases Nat.lt_or_ge k (m + 1) with hlt | hge
    · exact oA.at h.2.2 k (by omega)
    · obtain rfl : k = m + 1 := by omega
      exact h.1
theorem oA.mono {nb : Nat} : ∀ {m : Nat}, oA S nb m → ∀ k, k < m → s7 (S.ord k) (S.ord (k + 1)) = true
  | 0, _, k, hk => absurd hk (Nat.not_lt_zero _)
  | m + 1, h, k, hk => by
    rcases Nat.lt_or_ge k m with hlt | hge
    · exact oA.mono h.2.2 k hlt
    · obtain rfl : k = m := by omega
      exact h.2.1
theorem w5 {nb : Nat} [hnb : NB C nb] (b0 : Bool) (hok : b0 = false → oA S nb S.cs.length) (i : Nat) (a : A) (σ : SD) (act : Act) (w : World) (K : Act → World → Prop) {Q' : Exit → Act → World → Prop} (hs : wQ C n S b0 σ act w) (hy : YD P T C n S ops i a σ) (hK : ∀ act w, wQ C n S b0 (sn S ops i a σ) act w → K act w) : wpOp P ops Q' i K act w := by
  obtain ⟨tmps, dfs⟩ := act
  obtain ⟨hb0, rfl, G, hs, hfix⟩ := hs
  obtain ⟨φ, k, ph⟩ := σ
  obtain ⟨o, ho, hd, hkl, hal, hy⟩ := hy
  rw [k9 ho] at hK
  simp only at hs hfix hkl hal hy hK hb0
  unfold wpOp
  simp only [ho]
  rcases hy with ⟨hc, nal, hx, hr⟩ | ⟨nc, hal', rfl, hg, rfl, e, d, dt, hop, hdst, he, hz⟩ | ⟨nc, nal, hya⟩
  · obtain ⟨hg, p, hp, hx⟩ := hx ph hal
    rw [if_pos hc, if_neg nal] at hK
    have hw : Region.wanted o (yielded ops tmps) = true := by simp [Region.wanted, hg]
    rw [hw, if_pos rfl]
    refine .inl ?_
    have hlook := qS (sm hs) (fun t x hx => (hp t x hx).1)
    have hs' := hs.kr (f := p ++ ez n φ) fun t x hx => by rw [← hlook]; exact hx
    refine Oper.wp_mono (fun act2 w2 ⟨hdf, G', hs2⟩ => hK act2 w2 ⟨hb0, hdf, G', ?_, fun hph t x hx => ?_⟩) (WO.xe hg (hx (ez n φ)) hs')
    · show dP C n (S.bx (k + 1) ph) (S.lv (k + 1)) (S.gen (k + 1)) (bC φ o.dst a) G' act2.tmps w2
      cases hdst : o.dst with
      | none =>
        rw [hdst] at hs2
        refine ⟨{ hs2 with frame := fun t a ha => by simp [look] at ha }, fun t x hx => hs2.frame t x ?_⟩
        show look (p ++ ez n φ) t = some x
        rw [hlook]
        exact hx
      | some d =>
        rw [hdst] at hs2
        refine ⟨{ hs2 with frame := fun t a ha => by simp [look] at ha }, fun t x hx => hs2.frame t x ?_⟩
        show look ((d, a) :: (p ++ ez n φ)) t = some x
        rw [pV hlook]
        exact hx
    · simp only at hph hx
      have hbf : b0 = false := by cases b0 with | false => rfl | true => rw [hb0 rfl] at hph; cases hph
      have hm := sY ((hok hbf).mono k (List.getElem?_eq_some_iff.1 hc).1)
      cases hdst : o.dst with
      | none => rw [hdst] at hx; exact pw hm x (hfix hph t x hx)
      | some d =>
        rw [hdst] at hx
        simp only [bC] at hx
        split at hx
        · cases hx; exact hr (by rw [← hph]; exact hal)
        · exact pw hm x (hfix hph t x hx)
  · have hkc : ¬ S.cs[k]? = some i := fun h => nc (List.mem_of_getElem? h)
    rw [if_neg hkc, if_pos hal'] at hK
    have hw : Region.wanted o (yielded ops tmps) = true := by simp [Region.wanted, hg]
    rw [hw, if_pos rfl]
    refine .inl ?_
    have hbf : b0 = false := by cases b0 with | false => rfl | true => cases hb0 rfl
    obtain ⟨⟨hO, hpos⟩, hBR, hLR⟩ := (hok hbf).at k hkl
    have hlook : ∀ t, look (ez n φ) t = φ t := qS (p := []) (sm hs) (fun t x hx => by simp [look] at hx)
    have hs' := hs.kr (f := ez n φ) fun t x hx => by rw [← hlook]; exact hx
    have hwo : WO P C n ops (fun e st => e = .normal ∧ st = St.put ⟨ez n φ, (S.gen k, S.z) :: S.bx k false, S.lv k, S.gen k + 1⟩ o.dst (.ptr (S.gen k) 0)) [o] ⟨ez n φ, S.bx k false, S.lv k, S.gen k⟩ :=
      WO.alloc T hg hd hop he (WO.nil ⟨rfl, by rw [hz]⟩)
    refine Oper.wp_mono (fun act2 w2 ⟨hdf, G', hs2⟩ => hK act2 w2 ⟨fun _ => rfl, hdf, lG (S.ord k) G', ?_, fun h => by cases h⟩) (WO.xe hg hwo hs')
    simp only [j8, Bool.and_eq_true] at hO
    obtain ⟨⟨hO1, hO2⟩, hO3⟩ := hO
    rw [hdst] at hs2 ⊢
    have h3 : aV C n ⟨(d, .ptr S.g0 0) :: ez n φ, S.bxT k, S.lv k, S.gen k⟩ (lG (S.ord k) G') act2.tmps w2 := by
      refine aV.bF (gen' := S.gen k) hs2 (S.ord k) (ja hO1) (Nat.le_of_ble_eq_true hO2) (fun i hi => ?_) (fun t x hx => ?_) (fun i l' hl' => ?_) (fun i hi => ?_)
      · have h4 := mI hO3 i (by rw [← hnb.h]; exact hi)
        simpa using h4
      · rw [bp] at hx
        show ∃ a, look ((d, .ptr (S.gen k) 0) :: ez n φ) t = some a ∧ bF (S.ord k) a = x
        rw [bp]
        split at hx
        · rename_i e
          rw [if_pos e]
          cases hx
          exact ⟨_, rfl, by simp only [bF, hpos]⟩
        · rename_i e
          rw [if_neg e]
          rw [hlook] at hx ⊢
          exact ⟨x, hx, hfix rfl t x hx⟩
      · exact jo.le hBR i l' hl'
      · exact pC hLR i hi
    refine ⟨{ h3 with frame := fun t a ha => by simp [look] at ha }, fun t x hx => h3.frame t x ?_⟩
    show look ((d, _) :: ez n φ) t = some x
    rw [pV hlook]
    exact hx
  · have hkc : ¬ S.cs[k]? = some i := fun h => nc (List.mem_of_getElem? h)
    rw [if_neg hkc, if_neg nal] at hK
    obtain ⟨hya, hr⟩ := hya k ph hkl hal
    have hfix' : ph = false → ∀ t x, bC φ o.dst a t = some x → bF (S.ord k) x = x := fun hph t x hx => by
      cases hdst : o.dst with
      | none => rw [hdst] at hx; exact hfix hph t x hx
      | some d =>
        rw [hdst] at hx
        simp only [bC] at hx
        split at hx
        · cases hx; exact hr hph
        · exact hfix hph t x hx
    obtain ⟨_, ⟨hw, f, hf, hp⟩ | ⟨hw, rfl⟩⟩ := hya
    · rw [fB hs hw]
      simp only [if_true]
      refine .inl ?_
      have hg : dr P o ⟨tmps, []⟩ w fun v w' => Below w.heap.size w w' ∧ aX (aJ C G (S.gen k) w') v a := hp G tmps w (hs.kr fun t x hx => (hf t x hx).1)
      refine hg.wp fun v w' ⟨hb, hr⟩ => ?_
      rw [Act.put_eq]
      exact hK _ _ ⟨hb0, rfl, G, hs.step hb hd hr, hfix'⟩
    · rw [fB hs hw]
      simp only [Bool.false_eq_true, if_false]
      rw [Act.put_eq]
      exact hK _ _ ⟨hb0, rfl, G, hs.step (Below.refl _ _) hd (.tup #[] [] rfl (by simp)), hfix'⟩
def CD (P : Program) (T : cw P) (C : Ctx) (n : Nat) (S : iH) (ops : Array Oper) (Q : St → Prop) (l : List Oper) (i : Nat) (f : List (Nat × A)) (k : Nat) (b : Bool) : Prop :=
  tK (YD P T C n S ops) (sn S ops) (fun σ => ∃ f', (∀ t, look f' t = σ.1 t) ∧ σ.2 = (S.cs.length, true) ∧ Q ⟨f', S.bxT S.cs.length, S.lv S.cs.length, S.gen S.cs.length⟩) l i (look f, k, b)
def mM (ops : Array Oper) : List Nat → Bool
  | c :: c' :: r => cI .any ops ops.size c' c && mM ops (c' :: r)
  | _ => true
theorem nq {ops : Array Oper} : ∀ {cs : List Nat}, mM ops cs = true → ∀ k c c', cs[k]? = some c → cs[k + 1]? = some c' → cI .any ops ops.size c' c = true
  | [], _, k, c, c', h, _ => by simp at h
  | [_], _, k, c, c', _, h => by simp at h
  | x :: y :: r, h, k, c, c', h1, h2 => by
    simp only [mM, Bool.and_eq_true] at h
    cases k with
    | zero =>
      simp at h1 h2
      subst h1; subst h2
      exact h.1
    | succ k => exact nq h.2 k c c' (by simpa using h1) (by simpa using h2)
def od (o : List Nat) : List (Nat × A) → Prop
  | [] => True
  | (_, a) :: r => bF o a = a ∧ od o r
theorem od.at {o : List Nat} : ∀ {f : List (Nat × A)}, od o f → ∀ t a, look f t = some a → bF o a = a
  | [], _, t, a, h => by simp [look] at h
  | (s, x) :: r, hf, t, a, h => by
    rw [bp] at h
    split at h
    · cases h; exact hf.1
    · exact hf.2.at t a h
theorem W.rG (T : cw P) {nb : Nat} [hnb : NB C nb] {id : Nat} {l l1 l2 : List Oper} {f : List (Nat × A)} {bx : List (Nat × List A)} {lv : List Nat} {gen : Nat} {Q : Exit → St → Prop} (S : iH) (b0 : Bool) (m : Nat) (hB : jt m l.toArray = true) (hch : mM l.toArray S.cs = true) (h1 : l.take m = l1) (h2 : l.drop m = l2)
    (hok : b0 = false → oA S nb S.cs.length ∧ od (S.ord 0) f) (e1 : ∀ g c, aA (S.bx 0 b0) g = some c → aA bx g = some c) (e2 : S.lv 0 = lv) (e3 : Nat.ble gen (S.gen 0) = true)
    (h : CD P T C n S l.toArray (WO P C n l.toArray Q l2) l1 0 f 0 b0) : W P C n (.region id l.toArray true) Q ⟨f, bx, lv, gen⟩ := by
  subst h1; subst h2; subst e2
  intro tmps w ⟨G, hs⟩
  have hs : aV C n ⟨f, bx, S.lv 0, S.gen 0⟩ G tmps w := aV.vV hs (g := S.gen 0) (Nat.le_of_ble_eq_true e3)
  have hs : aV C n ⟨f, S.bx 0 b0, S.lv 0, S.gen 0⟩ G tmps w := { hs with box := fun g c hc => hs.box g c (e1 g c hc) }
  simp only [jt, Bool.and_eq_true] at hB
  obtain ⟨⟨⟨hm, hw⟩, hfore⟩, hlex⟩ := hB
  have hm : m ≤ l.length := by simpa using Nat.le_of_ble_eq_true hm
  have hb : Below w.heap.size w { w with drawn := w.drawn + 1 } := (Below.refl _ w).drew
  have hs' : dP C n (S.bx 0 b0) (S.lv 0) (S.gen 0) (look f) G tmps { w with drawn := w.drawn + 1 } := dP.tx (hs.iL hb).2
  have hlen : (l.take m).length = m := by simp; omega
  refine wp_region_any T.mixed ?_
  have hsz : l.toArray.size = (l.take m).length + (l.drop m).length := by simp; omega
  rw [hsz]
  have hcl : eG .any l.toArray (Array.replicate ((l.take m).length + (l.drop m).length) false) := fun j oj _ hl _ _ _ => by
    by_cases q : j < (l.take m).length + (l.drop m).length
    · simp only [Array.getD_eq_getD_getElem?, Array.getElem?_replicate] at hl
      rw [if_pos q] at hl
      cases hl
    · simp only [Array.getD_eq_getD_getElem?, Array.getElem?_replicate] at hl
      rw [if_neg q] at hl
      cases hl
  refine lz (m := m) (Sm := wQ C n S b0) (Y := YD P T C n S l.toArray) (ef := sn S l.toArray) (Q := fun σ => ∃ f', (∀ t, look f' t = σ.1 t) ∧ σ.2 = (S.cs.length, true) ∧ WO P C n l.toArray Q (l.drop m) ⟨f', S.bxT S.cs.length, S.lv S.cs.length, S.gen S.cs.length⟩)
    (fun i e σ act w K hs hy hk => w5 b0 (fun h => (hok h).1) i e σ act w K hs hy hk) (fun listed σ act w hs hc hsp ⟨f', e1, e2, hq⟩ => ?_) _ _ (look f, 0, b0) ⟨tmps, []⟩ _ ⟨fun h => h, rfl, G, hs', fun h => (hok h).2.at⟩ hcl ?_
  · obtain ⟨tmps, dfs⟩ := act
    obtain ⟨_, rfl, G, hs, _⟩ := hs
    rw [e2] at hs
    refine kT hw (lT hfore) (l.drop m) m listed ⟨tmps, []⟩ w (Nat.le_refl _) (by simp; omega) (fun j => by simp [List.getElem?_drop]) hc hsp.1 hsp.2.1 hsp.2.2 ?_
    exact hq tmps w ⟨G, hs.kr (fun t a ha => by rw [← e1]; exact ha)⟩
  · refine rb hw (fun i j oi oj hi hj hij him hjm hap hno => xC (nq hch) hi hj hij hap hno) (l.take m) 0 _ _ (by rw [hlen]; omega) (fun j hj => ?_) hcl (by simp; omega) (fun j hj => by omega) (fun j _ hj => ?_) (by rw [hlen]; rw [hsz, hlen] at hlex; exact hlex) h
    · rw [hlen] at hj
      rw [Nat.zero_add]
      simp [List.getElem?_take, hj]
    · have hj' : j < l.length := by simpa using hj
      have e : min m l.length + (l.length - m) = l.length := by omega
      simp [e, hj']
variable {op : Op} {ty : TypeId} {pos : String} {af : Array Edge} {a : A} {d i k : Nat} {rest : List Oper} {f : List (Nat × A)} {Q : St → Prop} {b : Bool}
theorem CD.nil (h : Q ⟨f, S.bxT S.cs.length, S.lv S.cs.length, S.gen S.cs.length⟩) (hk : Nat.beq k S.cs.length = true) : CD P T C n S ops Q [] i f k true := by
  have := Nat.eq_of_beq_eq_true hk
  subst this
  exact ⟨f, fun _ => rfl, rfl, h⟩
def rq (p : Nat → Bool → Prop) : Nat → Prop
  | 0 => p 0 false ∧ p 0 true
  | k + 1 => p (k + 1) false ∧ p (k + 1) true ∧ rq p k
theorem rq.at {p : Nat → Bool → Prop} : ∀ {m : Nat}, rq p m → ∀ k b, k ≤ m → p k b
  | 0, h, k, b, hk => by
    obtain rfl : k = 0 := by omega
    cases b
    · exact h.1
    · exact h.2
  | m + 1, h, k, b, hk => by
    rcases Nat.lt_or_ge k (m + 1) with hlt | hge
    · exact h.2.2.at k b (by omega)
    · obtain rfl : k = m + 1 := by omega
      cases b
      · exact h.1
      · exact h.2.1
def sP (x : Nat) (l : List Nat) : Bool := l.any fun y => Nat.beq x y
theorem vr {x : Nat} {l : List Nat} (h : sP x l = false) : x ∉ l := fun hm => by
  have : sP x l = true := List.any_eq_true.2 ⟨x, hm, by simp⟩
  rw [h] at this
  cases this
theorem x3 (hp : rq (fun k b => gp S ops i k b = true → Pu P C n ⟨cA f (slotsOf op), S.bx k b, S.lv k, S.gen k⟩ ⟨some d, op, ty, pos, af, none⟩ a ∧ (b = false → bF (S.ord k) a = a)) S.cs.length)
    (hi : ops[i]? = some ⟨some d, op, ty, pos, af, none⟩) (h1 : sP i S.cs = false) (h2 : Nat.beq i S.al = false) (h3 : (Nat.ble k S.cs.length && gp S ops i k b) = true) (hd : Nat.blt d n = true)
    (h : CD P T C n S ops Q rest (i + 1) ((d, a) :: f) k b) : CD P T C n S ops Q (⟨some d, op, ty, pos, af, none⟩ :: rest) i f k b := by
  simp only [Bool.and_eq_true] at h3
  have nc := vr h1
  have na : i ≠ S.al := fun e => by subst e; simp at h2
  refine ⟨a, ⟨_, hi, hd, Nat.le_of_ble_eq_true h3.1, h3.2, .inr (.inr ⟨nc, na, fun k b hk ha => ⟨YA.qq (hp.at k b hk ha).1 hd, (hp.at k b hk ha).2⟩⟩)⟩, ?_⟩
  rw [k9 hi]
  simp only [if_neg na, if_neg (fun e => nc (List.mem_of_getElem? e) : ¬ S.cs[k]? = some i)]
  unfold CD at h
  rw [eH] at h
  exact h
theorem aU (h0 : Pu P C n ⟨cA f (slotsOf op), S.bx k b, S.lv k, S.gen k⟩ ⟨some d, op, ty, pos, af, none⟩ a) (hp : rq (fun k b => gp S ops i k b = true → Pu P C n ⟨cA f (slotsOf op), S.bx k b, S.lv k, S.gen k⟩ ⟨some d, op, ty, pos, af, none⟩ a ∧ (b = false → bF (S.ord k) a = a)) S.cs.length)
    (hi : ops[i]? = some ⟨some d, op, ty, pos, af, none⟩) (h1 : sP i S.cs = false) (h2 : Nat.beq i S.al = false) (h3 : (Nat.ble k S.cs.length && gp S ops i k b) = true) (hd : Nat.blt d n = true)
    (h : CD P T C n S ops Q rest (i + 1) ((d, a) :: f) k b) : CD P T C n S ops Q (⟨some d, op, ty, pos, af, none⟩ :: rest) i f k b := x3 hp hi h1 h2 h3 hd h
theorem kH (hx : ∀ b, gp S ops i k b = true → ∀ g, WO P C n ops (fun e st => e = .normal ∧ st = ⟨(d, a) :: (cA f (slotsOf op) ++ g), S.bx (k + 1) b, S.lv (k + 1), S.gen (k + 1)⟩) [⟨some d, op, ty, pos, af, none⟩] ⟨cA f (slotsOf op) ++ g, S.bx k b, S.lv k, S.gen k⟩)
    (hi : ops[i]? = some ⟨some d, op, ty, pos, af, none⟩) (h1 : S.cs[k]? = some i) (h2 : Nat.beq i S.al = false) (h3 : gp S ops i k b = true) (hr : gp S ops i k false = true → bF (S.ord (k + 1)) a = a) (hd : Nat.blt d n = true) (h : CD P T C n S ops Q rest (i + 1) ((d, a) :: f) (k + 1) b) : CD P T C n S ops Q (⟨some d, op, ty, pos, af, none⟩ :: rest) i f k b := by
  have na : i ≠ S.al := fun e => by subst e; simp at h2
  refine ⟨a, ⟨_, hi, hd, Nat.le_of_lt (List.getElem?_eq_some_iff.1 h1).1, h3, .inl ⟨h1, na, fun b hb => ⟨rfl, cA f (slotsOf op), fun t x hx => ?_, fun g => hx b hb g⟩, hr⟩⟩, ?_⟩
  · obtain ⟨h1, h2⟩ := dV hx
    exact ⟨h1, List.mem_append.2 (.inl h2)⟩
  · rw [k9 hi]
    simp only [if_neg na, if_pos h1]
    unfold CD at h
    rw [eH] at h
    exact h
theorem W.fq (T : cw P) {nb : Nat} [hnb : NB C nb] {id : Nat} {l l1 l2 : List Oper} {f : List (Nat × A)} {bx : List (Nat × List A)} {lv : List Nat} {gen : Nat} {Q : Exit → St → Prop} (iV : List (List (Nat × List A))) (lvs : List (List Nat)) (gens : List Nat) (cs : List Nat) (m : Nat) (hB : jt m l.toArray = true) (hch : mM l.toArray cs = true) (h1 : l.take m = l1) (h2 : l.drop m = l2)
    (h : CD P T C n (xx (bx :: iV) (lv :: lvs) (gen :: gens) cs l.length) l.toArray (WO P C n l.toArray Q l2) l1 0 f 0 true) : W P C n (.region id l.toArray true) Q ⟨f, bx, lv, gen⟩ :=
  W.rG T (xx (bx :: iV) (lv :: lvs) (gen :: gens) cs l.length) true m hB hch h1 h2 (fun h => by cases h) (fun _ _ h => h) rfl (by show Nat.ble gen gen = true; simp) h
end
end Go.Ab
namespace Go.Ab
theorem iI {e e' : Exit} {d : Nat} {a a' : A} {f : List (Nat × A)} {bx bx' : List (Nat × List A)} {lv lv' : List Nat} {gen gen' : Nat} (he : e = e') (ha : a = a') (hb : bx = bx') (hl : lv = lv') (hg : gen = gen') :
    e = e' ∧ (⟨(d, a) :: f, bx, lv, gen⟩ : St) = ⟨(d, a') :: f, bx', lv', gen'⟩ := by subst he ha hb hl hg; exact ⟨rfl, rfl⟩
end Go.Ab
namespace Go.Ab
open Go.RowKit
def bc (es : List (List D)) (k : Nat) : List A := es.flatten.map A.d ++ List.replicate k .any
section
variable {C : Ctx} {n : Nat} {st : St} {G : Gh} {tmps : Array Value} {w : World}
theorem iZ {sz : Nat} : ∀ {es : List (List D)}, (∀ (e : List D), e ∈ es → e.length = sz) → es.flatten.length = es.length * sz
  | [], _ => by simp
  | e :: es, h => by rw [List.flatten_cons, List.length_append, iZ (fun x hx => h x (List.mem_cons_of_mem _ hx)), h e List.mem_cons_self, List.length_cons, Nat.succ_mul, Nat.add_comm]
theorem aV.w4 (h : aV C n st G tmps w) {g b len cap sz : Nat} (hg : G.own g = some (.blk b len cap sz 0)) {es : List (List D)} {v : Value} (hx : fZ w (bD C G) (.blk b len cap sz 0) v es) (lv : List Nat) (hlv : ∀ g' ∈ lv, g' ∈ st.lv ∧ g' ≠ g) :
    ∃ G', aV C n ⟨st.f, (st.gen, bc es (cap * sz - len * sz)) :: st.bx, lv, st.gen + 1⟩ G' tmps w ∧ aX (aJ C G' (st.gen + 1) w) v (.sb st.gen es.length cap) := by
  obtain ⟨rfl, hlen, _, hl, hr⟩ := hx
  obtain ⟨hmine, hnb, huniq, cur, T, hcur, hcs, hlc, hcm, hz, hpos, _, hone⟩ := h.row g b len cap sz 0 hg
  let G' : Gh := ⟨fun x => if x = st.gen then some b else G.box x, fun x => if x = g then none else G.own x⟩
  have hgl := h.gown g _ hg
  have hblt : b < w.heap.size := (Array.getElem?_eq_some_iff.1 hcur).1
  have hpv : ∀ b' o, bD C G' b' o → bD C G b' o := by
    rintro b' o (hp | ⟨g', hp⟩ | ⟨g', len', cap', sz', pub', hp, hl'⟩)
    · exact .inl hp
    · simp only [G'] at hp
      split at hp
      · simp only [Option.some.injEq] at hp
        subst hp
        exact .inr (.inr ⟨g, len, cap, sz, 0, hg, Nat.zero_le _⟩)
      · exact .inr (.inl ⟨g', hp⟩)
    · simp only [G'] at hp
      split at hp
      · cases hp
      · exact .inr (.inr ⟨g', len', cap', sz', pub', hp, hl'⟩)
  have hle : (aJ C G st.gen w).le (aJ C G' (st.gen + 1) w) := lN h.fr h.fr (fun b o u hu hn => ⟨hu, fun hp => hn (hpv b o hp)⟩) (fun g' b' hb' => by
      simp only [G']
      rw [if_neg (Nat.ne_of_lt (h.gbox g' b' hb').1)]
      exact hb')
    (fun g' r' hg' hr' => by
      simp only [G'] at hr'
      split at hr'
      · cases hr'
      · exact hr') (Nat.le_succ _) (fun _ _ _ _ _ _ _ _ => rfl) (fun _ _ _ _ => rfl) (.refl w)
  have hfl := iZ hl
  have hsub : len * sz ≤ cap * sz := Nat.mul_le_mul_right _ hlc
  refine ⟨G', { size := h.size, frame := h.eA hle, xold := h.xold, kold := h.kold, fr := h.fr, lent := ?_, box := ?_, gbox := ?_, inj := ?_, live := ?_, gown := ?_, row := ?_, mrow := ?_ }, ?_⟩
  · intro g' cells hc
    simp only [bW] at hc
    split at hc
    · rename_i e
      simp only [Option.some.injEq] at hc
      subst hc
      subst e
      refine ⟨b, cur, T, by simp [G'], hcur, ?_, fun i u hu => hone i u hu, fun i u a hu ha => ?_⟩
      · simp only [bc, List.length_append, List.length_map, List.length_replicate, hfl, hlen]; omega
      · unfold bc at ha
        rcases Nat.lt_or_ge i es.flatten.length with hi | hi
        · rw [List.getElem?_append_left (by rw [List.length_map]; exact hi), List.getElem?_map, Option.map_eq_some_iff] at ha
          obtain ⟨d, hd, rfl⟩ := ha
          have hi2 : i < len * sz := by rw [← hlen, ← hfl]; exact hi
          have hdiv : i / sz < es.length := by rw [hlen]; exact Nat.div_lt_of_lt_mul (by rw [Nat.mul_comm]; exact hi2)
          have he : es[i / sz]? = some es[i / sz] := by simp [hdiv]
          have hel := hl _ (List.mem_of_getElem? he)
          have hdd : es[i / sz][i % sz]? = some (es[i / sz][i % sz]'(by rw [hel]; exact Nat.mod_lt _ hz)) := by simp
          have hfg := jj hl _ _ _ _ he hdd
          rw [Nat.div_add_mod' i sz, hd] at hfg
          obtain ⟨u', hu', hud⟩ := hr _ _ _ _ he hdd
          rw [Nat.div_add_mod' i sz, bX hcur] at hu'
          rw [hu] at hu'
          cases hu'
          rw [Option.some.inj hfg]
          exact .d (hud.mono hle.cell)
        · rw [List.getElem?_append_right (by rw [List.length_map]; exact hi)] at ha
          have := List.eq_of_mem_replicate (List.mem_of_getElem? ha)
          subst this
          exact .any _
    · obtain ⟨b', cs, T', h1, h2, h3, h4, h5⟩ := h.box g' cells hc
      exact ⟨b', cs, T', by simp only [G']; rw [if_neg (Nat.ne_of_lt (h.gbox g' b' h1).1)]; exact h1, h2, h3, h4, fun i u a hu ha => (h5 i u a hu ha).mono hle⟩
  · intro g' b' hb
    simp only [G'] at hb
    split at hb
    · rename_i e
      simp only [Option.some.injEq] at hb
      subst hb
      subst e
      exact ⟨Nat.lt_succ_self _, hblt, hmine⟩
    · obtain ⟨h1, h2⟩ := h.gbox g' b' hb
      exact ⟨Nat.lt_succ_of_lt h1, h2⟩
  · intro g1 g2 b' h1 h2
    simp only [G'] at h1 h2
    split at h1 <;> split at h2
    · simp_all
    · simp only [Option.some.injEq] at h1; subst h1; exact absurd h2 (hnb g2)
    · simp only [Option.some.injEq] at h2; subst h2; exact absurd h1 (hnb g1)
    · exact h.inj g1 g2 b' h1 h2
  · intro g' hg'
    obtain ⟨h1, h2⟩ := hlv g' hg'
    obtain ⟨r', hr'⟩ := h.live g' h1
    exact ⟨r', by simp only [G']; rw [if_neg h2]; exact hr'⟩
  · intro g' r' hr'
    simp only [G'] at hr'
    split at hr'
    · cases hr'
    · exact Nat.lt_succ_of_lt (h.gown g' r' hr')
  · intro g' b' len' cap' sz' pub' hr'
    simp only [G'] at hr'
    split at hr'
    · cases hr'
    · rename_i e2
      obtain ⟨h4, h5, h6, h7⟩ := h.row g' b' len' cap' sz' pub' hr'
      have hne : b' ≠ b := fun e => by subst e; exact e2 (huniq g' len' cap' sz' pub' hr')
      refine ⟨h4, fun g2 h2 => ?_, fun g2 bJ cap2 sz2 pub2 h2 => ?_, h7⟩
      · simp only [G'] at h2
        split at h2
        · simp only [Option.some.injEq] at h2; exact hne h2.symm
        · exact h5 g2 h2
      · simp only [G'] at h2
        split at h2
        · cases h2
        · exact h6 g2 bJ cap2 sz2 pub2 h2
  · intro g' b' hr'
    simp only [G'] at hr'
    split at hr'
    · cases hr'
    · obtain ⟨h4, h4b, h5, me, clock, h6⟩ := h.mrow g' b' hr'
      refine ⟨h4, fun g2 h2 => ?_, fun g2 h2 => ?_, me, clock, h6⟩
      · simp only [G'] at h2
        split at h2
        · simp only [Option.some.injEq] at h2; subst h2; rw [hcur] at h6; cases h6
        · exact h4b g2 h2
      · simp only [G'] at h2
        split at h2
        · cases h2
        · exact h5 g2 h2
  · intro i b' hb
    have h1 := h.lent i b' hb
    simp only [G']
    rw [if_neg (Nat.ne_of_lt (h.gbox i b' h1).1)]
    exact h1
  · exact .sb _ st.gen es.length cap b (Nat.lt_succ_self _) (by simp [aJ, G']) (by rw [hlen]; exact ⟨hlc, hcm⟩) (by rw [hlen])
end
section
variable {P : Program} (T : cw P) {C : Ctx} {n : Nat} {ops : Array Oper} {Q : Exit → St → Prop} {rest : List Oper}
variable {f : List (Nat × A)} {bx : List (Nat × List A)} {lv : List Nat} {gen : Nat} {d : Nat} {op : Op} {ty : TypeId} {pos : String} {af : Array Edge} {a : A} {dst : Option Nat} {c : Code}
theorem w8 (s : Nat) {g : Nat} {es : List (List D)} (hl : look f s = some (.xs g es)) (hgl : (lv.any fun h => Nat.beq h g) = true) (hsn : Nat.blt s n = true) (hp : 0 < es.length) {lv' : List Nat} (hlv : dM lv g = lv')
    (h : ∀ cap k, W P C n c Q ⟨(s, .sb gen es.length cap) :: f, (gen, bc es k) :: bx, lv', gen + 1⟩) : W P C n c Q ⟨f, bx, lv, gen⟩ := by
  subst hlv
  intro tmps w ⟨G, hs⟩
  obtain ⟨v, hv, hr⟩ := hs.frame _ _ hl
  obtain ⟨r, hgr⟩ := hs.live g (jv hgl)
  cases hr with
  | xs _ _ _ hgg h1 hrow =>
  have hx := hrow r hgr
  cases r with
  | nil => obtain ⟨_, rfl⟩ := hx; simp at hp
  | zero b => obtain ⟨_, rfl⟩ := hx; simp at hp
  | mp b => exact hx.elim
  | blk b len cap sz pub =>
    obtain rfl : pub = 0 := hx.2.2.1
    obtain ⟨G', hs', hv'⟩ := hs.w4 hgr hx (dM lv g) (fun g' hg' => e5 hg')
    refine h cap (cap * sz - len * sz) tmps w ⟨G', ?_⟩
    have := hs'.set (d := s) (Nat.le_of_ble_eq_true hsn) hv'
    rwa [hZ hv] at this
theorem xA {x : Operand} {t e : Nat} {td : cc} {g m cap : Nat} (hx : av f x = some (.sb g m cap)) (ht : aA T.l t = some td) (hk : td.k = .slice e) :
    Pu P C n ⟨f, bx, lv, gen⟩ ⟨dst, .call ⟨.builtin .len, #[x], #[t]⟩, ty, pos, af, none⟩ (.d (.v (.int .i64 m))) := by
  refine dY.pu fun G tmps w hs => ?_
  have hr := hs.av hx
  generalize hv : Act.eval ⟨tmps, []⟩ x = v at hr
  cases hr with
  | sb _ _ _ _ b hgg hb hn h2 =>
  refine ⟨.int .i64 m, ?_, .d (.v _ ?_)⟩
  · unfold execOp
    show Sem.run P (do let d ← resolve (Act.eval ⟨tmps, []⟩) ⟨.builtin .len, #[x], #[t]⟩ ty; invoke d.target d.args) w = _
    simp only [resolve, List.map_toArray, List.map_cons, List.map_nil, hv, h2, Sem.run_bind, Sem.run_pure, Result.andThen_ok, invoke, builtin, Builtin.len_]
    simp [run_underlying (T.ek ht hk), goInt]
    rfl
  · obtain ⟨h3, h4⟩ := hn
    simp only [maxLen] at h4
    simp [dd, IntKind.min, IntKind.max, IntKind.signed, IntKind.bits]
    omega
theorem bE {t e : Nat} {x ix : Operand} {td ed : cc} {g m cap : Nat} {k : IntKind} {i : Int} (hx : av f x = some (.sb g m cap)) (hi : av f ix = some (.d (.v (.int k i)))) (ht : aA T.l t = some td) (hk : td.k = .slice e) (he : aA T.l e = some ed)
    (h0 : 0 ≤ i) (hlt : i.toNat < m) {off : Nat} (ho : i.toNat * ed.n = off) : Pu P C n ⟨f, bx, lv, gen⟩ ⟨dst, .indexAddr t x ix, ty, pos, af, none⟩ (.ptr g off) := by
  subst ho
  refine dY.pu fun G tmps w hs => ?_
  have hu := T.ek ht hk
  have hrx := hs.av hx
  have hri := hs.av hi
  generalize hvi : Act.eval ⟨tmps, []⟩ ix = vi at hri
  cases hri with | d hri => cases hri with | v _ _ =>
  generalize hvx : Act.eval ⟨tmps, []⟩ x = vx at hrx
  cases hrx with
  | sb _ _ _ _ b hgg hb hn h2 =>
  refine ⟨.pointer (some ⟨b, i.toNat * ed.n, none⟩), ?_, .ptr _ g _ b hgg hb rfl⟩
  unfold execOp
  show Sem.run P _ w = .ok _ w
  have hc2 : 0 ≤ i ∧ i < (m : Int) := ⟨h0, by omega⟩
  simp only [hvi, hvx, h2, Instr.indexAt, asIntOf, Sem.run_bind, Sem.run_pure, Result.andThen_ok, run_underlying hu, hc2, and_self, if_true, T.sizeOf he]
  unfold Addr.add
  split
  · rename_i e; rw [e]
  · simp
theorem pU {es : List (List D)} {sz i k : Nat} {e : List D} (hl : ∀ (x : List D), x ∈ es → x.length = sz) (he : es[i]? = some e) : ∃ r, (bc es k).drop (i * sz) = e.map A.d ++ r := by
  have hi : i < es.length := (List.getElem?_eq_some_iff.1 he).1
  have h1 : es = es.take i ++ e :: es.drop (i + 1) := by
    have := List.drop_eq_getElem_cons hi
    rw [(List.getElem?_eq_some_iff.1 he).2] at this
    rw [← this, List.take_append_drop]
  have h2 : (es.take i).flatten.length = i * sz := by
    rw [iZ (sz := sz) (fun x hx => hl x (List.mem_of_mem_take hx)), List.length_take, Nat.min_eq_left (Nat.le_of_lt hi)]
  refine ⟨(es.drop (i + 1)).flatten.map A.d ++ List.replicate k .any, ?_⟩
  have e3 : bc es k = (es.take i).flatten.map A.d ++ (e.map A.d ++ ((es.drop (i + 1)).flatten.map A.d ++ List.replicate k .any)) := by
    unfold bc
    conv => lhs; rw [h1]
    simp [List.append_assoc]
  rw [e3, ← h2, ← List.length_map (f := A.d), List.drop_left]
theorem nR {es : List (List D)} {sz k : Nat} (hl : ∀ (x : List D), x ∈ es → x.length = sz) : (bc es k).length = es.length * sz + k := by
  unfold bc
  rw [List.length_append, List.length_map, iZ hl, List.length_replicate]
theorem rA {es : List (List D)} {sz i k : Nat} {e cs : List D} (hl : ∀ (x : List D), x ∈ es → x.length = sz) (he : es[i]? = some e) (hc : cs.length = sz) : setAt (bc es k) (i * sz) (cs.map A.d) = bc (es.set i cs) k := by
  have hi : i < es.length := (List.getElem?_eq_some_iff.1 he).1
  have h1 : es = es.take i ++ e :: es.drop (i + 1) := by
    have := List.drop_eq_getElem_cons hi
    rw [(List.getElem?_eq_some_iff.1 he).2] at this
    rw [← this, List.take_append_drop]
  have h2 : (es.take i).flatten.length = i * sz := by
    rw [iZ (sz := sz) (fun x hx => hl x (List.mem_of_mem_take hx)), List.length_take, Nat.min_eq_left (Nat.le_of_lt hi)]
  have h4 : e.length = sz := hl e (List.mem_of_getElem? he)
  have e3 : bc es k = (es.take i).flatten.map A.d ++ (e.map A.d ++ ((es.drop (i + 1)).flatten.map A.d ++ List.replicate k .any)) := by
    unfold bc
    conv => lhs; rw [h1]
    simp [List.append_assoc]
  have e4 : bc (es.set i cs) k = (es.take i).flatten.map A.d ++ (cs.map A.d ++ ((es.drop (i + 1)).flatten.map A.d ++ List.replicate k .any)) := by
    unfold bc
    rw [List.set_eq_take_append_cons_drop, if_pos hi]
    simp [List.append_assoc]
  unfold setAt
  have h5 : ((es.take i).flatten.map A.d).length = i * sz := by rw [List.length_map, h2]
  have h6 : (cs.map A.d).length = (e.map A.d).length := by rw [List.length_map, List.length_map, hc, h4]
  rw [e3, e4, ← h5, List.take_left, h6, ← List.drop_drop, List.drop_left, List.drop_left, List.append_assoc]
theorem et {t : Nat} {x : Operand} {td : cc} {g i k : Nat} {es : List (List D)} {e : List D} (hx : av f x = some (.ptr g (i * td.n))) (ht : aA T.l t = some td) (hk : td.k.agg = true) (hb : aA bx g = some (bc es k)) (hl : ∀ (x : List D), x ∈ es → x.length = td.n) (he : es[i]? = some e) :
    Pu P C n ⟨f, bx, lv, gen⟩ ⟨dst, .load t x, ty, pos, af, none⟩ (.ag e) := by
  refine dY.pu fun G tmps w hs => ?_
  obtain ⟨b, cs, T', h1, h2, h3, h4, h5⟩ := ij hs hb (hs.av hx)
  have hel := hl e (List.mem_of_getElem? he)
  obtain ⟨r, hr⟩ := pU (k := k) hl he
  have hcell : ∀ j y, e[j]? = some y → (bc es k)[i * td.n + j]? = some (.d y) := fun j y hj => by
    rw [← List.getElem?_drop, hr, List.getElem?_append_left (by rw [List.length_map]; exact (List.getElem?_eq_some_iff.1 hj).1), List.getElem?_map, hj]; rfl
  have hall : ∀ j y, e[j]? = some y → bm w (bD C G) (cs[i * td.n + j]?.getD default) y := fun j y hj => by
    have hc := hcell j y hj
    have hj' : i * td.n + j < cs.size := by rw [h3]; exact (List.getElem?_eq_some_iff.1 hc).1
    have e1 : cs[i * td.n + j]? = some cs[i * td.n + j] := by simp [hj']
    have := h5 _ _ _ e1 hc
    rw [e1]
    generalize cs[i * td.n + j] = u at this ⊢
    cases this with | d hd => exact hd
  obtain ⟨v, h6, h7⟩ := iE (E := aJ C G gen w) T (t := t) (a := .ag e) (b := b) (off := i * td.n) (u := fun j => cs[i * td.n + j]?.getD default) (l := e) (fun j hj => by
      have hc := hcell j e[j] (by simp [hj])
      have hj' : i * td.n + j < cs.size := by rw [h3]; exact (List.getElem?_eq_some_iff.1 hc).1
      have e1 : cs[i * td.n + j]? = some cs[i * td.n + j] := by simp [hj']
      show cellAt w b (i * td.n + j) = _
      rw [bX h2, e1]; rfl) hall (by unfold iC; rw [ht]; simp [hk, ← hel])
  refine ⟨v, ?_, h7⟩
  rw [gI rfl]
  show Sem.run P _ w = .ok _ w
  have h6' : (Instr.loadAt t (.pointer (some ⟨b, i * td.n, none⟩))).run P w = .ok v w := h6
  simp only [h1, Sem.run_bind, h6', Result.andThen_ok, Sem.run_pure]
theorem il {t : TypeId} {x y : Operand} {td : cc} {g i k : Nat} {es : List (List D)} {e cs : List D} (hx : av f x = some (.ptr g (i * td.n))) (ht : aA T.l t = some td) (hb : aA bx g = some (bc es k)) (ha : av f y = some (.ag cs)) (hl : ∀ (x : List D), x ∈ es → x.length = td.n) (he : es[i]? = some e)
    (hc : cs.length = td.n) (hz : Nat.blt 0 td.n = true) {es' : List (List D)} (hes : es.set i cs = es')
    (h : WO P C n ops Q rest ⟨f, (g, bc es' k) :: bx, lv, gen⟩) : WO P C n ops Q (⟨none, .store t x y, ty, pos, af, none⟩ :: rest) ⟨f, bx, lv, gen⟩ := by
  have hz := Nat.le_of_ble_eq_true hz
  have hi : i < es.length := (List.getElem?_eq_some_iff.1 he).1
  refine WO.store (st := ⟨f, bx, lv, gen⟩) T rfl rfl rfl hx hb ha (cs := cs.map A.d) rfl (by unfold cF; rw [ht]; simp [hc]) (by rw [List.length_map]; omega) ?_ ?_
  · apply Nat.ble_eq_true_of_le
    rw [List.length_map, hc, nR hl]
    have : (i + 1) * td.n ≤ es.length * td.n := Nat.mul_le_mul_right _ hi
    rw [Nat.succ_mul] at this
    omega
  · rw [rA hl he hc, hes]
    exact h
end
end Go.Ab
namespace Go.Tb
open Go.Ab
def a7 (r : List aM) (i : Nat) : aM := r.getD i dq
def cP (cols : List Col) (s : ByteArray) : Option Nat := cols.findIdx? fun x => decide (x.name = s)
def bM (cols : List Col) (s : ByteArray) : Nat := (cP cols s).getD 0
def wB : ByteArray := B #[98]
def dp (op : Int) (on : List ByteArray) (aa : ByteArray) : de := ⟨op, ⟨0, B #[], dq, []⟩, [], on, [], [], 0, aa⟩
def fR (op : Int) (on : List ByteArray) (a : bt) : CT := if bl a ≠ 0 then ([], bl a) else dB [] a.cols (dp op on (B #[]))
def dJ (op : Int) (on : List ByteArray) (a b : bt) : CT := if bl a ≠ 0 then ([], bl a) else if bl b ≠ 0 then ([], bl b) else dB [⟨wB, b⟩] a.cols (dp op on wB)
def fE : bt := ⟨[], []⟩
def eI : List bt → Int
  | [] => 0
  | t :: r => if bl t ≠ 0 then bl t else eI r
def fQ (op : Int) (on : List ByteArray) (l : List bt) : CT := if eI l ≠ 0 then ([], eI l) else
  dB (if 1 < l.length then [⟨wB, l.getD 1 fE⟩] else []) (l.getD 0 fE).cols (dp op on (if 1 < l.length then wB else B #[]))
theorem oK (op : Int) (on : List ByteArray) (a : bt) : fQ op on [a] = fR op on a := by
  unfold fQ fR
  by_cases h : bl a = 0 <;> simp [eI, h]
theorem og (op : Int) (on : List ByteArray) (a b : bt) : fQ op on [a, b] = dJ op on a b := by
  unfold fQ dJ
  by_cases h : bl a = 0 <;> by_cases h2 : bl b = 0 <;> simp [eI, h, h2]
theorem mu : ∀ {l : List bt}, eI l = 0 → ∀ t ∈ l, bl t = 0
  | [], _, t, ht => by cases ht
  | u :: r, h, t, ht => by
    simp only [eI] at h
    split at h
    · rename_i h1; exact absurd h h1
    · rename_i h1
      rcases List.mem_cons.1 ht with rfl | ht
      · simpa using h1
      · exact mu h t ht
theorem dH {t : bt} (h : bl t = 0) : t.cols.length ≤ 32 ∧ t.rows.length ≤ 20000 := by
  unfold bl at h
  split at h
  · cases h
  · omega
def cS (not : List ByteArray) : List Col → Nat → List Nat
  | [], _ => []
  | c :: r, i => if not.any (fun x => decide (c.name = x)) then cS not r (i + 1) else i :: cS not r (i + 1)
def bq (r : List aM) (at_ : List Nat) : List aM := at_.map (a7 r)
def ep (a b : List aM) : Bool := decide (a = b) && !(a.any fun x => decide (dq = x))
structure pJ where
  left : List Nat
  right : List Nat
  m0 : Nat
  m1 : Nat
  t0 : Nat
  t1 : Nat
  more : List Nat
def bY (r : List aM) (i j : Nat) : Bool := decide ((a7 r i).kind = 2) && (decide ((a7 r j).kind = 2) && decide ((a7 r i).n < (a7 r j).n))
def kK (o : pJ) (x y : List aM) : Int := if (a7 x o.m0).n < (a7 y o.t0).n then (a7 y o.t0).n else (a7 x o.m0).n
def lZ (o : pJ) (x y : List aM) : Int := if (a7 y o.t1).n < (a7 x o.m1).n then (a7 y o.t1).n else (a7 x o.m1).n
def fF (o : pJ) (x y : List aM) : Bool := bY y o.t0 o.t1 && (decide (kK o x y < lZ o x y) && ep (bq x o.left) (bq y o.right))
def jf (r : List aM) (i : Nat) (n : Int) : List aM := r.set i ⟨(a7 r i).kind, n, (a7 r i).s⟩
def nU (o : pJ) (x y : List aM) : List aM := jf (jf (x ++ bq y o.more) o.m0 (kK o x y)) o.m1 (lZ o x y)
def kv (o : pJ) (x : List aM) : List (List aM) → List (List aM) → Option (List (List aM))
  | [], out => some out
  | y :: r, out => if fF o x y = true then (if out.length = 20000 then none else kv o x r (out ++ [nU o x y])) else kv o x r out
def fJ (o : pJ) (bs : List (List aM)) : List (List aM) → List (List aM) → Option (List (List aM))
  | [], out => some out
  | x :: r, out => if bY x o.m0 o.m1 = true then (match kv o x bs out with | none => none | some o2 => fJ o bs r o2) else fJ o bs r out
def vY (a b : bt) (on : List ByteArray) : pJ :=
  ⟨on.map (bM a.cols), on.map (bM b.cols), bM a.cols aQ, bM a.cols bA, bM b.cols aQ, bM b.cols bA, cS (on ++ [aQ, bA]) b.cols 0⟩
def cC (a b : bt) (on : List ByteArray) : bt × Int :=
  if (dJ 7 on a b).2 ≠ 0 then (fE, (dJ 7 on a b).2) else
    match fJ (vY a b on) b.rows a.rows [] with
    | none => (fE, 7)
    | some rows => (⟨(dJ 7 on a b).1, rows⟩, 0)
structure vd (a b : bt) (on : List ByteArray) (spans : List ByteArray) : Prop where
  ga : bl a = 0
  gb : bl b = 0
  ons : ∀ s ∈ on, ∃ i j c d, cP a.cols s = some i ∧ cP b.cols s = some j ∧ a.cols[i]? = some c ∧ b.cols[j]? = some d ∧ c.type = d.type
  spa : ∀ s ∈ spans, ∃ i c, cP a.cols s = some i ∧ a.cols[i]? = some c ∧ c.type = 2
  spb : ∀ s ∈ spans, ∃ i c, cP b.cols s = some i ∧ b.cols[i]? = some c ∧ c.type = 2
  len : on.length ≤ 16
end Go.Tb
namespace Go.Ab
section
variable {P : Program} {C : Ctx} {n : Nat} {ops : Array Oper} {c : Nat}
variable {op : Op} {ty : TypeId} {pos : String} {af : Array Edge} {a : A} {d i : Nat} {rest l : List Oper} {f : List (Nat × A)} {Q : St → Prop} {ph : Bool} {dst : Option Nat}
variable {bx0 bx1 : List (Nat × List A)} {lv0 lv1 : List Nat} {gen0 gen1 : Nat}
theorem w9 {o : Oper} (hdst : o.dst = some d) (h0 : YA P C n bx0 lv0 gen0 ops o a (look f)) (h1 : YA P C n bx1 lv1 gen1 ops o a (look f)) (hi : ops[i]? = some o) (hc : Nat.beq i c = false) (b0 : bQ .any ops i c = false) (b1 : bQ .any ops c i = false)
    (h : CC P C n ⟨bx0, bx1, lv0, lv1, gen0, gen1⟩ ops c Q rest (i + 1) ((d, a) :: f) ph) : CC P C n ⟨bx0, bx1, lv0, lv1, gen0, gen1⟩ ops c Q (o :: rest) i f ph := by
  have hic : i ≠ c := fun e => by subst e; simp at hc
  refine ⟨a, ⟨_, hi, h0.1, .inr ⟨hic, fun _ => h0, fun _ => h1, fun _ => b0, fun _ => b1⟩⟩, ?_⟩
  rw [gJ hi, hdst]
  simp only [if_neg hic]
  unfold CC at h
  rw [eH] at h
  exact h
theorem mq {j e : Nat} {want : Bool} (hj : db ops j = some e) (hl : look f e = some (.d (.v (.bool want)))) (h1 : Pu P C n ⟨cA f (slotsOf op), bx1, lv1, gen1⟩ ⟨some d, op, ty, pos, af, none⟩ a) (h0 : Pu P C n ⟨cA f (slotsOf op), bx0, lv0, gen0⟩ ⟨some d, op, ty, pos, af, none⟩ a)
    (hi : ops[i]? = some ⟨some d, op, ty, pos, af, some (j, want)⟩) (hc : Nat.beq i c = false) (b0 : bQ .any ops i c = false) (b1 : bQ .any ops c i = false) (hd : Nat.blt d n = true)
    (h : CC P C n ⟨bx0, bx1, lv0, lv1, gen0, gen1⟩ ops c Q rest (i + 1) ((d, a) :: f) ph) : CC P C n ⟨bx0, bx1, lv0, lv1, gen0, gen1⟩ ops c Q (⟨some d, op, ty, pos, af, some (j, want)⟩ :: rest) i f ph := by
  have hf : ∀ t x, look (cA f (slotsOf op)) t = some x → look f t = some x ∧ t ∈ (⟨some d, op, ty, pos, af, some (j, want)⟩ : Oper).looksAt ops := fun t x hx => by
    obtain ⟨h1, h2⟩ := dV hx
    exact ⟨h1, List.mem_append.2 (.inl h2)⟩
  have hw : gz ops ⟨some d, op, ty, pos, af, some (j, want)⟩ (look f) true := ⟨e, _, hj, hl, .inl ⟨want, rfl, by simp⟩⟩
  exact w9 rfl ⟨hd, .inl ⟨hw, _, hf, h0⟩⟩ ⟨hd, .inl ⟨hw, _, hf, h1⟩⟩ hi hc b0 b1 h
theorem fy {j e : Nat} {want b : Bool} (hj : db ops j = some e) (hl : look f e = some (.d (.v (.bool b)))) (hb : (b == want) = false)
    (hi : ops[i]? = some ⟨some d, op, ty, pos, af, some (j, want)⟩) (hc : Nat.beq i c = false) (b0 : bQ .any ops i c = false) (b1 : bQ .any ops c i = false) (hd : Nat.blt d n = true)
    (h : CC P C n ⟨bx0, bx1, lv0, lv1, gen0, gen1⟩ ops c Q rest (i + 1) ((d, .tup []) :: f) ph) : CC P C n ⟨bx0, bx1, lv0, lv1, gen0, gen1⟩ ops c Q (⟨some d, op, ty, pos, af, some (j, want)⟩ :: rest) i f ph := by
  have hw : gz ops ⟨some d, op, ty, pos, af, some (j, want)⟩ (look f) false := ⟨e, _, hj, hl, .inl ⟨b, rfl, hb.symm⟩⟩
  exact w9 rfl ⟨hd, .inr ⟨hw, rfl⟩⟩ ⟨hd, .inr ⟨hw, rfl⟩⟩ hi hc b0 b1 h
theorem qV {dst : Option Nat} {j e : Nat} {want b : Bool} (hj : db ops j = some e) (hl : look f e = some (.d (.v (.bool b))))
    (ht : b = true → CC P C n ⟨bx0, bx1, lv0, lv1, gen0, gen1⟩ ops c Q (⟨dst, op, ty, pos, af, some (j, want)⟩ :: rest) i ((e, .d (.v (.bool true))) :: f) ph)
    (hf : b = false → CC P C n ⟨bx0, bx1, lv0, lv1, gen0, gen1⟩ ops c Q (⟨dst, op, ty, pos, af, some (j, want)⟩ :: rest) i ((e, .d (.v (.bool false))) :: f) ph) : CC P C n ⟨bx0, bx1, lv0, lv1, gen0, gen1⟩ ops c Q (⟨dst, op, ty, pos, af, some (j, want)⟩ :: rest) i f ph := by
  have key : ∀ c, b = c → look ((e, A.d (.v (.bool c))) :: f) = look f := by
    intro c hc
    subst hc
    funext t
    rw [bp]
    split
    · rename_i h; subst h; exact hl.symm
    · rfl
  cases b
  · have := hf rfl; unfold CC at *; rw [key false rfl] at this; exact this
  · have := ht rfl; unfold CC at *; rw [key true rfl] at this; exact this
end
end Go.Ab
namespace Go.Tb
open Go.Ab
theorem kN {cols : List Col} {s : ByteArray} {c : Col} (h : ba cols s = some c) : ∃ i, cP cols s = some i ∧ cols[i]? = some c ∧ c.name = s := by
  unfold ba at h
  rw [List.find?_eq_some_iff_getElem] at h
  obtain ⟨hp, i, hi, hc, hmin⟩ := h
  refine ⟨i, ?_, by rw [← hc]; simp, of_decide_eq_true hp⟩
  unfold cP
  rw [List.findIdx?_eq_some_iff_getElem]
  exact ⟨hi, by rw [hc]; exact hp, fun j hj => by have := hmin j hj; simpa using this⟩
theorem kY {cols : List Col} {s : ByteArray} (h : cU cols s = 0) : ∃ i c, cP cols s = some i ∧ cols[i]? = some c ∧ c.type = 2 := by
  unfold cU at h
  cases hf : ba cols s with
  | none => rw [hf] at h; exact absurd h (by decide)
  | some c =>
    rw [hf] at h
    obtain ⟨i, h1, h2, _⟩ := kN hf
    refine ⟨i, c, h1, h2, ?_⟩
    by_cases q : c.type = 2
    · exact q
    · simp [q] at h
theorem kx {cols : List Col} : ∀ {l : List ByteArray}, c7 cols l = 0 → ∀ s ∈ l, ∃ i c, cP cols s = some i ∧ cols[i]? = some c ∧ c.type = 2
  | [], _, s, hs => by cases hs
  | x :: r, h, s, hs => by
    simp only [c7] at h
    split at h
    · rename_i h1; exact absurd h h1
    · rename_i h1
      rcases List.mem_cons.1 hs with rfl | hs
      · exact kY (by simpa using h1)
      · exact kx h s hs
theorem n9 {a b : List Col} : ∀ {l : List ByteArray}, eo a b l = 0 → ∀ s ∈ l, ∃ i j c d, cP a s = some i ∧ cP b s = some j ∧ a[i]? = some c ∧ b[j]? = some d ∧ c.type = d.type
  | [], _, s, hs => by cases hs
  | x :: r, h, s, hs => by
    simp only [eo] at h
    cases h1 : ba a x with
    | none => rw [h1] at h; cases h
    | some c =>
      cases h2 : ba b x with
      | none => rw [h1, h2] at h; cases h
      | some d =>
        rw [h1, h2] at h
        dsimp only at h
        split at h
        · cases h
        · rename_i h3
          rcases List.mem_cons.1 hs with rfl | hs
          · obtain ⟨i, p1, p2, _⟩ := kN h1
            obtain ⟨j, q1, q2, _⟩ := kN h2
            exact ⟨i, j, c, d, p1, q1, p2, q2, by simpa using h3⟩
          · exact n9 h s hs
theorem oo {cols : List Col} : ∀ {l : List ByteArray} {out : List Col}, (bw cols out l).2 = 0 → ∀ s ∈ l, ∃ i c, cP cols s = some i ∧ cols[i]? = some c
  | [], _, _, s, hs => by cases hs
  | x :: r, out, h, s, hs => by
    simp only [bw] at h
    cases h1 : ba cols x with
    | none => rw [h1] at h; cases h
    | some c =>
      rw [h1] at h
      rcases List.mem_cons.1 hs with rfl | hs
      · obtain ⟨i, p1, p2, _⟩ := kN h1
        exact ⟨i, c, p1, p2⟩
      · exact oo h s hs
theorem lf {l : List ByteArray} {m : Int} (h : cZ l m = 0) : l.length ≤ 16 := by
  unfold cZ at h
  split at h
  · rename_i h1; exact absurd h h1
  · rename_i h1
    unfold cX at h1
    split at h1
    · simp at h1
    · split at h1
      · simp at h1
      · omega
theorem tY {op : Int} (hop : op = 7 ∨ op = 8) {on : List ByteArray} {a b : bt} (h : (dJ op on a b).2 = 0) : vd a b on (aO op) := by
  unfold dJ at h
  split at h
  · rename_i h1; exact absurd h h1
  · rename_i h1
    split at h
    · rename_i h2; exact absurd h h2
    · rename_i h2
      have hn : op ≠ 1 ∧ op ≠ 2 ∧ op ≠ 3 ∧ op ≠ 4 ∧ op ≠ 9 ∧ op ≠ 5 ∧ op ≠ 6 := by omega
      unfold dB at h
      split at h
      · rename_i h3; exact absurd h h3
      · rename_i h3
        have h3 : bZ (dp op on wB) = 0 := by simpa using h3
        have e : (dp op on wB).op = op := rfl
        rw [e, if_neg hn.1, if_neg hn.2.1, if_neg hn.2.2.1, if_neg hn.2.2.2.1, if_neg hn.2.2.2.2.1, if_pos (by omega)] at h
        have hf : cT [⟨wB, b⟩] (dp op on wB).table = some b := by
          show cT [⟨wB, b⟩] wB = some b
          simp [cT]
        unfold fX at h
        rw [hf] at h
        dsimp only at h
        unfold jM at h
        rw [e, show (dp op on wB).cols = on from rfl] at h
        split at h
        · cases h
        · split at h
          · rename_i h4; exact absurd h h4
          · rename_i h4
            split at h
            · rename_i h5; exact absurd h h5
            · rename_i h5
              split at h
              · rename_i h6; exact absurd h h6
              · rename_i h6
                refine ⟨by simpa using h1, by simpa using h2, n9 (by simpa using h4), kx (by simpa using h5), kx (by simpa using h6), ?_⟩
                unfold bZ at h3
                split at h3
                · cases h3
                · rw [e, if_neg hn.1, if_neg hn.2.1, if_neg hn.2.2.1, if_neg hn.2.2.2.1, if_neg hn.2.2.2.2.2.1, if_neg hn.2.2.2.2.1] at h3
                  split at h3
                  · cases h3
                  · exact lf h3
structure vN (a : bt) (on : List ByteArray) : Prop where
  ga : bl a = 0
  ons : ∀ s ∈ on, ∃ i c, cP a.cols s = some i ∧ a.cols[i]? = some c
  fr : ∃ i c, cP a.cols aQ = some i ∧ a.cols[i]? = some c ∧ c.type = 2
  to : ∃ i c, cP a.cols bA = some i ∧ a.cols[i]? = some c ∧ c.type = 2
  len : on.length ≤ 16
theorem vS {on : List ByteArray} {a : bt} (h : (fR 9 on a).2 = 0) : vN a on := by
  unfold fR at h
  split at h
  · rename_i h1; exact absurd h h1
  · rename_i h1
    unfold dB at h
    split at h
    · rename_i h3; exact absurd h h3
    · rename_i h3
      have h3 : bZ (dp 9 on (B #[])) = 0 := by simpa using h3
      have e : (dp 9 on (B #[])).op = 9 := rfl
      rw [e, if_neg (by decide), if_neg (by decide), if_neg (by decide), if_neg (by decide), if_pos rfl] at h
      unfold fO at h
      rw [show (dp 9 on (B #[])).cols = on from rfl] at h
      split at h
      · cases h
      · split at h
        · rename_i h4; exact absurd h h4
        · rename_i h4
          split at h
          · rename_i h5; exact absurd h h5
          · rename_i h5
            split at h
            · rename_i h6; exact absurd h h6
            · rename_i h6
              refine ⟨by simpa using h1, oo (by simpa using h4), kY (by simpa using h5), kY (by simpa using h6), ?_⟩
              unfold bZ at h3
              split at h3
              · cases h3
              · rw [e, if_neg (by decide), if_neg (by decide), if_neg (by decide), if_neg (by decide), if_neg (by decide)] at h3
                try rw [if_pos rfl] at h3
                exact lf h3
theorem oT : ∀ {cols : List Col} {r : List aM}, dS cols r = 0 → ∀ (i : Nat) (c : Col) (v : aM), cols[i]? = some c → r[i]? = some v → bP c.type v = 0
  | [], _, _, i, c, v, h, _ => by simp at h
  | _ :: _, [], _, i, c, v, _, h => by simp at h
  | d :: cols, w :: r, h, i, c, v, h1, h2 => by
    simp only [dS] at h
    split at h
    · rename_i h3; exact absurd h h3
    · rename_i h3
      cases i with
      | zero => simp at h1 h2; subst h1; subst h2; simpa using h3
      | succ i => exact oT h i c v (by simpa using h1) (by simpa using h2)
theorem qh {cols : List Col} : ∀ {l : List (List aM)}, ee cols l = 0 → ∀ r ∈ l, r.length = cols.length ∧ ∀ (i : Nat) (c : Col) (v : aM), cols[i]? = some c → r[i]? = some v → bP c.type v = 0
  | [], _, r, hr => by cases hr
  | x :: l, h, r, hr => by
    simp only [ee] at h
    split at h
    · cases h
    · rename_i h1
      split at h
      · rename_i h2; exact absurd h h2
      · rename_i h2
        rcases List.mem_cons.1 hr with rfl | hr
        · exact ⟨by simpa using h1, oT (by simpa using h2)⟩
        · exact qh h r hr
theorem fK {t : bt} (h : bl t = 0) : ∀ r ∈ t.rows, r.length = t.cols.length ∧ ∀ (i : Nat) (c : Col) (v : aM), t.cols[i]? = some c → r[i]? = some v → bP c.type v = 0 := by
  unfold bl at h
  split at h
  · cases h
  · split at h
    · rename_i h2; exact absurd h h2
    · exact qh h
theorem eE {r : List aM} {i : Nat} (h : i < r.length) : r[i]? = some (a7 r i) := by
  unfold a7
  rw [List.getD_eq_getElem?_getD, List.getElem?_eq_getElem h]; rfl
theorem lh {t : bt} (h : bl t = 0) {r : List aM} (hr : r ∈ t.rows) {i : Nat} {c : Col} (hc : t.cols[i]? = some c) : i < r.length ∧ bP c.type (a7 r i) = 0 := by
  obtain ⟨h1, h2⟩ := fK h r hr
  have hi : i < r.length := by rw [h1]; exact (List.getElem?_eq_some_iff.1 hc).1
  exact ⟨hi, h2 i c _ hc (eE hi)⟩
theorem ib {k : Int} {v : aM} (h : bP k v = 0) : v = dq ∨ (v.kind = k ∧ 1 ≤ k ∧ k ≤ 3 ∧ (k ≠ 3 → v.s = B #[]) ∧ (k = 3 → v.n = 0) ∧ (k = 2 → qL v.n = true)) := by
  obtain ⟨a, n, s⟩ := v
  unfold bP at h
  dsimp only at h
  split at h
  · cases h
  · rename_i h1
    split at h
    · cases h
    · rename_i h2
      split at h
      · cases h
      · split at h
        · cases h
        · rename_i h4
          by_cases q : a = 0
          · left
            subst q
            have e1 : s = B #[] := Classical.byContradiction fun e => h4 (.inl ⟨by decide, e⟩)
            have e2 : n = 0 := Classical.byContradiction fun e => h4 (.inr ⟨.inl rfl, e⟩)
            rw [e1, e2]
            rfl
          · right
            have e3 : ¬ (a ≠ k ∨ k < 1 ∨ 3 < k) := fun e => h1 ⟨q, e⟩
            have e4 : a = k := by omega
            subst e4
            refine ⟨rfl, by omega, by omega, fun e => ?_, fun e => ?_, fun e => ?_⟩
            · exact Classical.byContradiction fun e2 => h4 (.inl ⟨e, e2⟩)
            · exact Classical.byContradiction fun e2 => h4 (.inr ⟨.inr e, e2⟩)
            · cases q2 : qL n with
              | true => rfl
              | false => exact absurd (.inr ⟨e, q2⟩) h2
theorem mB {a b : Int} : ew a b = 0 ↔ a = b := by unfold ew; split <;> (try split) <;> omega
theorem uv {a b : ByteArray} (h : gq a b = 0) : a = b := by
  unfold gq at h
  split at h
  · cases h
  · split at h
    · assumption
    · cases h
theorem wA {k : Int} {v w : aM} (hv : bP k v = 0) (hw : bP k w = 0) (h : dI v w = 0) : v = w := by
  obtain ⟨a, n, s⟩ := v
  obtain ⟨a', n', s'⟩ := w
  unfold dI at h
  dsimp only at h
  split at h
  · rename_i h1; exact absurd (mB.1 h) h1
  · rename_i h1
    have h1 : a = a' := by simpa using h1
    subst h1
    have c1 := ib hv
    have c2 := ib hw
    simp only [aM.mk.injEq, dq] at c1 c2 ⊢
    split at h
    · rename_i h2
      have := uv h
      rcases c1 with c1 | ⟨c1, _, _, c3, c4, _⟩
      · omega
      · rcases c2 with c2 | ⟨c2, _, _, c5, c6, _⟩
        · omega
        · exact ⟨trivial, by rw [c4 (by omega), c6 (by omega)], this⟩
    · rename_i h2
      split at h
      · have hn := mB.1 h
        rcases c1 with c1 | ⟨c1, _, _, c3, c4, _⟩
        · omega
        · rcases c2 with c2 | ⟨c2, _, _, c5, c6, _⟩
          · omega
          · exact ⟨trivial, hn, by rw [c3 (by omega), c5 (by omega)]⟩
      · rename_i h3
        rcases c1 with c1 | ⟨c1, _, _, c3, c4, _⟩
        · rcases c2 with c2 | ⟨c2, _, _, c5, c6, _⟩
          · exact ⟨trivial, by omega, by rw [c1.2.2, c2.2.2]⟩
          · omega
        · omega
theorem ub (v : aM) : v.kind = 3 ∨ dI v v = 0 := by
  unfold dI
  simp only [ne_eq, not_true_eq_false, if_false]
  by_cases q : v.kind = 3
  · exact .inl q
  · right
    rw [if_neg q]
    split
    · exact mB.2 rfl
    · rfl
theorem vk {k : Int} {v : aM} (h : bP k v = 0) : v.kind = 0 ↔ v = dq := by
  constructor
  · intro q
    rcases ib h with h1 | ⟨h1, h2, _⟩
    · exact h1
    · omega
  · rintro rfl; rfl
end Go.Tb
namespace Go.Tb
open Go.Ab
@[reducible] def nc (i : Nat) : List D := ic (i : Int)
theorem lO (not : List ByteArray) : ∀ (cols : List Col) (i : Nat), ∀ k ∈ cS not cols i, i ≤ k ∧ k < i + cols.length
  | [], _, k, h => by simp [cS] at h
  | c :: r, i, k, h => by
    simp only [cS] at h
    split at h
    · have := lO not r (i + 1) k h
      simp; omega
    · rcases List.mem_cons.1 h with rfl | h
      · simp
      · have := lO not r (i + 1) k h
        simp; omega
theorem b7 {cols : List Col} {s : ByteArray} {i : Nat} (h : cP cols s = some i) : bM cols s = i := by unfold bM; rw [h]; rfl
structure yb (o : pJ) (n m : Nat) : Prop where
  left : ∀ i ∈ o.left, i < n
  right : ∀ i ∈ o.right, i < m
  m0 : o.m0 < n
  m1 : o.m1 < n
  t0 : o.t0 < m
  t1 : o.t1 < m
  more : ∀ i ∈ o.more, i < m
theorem xq {a b : bt} {on : List ByteArray} (h : vd a b on (aO 7)) : yb (vY a b on) a.cols.length b.cols.length := by
  have e : aO 7 = [aQ, bA] := rfl
  rw [e] at h
  refine ⟨fun i hi => ?_, fun i hi => ?_, ?_, ?_, ?_, ?_, fun i hi => ?_⟩
  · obtain ⟨s, hs, rfl⟩ := List.mem_map.1 hi
    obtain ⟨i, j, c, d, h1, h2, h3, h4, _⟩ := h.ons s hs
    rw [b7 h1]; exact (List.getElem?_eq_some_iff.1 h3).1
  · obtain ⟨s, hs, rfl⟩ := List.mem_map.1 hi
    obtain ⟨i, j, c, d, h1, h2, h3, h4, _⟩ := h.ons s hs
    rw [b7 h2]; exact (List.getElem?_eq_some_iff.1 h4).1
  · obtain ⟨i, c, h1, h2, _⟩ := h.spa aQ (by simp)
    show bM a.cols aQ < _
    rw [b7 h1]; exact (List.getElem?_eq_some_iff.1 h2).1
  · obtain ⟨i, c, h1, h2, _⟩ := h.spa bA (by simp)
    show bM a.cols bA < _
    rw [b7 h1]; exact (List.getElem?_eq_some_iff.1 h2).1
  · obtain ⟨i, c, h1, h2, _⟩ := h.spb aQ (by simp)
    show bM b.cols aQ < _
    rw [b7 h1]; exact (List.getElem?_eq_some_iff.1 h2).1
  · obtain ⟨i, c, h1, h2, _⟩ := h.spb bA (by simp)
    show bM b.cols bA < _
    rw [b7 h1]; exact (List.getElem?_eq_some_iff.1 h2).1
  · have := lO _ b.cols 0 i hi
    omega
theorem fS {cols : List Col} {l : List ByteArray} (h : ∀ s ∈ l, ∃ i, cP cols s = some i) : (l.map fun s => ic (idx (cP cols s))) = (l.map (bM cols)).map nc := by
  rw [List.map_map]
  apply List.map_congr_left
  intro s hs
  obtain ⟨i, hi⟩ := h s hs
  show ic (idx (cP cols s)) = ic ((bM cols s : Nat) : Int)
  rw [b7 hi, hi]
  rfl
theorem oG {r : List aM} {i : Nat} {n : Int} : (r.map aM.c).set i (gD (a7 r i).c 1 [ci n]) = (jf r i n).map aM.c := by
  unfold jf
  rw [List.map_set]
  rfl
theorem lL (r : List aM) (i : Nat) (n : Int) : (jf r i n).length = r.length := by unfold jf; simp
end Go.Tb
namespace Go.Tb
section
variable {α : Type} [Inhabited α]
def el (l : List α) (k : Nat) : α := l.getD k default
theorem la {l : List α} {i k : Nat} {x : α} (hi : i < l.length) : el (l.set i x) k = if k = i then x else el l k := by
  unfold el
  rw [List.getD_eq_getElem?_getD, List.getElem?_set, List.getD_eq_getElem?_getD]
  by_cases h : i = k
  · subst h; simp [hi]
  · rw [if_neg h, if_neg (fun e => h e.symm)]
theorem nZ {l : List α} {k : Nat} (h : k < l.length) : l[k]? = some (el l k) := by
  unfold el
  rw [List.getD_eq_getElem?_getD, List.getElem?_eq_getElem h]; rfl
def eZ (l : List α) (i j : Nat) : List α := (l.set i (el l j)).set j (el l i)
theorem eB (l : List α) (i j : Nat) : (eZ l i j).length = l.length := by unfold eZ; simp
theorem vF {l : List α} {i j k : Nat} (hi : i < l.length) (hj : j < l.length) : el (eZ l i j) k = if k = j then el l i else if k = i then el l j else el l k := by
  unfold eZ
  rw [la (by simpa using hj), la hi]
theorem sL {l : List α} {i j : Nat} (hi : i < l.length) (hj : j < l.length) : (eZ l i j).Perm l := by
  unfold eZ
  have h1 := nZ hi
  have h2 := nZ hj
  rw [List.getElem?_eq_getElem hi] at h1
  rw [List.getElem?_eq_getElem hj] at h2
  rw [← Option.some.inj h1, ← Option.some.inj h2]
  exact List.set_set_perm hi hj
variable (lt : α → α → Bool)
def ki (l : List α) (a b : Nat) : Prop := ∀ i j, a ≤ i → i < j → j < b → lt (el l j) (el l i) = false
structure xW : Prop where
  asymm : ∀ x y, lt x y = true → lt y x = false
  trans : ∀ x y z, lt y x = false → lt z y = false → lt z x = false
structure cn (l l' : List α) (a b : Nat) : Prop where
  len : l'.length = l.length
  perm : l'.Perm l
  out : ∀ k, k < a ∨ b ≤ k → el l' k = el l k
theorem cn.refl (l : List α) (a b : Nat) : cn l l a b := ⟨rfl, .refl _, fun _ _ => rfl⟩
theorem cn.trans {l l' l2 : List α} {a b : Nat} (h : cn l l' a b) (h2 : cn l' l2 a b) : cn l l2 a b :=
  ⟨h2.len.trans h.len, h2.perm.trans h.perm, fun k hk => (h2.out k hk).trans (h.out k hk)⟩
theorem cn.mono {l l' : List α} {a b a' b' : Nat} (h : cn l l' a b) (ha : a' ≤ a) (hb : b ≤ b') : cn l l' a' b' :=
  ⟨h.len, h.perm, fun k hk => h.out k (by omega)⟩
theorem cn.swap {l : List α} {i j a b : Nat} (hi : i < l.length) (hj : j < l.length) (h1 : a ≤ i) (h2 : i < b) (h3 : a ≤ j) (h4 : j < b) : cn l (eZ l i j) a b :=
  ⟨eB l i j, sL hi hj, fun k hk => by rw [vF hi hj, if_neg (by omega), if_neg (by omega)]⟩
theorem ki.out {l l' : List α} {a b c d : Nat} (h : ki lt l a b) (ht : cn l l' c d) (hd : b ≤ c ∨ d ≤ a) : ki lt l' a b := fun i j h1 h2 h3 => by
  rw [ht.out i (by omega), ht.out j (by omega)]
  exact h i j h1 h2 h3
def jg (l : List α) (a : Nat) : Nat → List α
  | 0 => l
  | j + 1 => if a < j + 1 then (if lt (el l (j + 1)) (el l j) = true then jg (eZ l (j + 1) j) a j else l) else l
def jR (l : List α) (a : Nat) : Nat → Nat → List α
  | 0, _ => l
  | c + 1, i => jR (jg lt l a i) a c (i + 1)
def fV (l : List α) (a b : Nat) : List α := jR lt l a (b - (a + 1)) (a + 1)
theorem nl (a : Nat) : ∀ (j : Nat) (l : List α), j < l.length → cn l (jg lt l a j) a (j + 1)
  | 0, l, _ => .refl _ _ _
  | j + 1, l, h => by
    unfold jg
    split
    · split
      · exact (cn.swap h (by omega) (by omega) (by omega) (by omega) (by omega)).trans ((nl a j (eZ l (j + 1) j) (by rw [eB]; omega)).mono (Nat.le_refl _) (by omega))
      · exact .refl _ _ _
    · exact .refl _ _ _
theorem lW (a : Nat) : ∀ (c i : Nat) (l : List α), i + c ≤ l.length → cn l (jR lt l a c i) a (i + c)
  | 0, i, l, _ => .refl _ _ _
  | c + 1, i, l, h => by
    have h1 := nl lt a i l (by omega)
    have h2 := lW a c (i + 1) (jg lt l a i) (by rw [h1.len]; omega)
    rw [show i + 1 + c = i + (c + 1) by omega] at h2
    exact (h1.mono (Nat.le_refl _) (by omega)).trans h2
theorem gS {l : List α} {a b : Nat} (h : b ≤ l.length) : cn l (fV lt l a b) a b := by
  unfold fV
  rcases Nat.lt_or_ge a b with hab | hab
  · have := lW lt a (b - (a + 1)) (a + 1) l (by omega)
    rw [show a + 1 + (b - (a + 1)) = b by omega] at this
    exact this
  · rw [show b - (a + 1) = 0 by omega]
    exact .refl _ _ _
end
end Go.Tb
namespace Go.Tb
section
variable {α : Type} [Inhabited α]
def ec (l : List α) (a b : Nat) : Nat → Nat → List α
  | 0, _ => l
  | c + 1, i => ec (eZ l (a + i) (b + i)) a b c (i + 1)
theorem fU {a b lo hi : Nat} : ∀ (c i : Nat) (l : List α), a + i + c ≤ l.length → b + i + c ≤ l.length → lo ≤ a → lo ≤ b → a + i + c ≤ hi → b + i + c ≤ hi → cn l (ec l a b c i) lo hi
  | 0, i, l, _, _, _, _, _, _ => .refl _ _ _
  | c + 1, i, l, h1, h2, h3, h4, h5, h6 => by
    unfold ec
    exact (cn.swap (by omega) (by omega) (by omega) (by omega) (by omega) (by omega)).trans (fU c (i + 1) _ (by rw [eB]; omega) (by rw [eB]; omega) h3 h4 (by omega) (by omega))
def iF : Nat → List α → Nat → Nat → Nat → List α
  | 0, l, _, _, _ => l
  | f + 1, l, m, i, j => if i = j then ec l (m - i) m i 0 else if j < i then iF f (ec l (m - i) m j 0) m (i - j) j else iF f (ec l (m - i) (m + j - i) i 0) m i (j - i)
theorem jP {lo hi : Nat} : ∀ (f : Nat) (l : List α) (m i j : Nat), i ≤ m → m + j ≤ l.length → lo ≤ m - i → m + j ≤ hi → cn l (iF f l m i j) lo hi
  | 0, l, m, i, j, _, _, _, _ => .refl _ _ _
  | f + 1, l, m, i, j, h1, h2, h3, h4 => by
    unfold iF
    split
    · exact fU i 0 l (by omega) (by omega) (by omega) (by omega) (by omega) (by omega)
    · split
      · have h5 : cn l (ec l (m - i) m j 0) lo hi := fU j 0 l (by omega) (by omega) (by omega) (by omega) (by omega) (by omega)
        exact h5.trans (jP f _ m (i - j) j (by omega) (by rw [h5.len]; omega) (by omega) h4)
      · have h5 : cn l (ec l (m - i) (m + j - i) i 0) lo hi := fU i 0 l (by omega) (by omega) (by omega) (by omega) (by omega) (by omega)
        exact h5.trans (jP f _ m i (j - i) (by omega) (by rw [h5.len]; omega) (by omega) (by omega))
def qb (l : List α) : Nat → Nat → List α
  | 0, _ => l
  | c + 1, k => qb (eZ l k (k + 1)) c (k + 1)
def qd (l : List α) : Nat → Nat → List α
  | 0, _ => l
  | c + 1, k => qd (eZ l k (k - 1)) c (k - 1)
theorem pF {lo hi : Nat} : ∀ (c k : Nat) (l : List α), k + c < l.length → lo ≤ k → k + c < hi → cn l (qb l c k) lo hi
  | 0, _, _, _, _, _ => .refl _ _ _
  | c + 1, k, l, h1, h2, h3 => by
    unfold qb
    exact (cn.swap (by omega) (by omega) (by omega) (by omega) (by omega) (by omega)).trans (pF c (k + 1) _ (by rw [eB]; omega) (by omega) (by omega))
theorem pK {lo hi : Nat} : ∀ (c k : Nat) (l : List α), k < l.length → lo + c ≤ k → k < hi → cn l (qd l c k) lo hi
  | 0, _, _, _, _, _ => .refl _ _ _
  | c + 1, k, l, h1, h2, h3 => by
    unfold qd
    exact (cn.swap (by omega) (by omega) (by omega) (by omega) (by omega) (by omega)).trans (pK c (k - 1) _ (by rw [eB]; omega) (by omega) (by omega))
def fa (p : Nat → Bool) : Nat → Nat → Nat → Nat
  | 0, i, _ => i
  | f + 1, i, j => if i < j then (if p ((i + j) / 2) = true then fa p f ((i + j) / 2 + 1) j else fa p f i ((i + j) / 2)) else i
theorem ld (p : Nat → Bool) : ∀ (f i j : Nat), i ≤ fa p f i j
  | 0, i, _ => Nat.le_refl _
  | f + 1, i, j => by
    unfold fa
    split
    · split
      · exact Nat.le_trans (by omega) (ld p f _ j)
      · exact ld p f i _
    · exact Nat.le_refl _
theorem lk {p : Nat → Bool} : ∀ {f i j : Nat}, i ≤ j → fa p f i j ≤ j
  | 0, i, j, h => h
  | f + 1, i, j, h => by
    unfold fa
    split
    · split
      · exact lk (by omega)
      · exact Nat.le_trans (lk (f := f) (by omega)) (by omega)
    · exact h
variable (lt : α → α → Bool)
def eP : Nat → List α → Nat → Nat → Nat → List α
  | 0, l, _, _, _ => l
  | f + 1, l, a, m, b =>
    if m - a = 1 then qb l (fa (fun h => lt (el l h) (el l a)) (b - m + 1) m b - 1 - a) a
    else if b - m = 1 then qd l (m - fa (fun h => !lt (el l m) (el l h)) (m - a + 1) a m) m
    else
      let mid := (a + b) / 2
      let n := mid + m
      let s0 := if mid < m then n - b else a
      let r0 := if mid < m then mid else m
      let start := fa (fun c => !lt (el l (n - 1 - c)) (el l c)) (r0 - s0 + 1) s0 r0
      let e := n - start
      let l1 := if start < m ∧ m < e then iF (m - start + (e - m)) l m (m - start) (e - m) else l
      let l2 := if a < start ∧ start < mid then eP f l1 a start mid else l1
      if mid < e ∧ e < b then eP f l2 mid e b else l2
end
end Go.Tb
namespace Go.Tb
section
variable {α : Type} [Inhabited α] (lt : α → α → Bool)
theorem fG : ∀ (f : Nat) (l : List α) (a m b : Nat), a < m → m < b → b ≤ l.length → cn l (eP lt f l a m b) a b
  | 0, l, _, _, _, _, _, _ => .refl _ _ _
  | f + 1, l, a, m, b, h1, h2, h3 => by
    unfold eP
    split
    · rename_i e
      obtain ⟨q1, q2, _, _⟩ | hz : (m ≤ fa (fun h => lt (el l h) (el l a)) (b - m + 1) m b ∧ fa (fun h => lt (el l h) (el l a)) (b - m + 1) m b ≤ b ∧ True ∧ True) ∨ False := by
        left
        exact ⟨ld _ _ _ _, lk (by omega), trivial, trivial⟩
      · exact pF _ _ _ (by omega) (Nat.le_refl _) (by omega)
      · exact hz.elim
    · split
      · have q1 := ld (fun h => !lt (el l m) (el l h)) (m - a + 1) a m
        have q2 := lk (p := fun h => !lt (el l m) (el l h)) (f := m - a + 1) (i := a) (j := m) (by omega)
        exact pK _ _ _ (by omega) (by omega) (by omega)
      · rename_i e1 e2
        dsimp only
        generalize hs0 : (if (a + b) / 2 < m then (a + b) / 2 + m - b else a) = s0
        generalize hr0 : (if (a + b) / 2 < m then (a + b) / 2 else m) = r0
        have hle : s0 ≤ r0 := by subst hs0 hr0; split <;> omega
        have hs1 : a ≤ s0 := by subst hs0; split <;> omega
        have hr1 : r0 ≤ m ∧ r0 ≤ (a + b) / 2 ∨ r0 = m ∧ m ≤ (a + b) / 2 := by subst hr0; split <;> omega
        have g1 := ld (fun c => !lt (el l ((a + b) / 2 + m - 1 - c)) (el l c)) (r0 - s0 + 1) s0 r0
        have g2 := lk (p := fun c => !lt (el l ((a + b) / 2 + m - 1 - c)) (el l c)) (f := r0 - s0 + 1) (i := s0) (j := r0) hle
        generalize hst : fa (fun c => !lt (el l ((a + b) / 2 + m - 1 - c)) (el l c)) (r0 - s0 + 1) s0 r0 = start at g1 g2 ⊢
        have hsb : (a + b) / 2 + m - start ≤ b := by subst hs0; split at g1 <;> omega
        have t1 : cn l (if start < m ∧ m < (a + b) / 2 + m - start then iF (m - start + ((a + b) / 2 + m - start - m)) l m (m - start) ((a + b) / 2 + m - start - m) else l) a b := by
          split
          · exact jP _ _ _ _ _ (by omega) (by omega) (by omega) (by omega)
          · exact .refl _ _ _
        generalize (if start < m ∧ m < (a + b) / 2 + m - start then iF (m - start + ((a + b) / 2 + m - start - m)) l m (m - start) ((a + b) / 2 + m - start - m) else l) = l1 at t1 ⊢
        have t2 : cn l1 (if a < start ∧ start < (a + b) / 2 then eP lt f l1 a start ((a + b) / 2) else l1) a b := by
          split
          · exact (fG f l1 a start _ (by omega) (by omega) (by rw [t1.len]; omega)).mono (Nat.le_refl _) (by omega)
          · exact .refl _ _ _
        generalize (if a < start ∧ start < (a + b) / 2 then eP lt f l1 a start ((a + b) / 2) else l1) = l2 at t2 ⊢
        have t3 : cn l2 (if (a + b) / 2 < (a + b) / 2 + m - start ∧ (a + b) / 2 + m - start < b then eP lt f l2 ((a + b) / 2) ((a + b) / 2 + m - start) b else l2) a b := by
          split
          · exact (fG f l2 _ _ b (by omega) (by omega) (by rw [t2.len, t1.len]; omega)).mono (by omega) (Nat.le_refl _)
          · exact .refl _ _ _
        exact (t1.trans t2).trans t3
end
end Go.Tb
namespace Go.Tb
section
variable {α : Type} [Inhabited α] (lt : α → α → Bool) (n : Nat)
def lK : Nat → List α → Nat → List α
  | 0, l, _ => l
  | f + 1, l, a => if a + 20 ≤ n then lK f (fV lt l a (a + 20)) (a + 20) else fV lt l a n
def lE (bs : Nat) : Nat → List α → Nat → List α
  | 0, l, _ => l
  | f + 1, l, a => if a + 2 * bs ≤ n then lE bs f (eP lt n l a (a + bs) (a + 2 * bs)) (a + 2 * bs) else if a + bs < n then eP lt n l a (a + bs) n else l
def mH : Nat → List α → Nat → List α
  | 0, l, _ => l
  | f + 1, l, bs => if bs < n then mH f (lE lt n bs (n + 1) l 0) (2 * bs) else l
def eR (l : List α) : List α := mH lt l.length (l.length + 1) (lK lt l.length (l.length + 1) l 0) 20
def pQ (l : List α) (bs lo hi : Nat) : Prop := ∀ i j, lo ≤ i → i < j → j < hi → i / bs = j / bs → lt (el l j) (el l i) = false
theorem sM {bs i j q : Nat} (hb : 0 < bs) (h : i / bs = j / bs) (hj : q * bs ≤ j) : q * bs ≤ i := by
  have h1 : q ≤ j / bs := (Nat.le_div_iff_mul_le hb).2 hj
  rw [← h] at h1
  exact (Nat.le_div_iff_mul_le hb).1 h1
theorem qz {bs i q : Nat} (h1 : q * bs ≤ i) (h2 : i < q * bs + bs) : i / bs = q :=
  Nat.div_eq_of_lt_le h1 (by rw [Nat.succ_mul]; exact h2)
theorem pQ.sorted {l : List α} {bs lo hi q : Nat} (h : pQ lt l bs lo hi) (h1 : lo ≤ q * bs) {b : Nat} (h2 : b ≤ q * bs + bs) (h3 : b ≤ hi) : ki lt l (q * bs) b := fun i j p1 p2 p3 =>
  h i j (by omega) p2 (by omega) (by rw [qz p1 (by omega), qz (show q * bs ≤ j by omega) (by omega)])
theorem pQ.add {l : List α} {bs q b : Nat} (hb : 0 < bs) (h : pQ lt l bs 0 (q * bs)) (hs : ki lt l (q * bs) b) : pQ lt l bs 0 b := fun i j p1 p2 p3 p4 => by
  rcases Nat.lt_or_ge j (q * bs) with hj | hj
  · exact h i j p1 p2 hj p4
  · exact hs i j (sM hb p4 hj) p2 p3
theorem pQ.out {l l' : List α} {bs lo hi a b : Nat} (h : pQ lt l bs lo hi) (ht : cn l l' a b) (hd : hi ≤ a ∨ b ≤ lo) : pQ lt l' bs lo hi := fun i j p1 p2 p3 p4 => by
  rw [ht.out i (by omega), ht.out j (by omega)]
  exact h i j p1 p2 p3 p4
variable (hw : xW lt)
theorem oy : ∀ (f : Nat) (l : List α) (a : Nat), n ≤ l.length → a ≤ n → cn l (lK lt n f l a) 0 n
  | 0, l, _, _, _ => .refl _ _ _
  | f + 1, l, a, h1, h2 => by
    unfold lK
    split
    · have t := gS lt (l := l) (a := a) (b := a + 20) (by omega)
      exact (t.mono (by omega) (by omega)).trans (oy f _ _ (by rw [t.len]; omega) (by omega))
    · exact (gS lt (by omega)).mono (by omega) (Nat.le_refl _)
theorem oL {bs : Nat} (hb : 0 < bs) : ∀ (f : Nat) (l : List α) (a : Nat), n ≤ l.length → a ≤ n → cn l (lE lt n bs f l a) 0 n
  | 0, l, _, _, _ => .refl _ _ _
  | f + 1, l, a, h1, h2 => by
    unfold lE
    split
    · have t := fG lt n l a (a + bs) (a + 2 * bs) (by omega) (by omega) (by omega)
      exact (t.mono (by omega) (by omega)).trans (oL hb f _ _ (by rw [t.len]; omega) (by omega))
    · split
      · exact (fG lt n l a (a + bs) n (by omega) (by omega) (by omega)).mono (by omega) (Nat.le_refl _)
      · exact .refl _ _ _
theorem oC : ∀ (f : Nat) (l : List α) (bs : Nat), 0 < bs → n ≤ l.length → cn l (mH lt n f l bs) 0 n
  | 0, l, _, _, _ => .refl _ _ _
  | f + 1, l, bs, hb, h1 => by
    unfold mH
    split
    · have t := oL lt n hb (n + 1) l 0 h1 (by omega)
      exact t.trans (oC f _ _ (by omega) (by rw [t.len]; omega))
    · exact .refl _ _ _
theorem gT (l : List α) : cn l (eR lt l) 0 l.length := by
  have t := oy lt l.length (l.length + 1) l 0 (Nat.le_refl _) (Nat.zero_le _)
  exact t.trans (oC lt l.length _ _ 20 (by omega) (by rw [t.len]; exact Nat.le_refl _))
end
end Go.Tb
namespace Go.Ab
open Go.RowKit
section
variable {P : Program} (T : cw P) {C : Ctx} {n : Nat} {ops : Array Oper}
variable {f : List (Nat × A)} {bx : List (Nat × List A)} {lv : List Nat} {gen : Nat} {ty : TypeId} {pos : String} {af : Array Edge} {dst : Option Nat}
theorem xM {t e m : Nat} {x y : Operand} {td ed : cc} {k1 k2 : IntKind} (hx : av f x = some (.d (.v (.int k1 (m : Int))))) (hy : av f y = some (.d (.v (.int k2 (m : Int))))) (ht : aA T.l t = some td) (hk : td.k = .slice e) (he : aA T.l e = some ed)
    (hz : Nat.blt 0 ed.n = true) (hb : (ed.b : Int) * (m : Int) ≤ 281474976710656) (hm : m ≤ maxLen) : Pu P C n ⟨f, bx, lv, gen⟩ ⟨dst, .makeSlice t x y, ty, pos, af, none⟩ (.d (.sl (List.replicate m (ed.z.map D.v)))) := by
  have hz := Nat.le_of_ble_eq_true hz
  intro G tmps w hs
  have hu := T.ek ht hk
  obtain ⟨i, z, hi, hin, hib, hiz, hzc, hzl, hzk, _⟩ := T.info he
  have hzs : z.cells.size = ed.n := by rw [← hzl, ← hzc]; simp
  have hrx := hs.av hx
  have hry := hs.av hy
  generalize hvx : Act.eval ⟨tmps, []⟩ x = vx at hrx
  generalize hvy : Act.eval ⟨tmps, []⟩ y = vy at hry
  cases hrx with | d hrx => cases hrx with | v _ _ =>
  cases hry with | d hry => cases hry with | v _ _ =>
  have hrun := run_make (P := P) w t e i z hu hi hiz k1 k2 (m : Int) (m : Int) (Int.natCast_nonneg _) (Int.le_refl _) (by rw [hib]; exact hb) (by simp only [maxLen] at hm; omega)
  simp only [Int.toNat_natCast] at hrun
  have hbl : Below w.heap.size w (w.alloc (.cells (madeCells z.cells (m * i.size)) e)) := (Below.refl _ w).alloc (Nat.le_refl _) _
  obtain ⟨hle, hs'⟩ := hs.iL hbl
  refine cV (v := .slice (some ⟨w.heap.size, 0, none⟩) m m) (w' := w.alloc (.cells (madeCells z.cells (m * i.size)) e)) ?_ ⟨hbl, .d ?_⟩
  · unfold execOp
    show Sem.run P _ w = .ok _ _
    simp only [hvx, hvy, Sem.run_bind, hrun, Result.andThen_ok, Sem.run_pure]
  · rcases Nat.eq_zero_or_pos m with h0 | hpos
    · subst h0
      exact .emp _ 0 (by simp)
    · have := bm.ofRow (w := w.alloc (.cells (madeCells z.cells (m * i.size)) e)) (pv := bD C G) (b := w.heap.size) (cap := m) (sz := ed.n) (es := List.replicate m (ed.z.map D.v)) (heap_alloc_new w _) (by simp) hm
        (fun x hx => by rw [List.eq_of_mem_replicate hx, List.length_map, hzl]) (fun t _ hp => by have := pa hs hp; omega) (fun k j e' d hk hj => by
          have hkm : k < m := by have := (List.getElem?_eq_some_iff.1 hk).1; simpa using this
          have he' := List.eq_of_mem_replicate (List.mem_of_getElem? hk)
          subst he'
          rw [List.getElem?_map, Option.map_eq_some_iff] at hj
          obtain ⟨u, hu, rfl⟩ := hj
          have hjn : j < ed.n := by rw [← hzl]; exact (List.getElem?_eq_some_iff.1 hu).1
          refine ⟨u, ?_, .v _ (List.all_eq_true.1 hzk u (List.mem_of_getElem? hu))⟩
          unfold madeCells
          rw [Array.getElem?_map, Array.getElem?_range, if_pos (by rw [hin]; exact ou hkm hjn), Option.map_some]
          have e1 : (k * ed.n + j) % z.cells.size = j := by rw [hzs, Nat.mul_comm, Nat.mul_add_mod, Nat.mod_eq_of_lt hjn]
          rw [e1, getElem!_pos z.cells j (by rw [hzs]; exact hjn)]
          rw [← hzc] at hu
          congr 1
          simpa using (List.getElem?_eq_some_iff.1 hu).2)
      rw [List.length_replicate] at this
      exact this
end
end Go.Ab
namespace Go.Ab
theorem mC : ∀ (l m : List A), eu (l ++ m) = (eu l && eu m)
  | [], m => by simp [eu]
  | a :: l, m => by simp [eu, mC l m, Bool.and_assoc]
theorem qB : ∀ l : List D, eu (l.map A.d) = true
  | [] => rfl
  | d :: l => by simp [eu, fY, qB l]
theorem oz : ∀ k : Nat, eu (List.replicate k A.any) = true
  | 0 => rfl
  | k + 1 => by simp [List.replicate_succ, eu, fY, oz k]
theorem bd (o : List Nat) (es : List (List D)) (k : Nat) : fm o (bc es k) = bc es k :=
  fz o _ (by unfold bc; rw [mC, qB, oz]; rfl)
theorem tu (gs : List Nat) (m : Nat) (es : List (List D)) (k : Nat) : jr gs m (bc es k) = bc es k := by
  rw [fA]
  unfold bc
  rw [List.map_append, List.map_map, List.map_replicate]
  rfl
theorem uh (bx : List (Nat × List A)) (gs os : List Nat) (n : Nat) (es : List (List D)) (k : Nat) : (bc es k).map (eg bx gs os (n + 1)) = bc es k := by
  unfold bc
  rw [List.map_append, List.map_map, List.map_replicate]
  rfl
theorem iO {order : List Nat} {bx : List (Nat × List A)} {es : List (List D)} {k : Nat} (h : aA bx 0 = some (bc es k)) : pc order bx 0 [bc es k] := by
  refine ⟨?_, trivial⟩
  rw [h]
  show some (fm order (bc es k)) = _
  rw [bd]
section
variable {P : Program} {C : Ctx} {n : Nat} {ops : Array Oper} {Q : Exit → St → Prop} {rest : List Oper}
variable {f : List (Nat × A)} {bx : List (Nat × List A)} {lv : List Nat} {gen : Nat} {d : Nat} {ty : TypeId} {pos : String} {af : Array Edge}
theorem gP [fw P] [GC P C] {x : Operand} {xs : Array Operand} {tys : Array TypeId} {fid : FuncId} {caps as' args : List A} {es es' : List (List D)} {k : Nat} (g : Nat) (hx : av f x = some (.clo fid caps)) (hxs : iW f xs.toList = some as')
    (harg : (as' ++ caps).map (eg bx [g] [] 5) = args) (hb : aA bx g = some (bc es k)) (hf : dA P fid args [bc es k] 0 (.tup []) [bc es' k] 0) (hd : Nat.blt d n = true)
    (h : WO P C n ops Q rest ⟨(d, .tup []) :: f, (g, bc es' k) :: bx, lv, gen + 1⟩) :
    WO P C n ops Q (⟨some d, .call ⟨.value x, xs, tys⟩, ty, pos, af, none⟩ :: rest) ⟨f, bx, lv, gen⟩ := by
  refine jJ [g] [] hx hxs harg (b0 := [bc es k]) (by simp only [iw, hb]; rw [uh]) rfl hf rfl rfl rfl hd rfl (bx' := (g, bc es' k) :: bx) (by simp only [iJ]; rw [tu]; rfl) (lv' := lv) (by simp) (gen' := gen + 1) (by show 1 + 0 + gen = gen + 1; omega) h
end
end Go.Ab
namespace Go.Ab
open Go.RowKit
section
variable {P : Program} (T : cw P) {C : Ctx} {n : Nat} {ops : Array Oper} {Q : Exit → St → Prop} {rest : List Oper}
variable {f : List (Nat × A)} {bx : List (Nat × List A)} {lv : List Nat} {gen : Nat} {d : Nat} {op : Op} {ty : TypeId} {pos : String} {af : Array Edge} {a : A} {dst : Option Nat} {c : Code}
theorem fZ.same {w : World} {pv : Nat → Nat → Prop} {r : Row} {v v' : Value} {es es' : List (List D)} (h : fZ w pv r v es) (h' : fZ w pv r v' es') : v = v' := by
  cases r with
  | nil => exact h.1.trans h'.1.symm
  | zero b => exact h.1.trans h'.1.symm
  | blk b len cap sz pub => exact h.1.trans h'.1.symm
  | mp b => exact h.elim
end
end Go.Ab
namespace Go.Ab
open Go.RowKit
mutual
def jY (g : Nat) : A → Bool
  | .ptr g' _ => !Nat.beq g' g
  | .np g' _ _ => !Nat.beq g' g
  | .sb g' _ _ => !Nat.beq g' g
  | .agg l => j9 g l
  | .tup l => j9 g l
  | .row l => j9 g l
  | .clo _ l => j9 g l
  | .bnd _ l => j9 g l
  | _ => true
def j9 (g : Nat) : List A → Bool
  | [] => true
  | a :: l => jY g a && j9 g l
end
theorem hF {g : Nat} : ∀ {l : List A}, j9 g l = true → ∀ a ∈ l, jY g a = true
  | [], _, a, ha => by cases ha
  | b :: l, h, a, ha => by
    simp only [j9, Bool.and_eq_true] at h
    cases ha with
    | head => exact h.1
    | tail _ ha => exact hF h.2 a ha
theorem aX.forget {E E' : En} {g : Nat} (hw : E.w = E'.w) (hc : ∀ b o u, cellAt E.w b o = some u → ¬ E.pv b o → cellAt E'.w b o = some u ∧ ¬ E'.pv b o) (hold : ∀ b, E.old b → E'.old b) (hb : ∀ g' b, g' ≠ g → E.box g' = some b → E'.box g' = some b) (ho : E'.own = E.own) (hg : E'.gen = E.gen)
    {v : Value} {a : A} (h : aX E v a) (ha : jY g a = true) : aX E' v a := by
  have hne : ∀ {g'}, (!Nat.beq g' g) = true → g' ≠ g := fun h e => by subst e; simp at h
  have hc' : ∀ b o u, cellAt E.w b o = some u → ¬ E.pv b o → cellAt E.w b o = some u ∧ ¬ E'.pv b o := fun b o u h1 h2 => ⟨h1, (hc b o u h1 h2).2⟩
  induction h with
  | any x => exact .any x
  | d hd => exact .d (hd.mono hc)
  | ag vs l hs hd => exact .ag vs l hs (fun i u x h1 h2 => (hd i u x h1 h2).mono hc)
  | own x g' es hd hgg hr => exact .own x g' es (hd.mono hc) (by rw [hg]; exact hgg) (fun r hr' => hr r (by rw [← ho]; exact hr'))
  | agg vs l hs hone _ ih => exact .agg vs l hs hone (fun i u x hu hx => ih i u x hu hx (hF (by simpa [jY] using ha) x (List.mem_of_getElem? hx)))
  | tup vs l hs _ ih => exact .tup vs l hs (fun i u x hu hx => ih i u x hu hx (hF (by simpa [jY] using ha) x (List.mem_of_getElem? hx)))
  | rowd b off l u hcc hd => exact .rowd b off l u (fun j hj => hc _ _ _ (hcc j hj).1 (hcc j hj).2) (fun j x hx => (hd j x hx).mono hc)
  | row b off l u hcc _ ih => exact .row b off l u (fun j hj => ⟨by rw [← hw]; exact (hcc j hj).1, hold _ (hcc j hj).2.1, (hcc j hj).2.2⟩) (fun j x hx => ih j x hx (hF (by simpa [jY] using ha) x (List.mem_of_getElem? hx)))
  | ptr x g' off b hgg hb0 hp => exact .ptr x g' off b (by rw [hg]; exact hgg) (hb g' b (hne (by simpa [jY] using ha)) hb0) hp
  | xs x g' es hgg h1 hx => exact .xs x g' es (by rw [hg]; exact hgg) h1 (fun r hr' => hw ▸ (hx r (by rw [← ho]; exact hr')).je hc')
  | xp x g' i off l hgg h1 hx => exact .xp x g' i off l (by rw [hg]; exact hgg) h1 (fun r hr' => hw ▸ (hx r (by rw [← ho]; exact hr')).je hc')
  | mp x g' es hgg h1 hx => exact .mp x g' es (by rw [hg]; exact hgg) h1 (fun r hr' => hw ▸ (hx r (by rw [← ho]; exact hr')).je hc')
  | ni t x => exact .ni t x
  | fl x es hd hfl => exact .fl x es (hd.mono hc) hfl
  | bf x g' T s hgg h1 hx => exact .bf x g' T s (by rw [hg]; exact hgg) h1 (fun r hr' => hw ▸ hx r (by rw [← ho]; exact hr'))
  | np x g' T b hgg hb0 hT u hp => exact .np x g' T b (by rw [hg]; exact hgg) (hb g' b (hne (by simpa [jY] using ha)) hb0) (hw ▸ hT) u hp
  | sb x g' n c b hgg hb0 hn hp => exact .sb x g' n c b (by rw [hg]; exact hgg) (hb g' b (hne (by simpa [jY] using ha)) hb0) hn hp
  | clo f vs l hs _ ih => exact .clo f vs l hs (fun i u x hu hx => ih i u x hu hx (hF (by simpa [jY] using ha) x (List.mem_of_getElem? hx)))
  | bnd f vs l hs _ ih => exact .bnd f vs l hs (fun i u x hu hx => ih i u x hu hx (hF (by simpa [jY] using ha) x (List.mem_of_getElem? hx)))
def mb (g : Nat) : List Nat → List (Nat × A) → List (Nat × A)
  | _, [] => []
  | seen, (s, a) :: r => bif seen.any (Nat.beq s) then mb g seen r else bif jY g a then (s, a) :: mb g (s :: seen) r else mb g (s :: seen) r
theorem kM {g : Nat} : ∀ {f : List (Nat × A)} {seen : List Nat} {t : Nat} {a : A}, look (mb g seen f) t = some a → look f t = some a ∧ jY g a = true ∧ t ∉ seen
  | [], _, t, a, h => by simp [mb, look] at h
  | (s, b) :: r, seen, t, a, h => by
    simp only [mb] at h
    cases q : seen.any (Nat.beq s) with
    | true =>
      rw [q] at h
      simp only [cond_true] at h
      obtain ⟨h1, h2, h3⟩ := kM h
      have hm : s ∈ seen := by
        obtain ⟨y, hy, hb⟩ := List.any_eq_true.1 q
        rw [Nat.eq_of_beq_eq_true hb]; exact hy
      refine ⟨?_, h2, h3⟩
      rw [bp]
      rw [if_neg (fun e : s = t => h3 (e ▸ hm))]
      exact h1
    | false =>
      rw [q] at h
      simp only [cond_false] at h
      have hm : s ∉ seen := fun hm => by
        have : seen.any (Nat.beq s) = true := List.any_eq_true.2 ⟨s, hm, by simp⟩
        rw [q] at this; cases this
      cases q2 : jY g b with
      | true =>
        rw [q2] at h
        simp only [cond_true] at h
        rw [bp] at h
        split at h
        · rename_i e
          subst e
          cases h
          exact ⟨by rw [bp, if_pos rfl], q2, hm⟩
        · rename_i e
          obtain ⟨h1, h2, h3⟩ := kM h
          exact ⟨by rw [bp, if_neg e]; exact h1, h2, fun hh => h3 (List.mem_cons_of_mem _ hh)⟩
      | false =>
        rw [q2] at h
        simp only [cond_false] at h
        obtain ⟨h1, h2, h3⟩ := kM h
        exact ⟨by rw [bp, if_neg (fun e : s = t => h3 (e ▸ List.mem_cons_self))]; exact h1, h2, fun hh => h3 (List.mem_cons_of_mem _ hh)⟩
def nS (g : Nat) : List Nat → List (Nat × List A) → Option (List (Nat × List A))
  | _, [] => some []
  | seen, (s, c) :: r => bif seen.any (Nat.beq s) then nS g seen r else bif Nat.beq s g then nS g (s :: seen) r else bif j9 g c then (match nS g (s :: seen) r with | some l => some ((s, c) :: l) | none => none) else none
theorem gK {α : Type} {f : List (Nat × α)} {s t : Nat} {a : α} : aA ((s, a) :: f) t = if s = t then some a else aA f t := by
  rw [bW]
theorem kO {g : Nat} : ∀ {f f' : List (Nat × List A)} {seen : List Nat} {t : Nat} {a : List A}, nS g seen f = some f' → aA f' t = some a → aA f t = some a ∧ j9 g a = true ∧ t ≠ g ∧ t ∉ seen
  | [], f', _, t, a, hc, h => by simp [nS] at hc; subst hc; simp [aA] at h
  | (s, b) :: r, f', seen, t, a, hc, h => by
    simp only [nS] at hc
    cases q : seen.any (Nat.beq s) with
    | true =>
      rw [q] at hc
      simp only [cond_true] at hc
      obtain ⟨h1, h2, h3, h4⟩ := kO hc h
      have hm : s ∈ seen := by
        obtain ⟨y, hy, hb⟩ := List.any_eq_true.1 q
        rw [Nat.eq_of_beq_eq_true hb]; exact hy
      exact ⟨by rw [gK, if_neg (fun e : s = t => h4 (e ▸ hm))]; exact h1, h2, h3, h4⟩
    | false =>
      rw [q] at hc
      simp only [cond_false] at hc
      have hm : s ∉ seen := fun hm => by
        have : seen.any (Nat.beq s) = true := List.any_eq_true.2 ⟨s, hm, by simp⟩
        rw [q] at this; cases this
      cases q1 : Nat.beq s g with
      | true =>
        rw [q1] at hc
        simp only [cond_true] at hc
        obtain ⟨h1, h2, h3, h4⟩ := kO hc h
        exact ⟨by rw [gK, if_neg (fun e : s = t => h4 (e ▸ List.mem_cons_self))]; exact h1, h2, h3, fun hh => h4 (List.mem_cons_of_mem _ hh)⟩
      | false =>
        rw [q1] at hc
        simp only [cond_false] at hc
        cases q2 : j9 g b with
        | false => rw [q2] at hc; cases hc
        | true =>
          rw [q2] at hc
          simp only [cond_true] at hc
          split at hc
          · rename_i l hl
            simp only [Option.some.injEq] at hc
            subst hc
            rw [gK] at h
            split at h
            · rename_i e
              subst e
              cases h
              exact ⟨by rw [gK, if_pos rfl], q2, fun e => by subst e; simp at q1, hm⟩
            · rename_i e
              obtain ⟨h1, h2, h3, h4⟩ := kO hl h
              exact ⟨by rw [gK, if_neg e]; exact h1, h2, h3, fun hh => h4 (List.mem_cons_of_mem _ hh)⟩
          · cases hc
section
variable {P : Program} (T : cw P) {C : Ctx} {n : Nat} {ops : Array Oper} {Q : Exit → St → Prop} {rest : List Oper}
variable {f f' : List (Nat × A)} {bx bx' : List (Nat × List A)} {lv : List Nat} {gen : Nat} {d : Nat} {op : Op} {ty : TypeId} {pos : String} {af : Array Edge} {a : A} {dst : Option Nat} {c : Code}
theorem qW [hnb : NB C 0] (s : Nat) {g m cap sz k : Nat} {es : List (List D)} (hl : look f s = some (.sb g m cap)) (hb : aA bx g = some (bc es k)) (hsn : Nat.blt s n = true) (hm : es.length = m) (hls : ∀ (x : List D), x ∈ es → x.length = sz) (hf : mb g [] f = f') (hbx : nS g [] bx = some bx')
    (h : W P C n c Q ⟨(s, .d (.sl es)) :: f', bx', lv, gen⟩) : W P C n c Q ⟨f, bx, lv, gen⟩ := by
  subst hf; subst hm
  intro tmps w ⟨G, hs⟩
  obtain ⟨v, hv, hr⟩ := hs.frame _ _ hl
  obtain ⟨b, cs, T', hgb, hw, h3, h4, h5⟩ := hs.box _ _ hb
  cases hr with
  | sb _ _ _ _ b' hgg hb' hn hx =>
  have hb' : G.box g = some b' := hb'
  rw [hgb] at hb'
  cases hb'
  let G' : Gh := ⟨fun x => if x = g then none else G.box x, G.own⟩
  have hpv : ∀ b' o, bD C G' b' o → bD C G b' o := by
    rintro b' o (hp | ⟨g', hp⟩ | hp)
    · exact .inl hp
    · simp only [G'] at hp
      split at hp
      · cases hp
      · exact .inr (.inl ⟨g', hp⟩)
    · exact .inr (.inr hp)
  have hnot : ∀ o, ¬ bD C G' b o := by
    rintro o (hp | ⟨g', hp⟩ | ⟨g', len, cap, sz, pub, hp, _⟩)
    · have := hs.xold b o hp
      rcases (hs.gbox g b hgb).2.2.1 with hm | hm
      · omega
      · exact this.2 hm
    · simp only [G'] at hp
      split at hp
      · cases hp
      · rename_i e; exact e (hs.inj g' g b hp hgb)
    · exact (hs.row g' b len cap sz pub hp).2.1 g hgb
  have hrep : ∀ {v : Value} {a : A}, aX (aJ C G gen w) v a → jY g a = true → aX (aJ C G' gen w) v a := fun h ha =>
    aX.forget (E := aJ C G gen w) (E' := aJ C G' gen w) rfl (fun b o u hu hn => ⟨hu, fun hp => hn (hpv b o hp)⟩) (fun b h => h) (fun g' b hne hb => by show (if g' = g then none else G.box g') = some b; rw [if_neg hne]; exact hb) rfl rfl h ha
  have hs' : aV C n ⟨mb g [] f, bx', lv, gen⟩ G' tmps w := by
    refine { size := hs.size, frame := ?_, box := ?_, gbox := ?_, inj := ?_, live := hs.live, gown := hs.gown, row := ?_, mrow := ?_, xold := hs.xold, kold := hs.kold, lent := ?_, fr := hs.fr }
    · intro t a ha
      obtain ⟨h1, h2, _⟩ := kM ha
      obtain ⟨v, hv, hr⟩ := hs.frame t a h1
      exact ⟨v, hv, hrep hr h2⟩
    · intro g' cells hc
      obtain ⟨h1, h2, h6, _⟩ := kO hbx hc
      obtain ⟨b2, cs2, T2, p1, p2, p3, p4, p5⟩ := hs.box g' cells h1
      exact ⟨b2, cs2, T2, by simp only [G']; rw [if_neg h6]; exact p1, p2, p3, p4, fun i u a hu ha => hrep (p5 i u a hu ha) (hF h2 a (List.mem_of_getElem? ha))⟩
    · intro g' b2 hb2
      simp only [G'] at hb2
      split at hb2
      · cases hb2
      · exact hs.gbox g' b2 hb2
    · intro g1 g2 b2 h1 h2
      simp only [G'] at h1 h2
      split at h1
      · cases h1
      · split at h2
        · cases h2
        · exact hs.inj g1 g2 b2 h1 h2
    · intro g' b2 len cap sz pub hr
      obtain ⟨p1, p2, p3⟩ := hs.row g' b2 len cap sz pub hr
      refine ⟨p1, fun g2 h2 => ?_, p3⟩
      simp only [G'] at h2
      split at h2
      · cases h2
      · exact p2 g2 h2
    · intro g' b2 hr
      obtain ⟨p1, p2, p3⟩ := hs.mrow g' b2 hr
      refine ⟨p1, fun g2 h2 => ?_, p3⟩
      simp only [G'] at h2
      split at h2
      · cases h2
      · exact p2 g2 h2
    · intro i b2 hb2
      have := hnb.h
      have hi := (List.getElem?_eq_some_iff.1 hb2).1
      omega
  have hdata : aX (aJ C G' gen w) v (.d (.sl es)) := by
    rw [hx]
    have hfl := iZ hls
    have hcell : ∀ i j (e : List D) (y : D), es[i]? = some e → e[j]? = some y → ∃ u, cs[i * sz + j]? = some u ∧ bm w (bD C G') u y := fun i j e y hi hj => by
      have hfg := jj hls i j e y hi hj
      have hlt : i * sz + j < es.flatten.length := (List.getElem?_eq_some_iff.1 hfg).1
      have hc : (bc es k)[i * sz + j]? = some (.d y) := by
        unfold bc
        rw [List.getElem?_append_left (by rw [List.length_map]; exact hlt), List.getElem?_map, hfg]; rfl
      have hj' : i * sz + j < cs.size := by rw [h3]; exact (List.getElem?_eq_some_iff.1 hc).1
      have e1 : cs[i * sz + j]? = some cs[i * sz + j] := by simp [hj']
      have := hrep (h5 _ _ _ e1 hc) rfl
      generalize cs[i * sz + j] = u at this e1
      cases this with | d hd => exact ⟨u, e1, hd⟩
    refine .d ?_
    exact bm.ofRow hw hn.1 hn.2 hls (fun t _ => hnot t) hcell
  refine h tmps w ⟨G', ?_⟩
  have := hs'.set (d := s) (Nat.le_of_ble_eq_true hsn) hdata
  rwa [hZ hv] at this
theorem u9 {es : List (List D)} {sz i k off : Nat} {e cs : List D} (hl : ∀ (x : List D), x ∈ es → x.length = sz) (he : es[i]? = some e) (hc : off + cs.length ≤ sz) : setAt (bc es k) (i * sz + off) (cs.map A.d) = bc (es.set i (gD e off cs)) k := by
  have hel := hl e (List.mem_of_getElem? he)
  have h1 : (gD e off cs).length = sz := by rw [rv (by omega)]; exact hel
  rw [← rA (k := k) hl he h1]
  obtain ⟨r, hr⟩ := pU (k := k) hl he
  have hp : i * sz ≤ (bc es k).length := by
    rw [nR hl]
    have hi : i < es.length := (List.getElem?_eq_some_iff.1 he).1
    have : i * sz ≤ es.length * sz := Nat.mul_le_mul_right _ (by omega)
    omega
  have hsplit : bc es k = (bc es k).take (i * sz) ++ (e.map A.d ++ r) := by rw [← hr, List.take_append_drop]
  generalize (bc es k).take (i * sz) = X at hsplit
  have hX : X.length = i * sz := by
    have := congrArg List.length hsplit
    have h2 := congrArg List.length hr
    rw [List.length_drop] at h2
    simp at this h2
    omega
  rw [hsplit]
  unfold setAt gD
  have e1 : (X ++ (e.map A.d ++ r)).take (i * sz + off) = X ++ (e.map A.d).take off := by
    rw [← hX, List.take_append]
    simp
    rw [List.take_append_of_le_length (by simp; omega), List.take_of_length_le (by omega)]
  have e2 : (X ++ (e.map A.d ++ r)).drop (i * sz + off + (cs.map A.d).length) = (e.map A.d).drop (off + cs.length) ++ r := by
    rw [← hX, List.length_map, Nat.add_assoc, List.drop_append]
    simp
    rw [List.drop_append_of_le_length (by simp; omega), List.drop_eq_nil_of_le (by omega), List.nil_append]
  have e3 : (X ++ (e.map A.d ++ r)).take (i * sz) = X := by rw [← hX, List.take_left]
  have e4 : (X ++ (e.map A.d ++ r)).drop (i * sz + ((e.take off ++ cs ++ e.drop (off + cs.length)).map A.d).length) = r := by
    have : ((e.take off ++ cs ++ e.drop (off + cs.length)).map A.d).length = (e.map A.d).length := by simp; omega
    rw [this, ← hX, ← List.drop_drop, List.drop_left, List.drop_left]
  rw [e1, e2, e3, e4]
  simp [List.map_take, List.map_drop]
theorem qG {t : TypeId} {x y : Operand} {g i k p sz off : Nat} {es : List (List D)} {e cs : List D} (hx : av f x = some (.ptr g p)) (hp : p = i * sz + off) (hb : aA bx g = some (bc es k)) (ha : av f y = some a) (hcs : cellsOf bx a = some (cs.map A.d)) (hl : ∀ (x : List D), x ∈ es → x.length = sz) (he : es[i]? = some e)
    (hc : off + cs.length ≤ sz) (hsz : cF T t = cs.length) (hz : cs.length ≠ 0) {es' : List (List D)} (hes : es.set i (gD e off cs) = es')
    (h : WO P C n ops Q rest ⟨f, (g, bc es' k) :: bx, lv, gen⟩) : WO P C n ops Q (⟨none, .store t x y, ty, pos, af, none⟩ :: rest) ⟨f, bx, lv, gen⟩ := by
  subst hp
  have hi : i < es.length := (List.getElem?_eq_some_iff.1 he).1
  refine WO.store (st := ⟨f, bx, lv, gen⟩) T rfl rfl rfl hx hb ha hcs (by rw [List.length_map]; exact hsz) (by rw [List.length_map]; exact hz) ?_ ?_
  · apply Nat.ble_eq_true_of_le
    rw [List.length_map, nR hl]
    have : (i + 1) * sz ≤ es.length * sz := Nat.mul_le_mul_right _ hi
    rw [Nat.succ_mul] at this
    omega
  · rw [u9 hl he hc, hes]
    exact h
end
end Go.Ab
namespace Go.Tb
open Go.Ab
structure rZ where
  left : List Nat
  right : List Nat
  m : Nat
  t : Nat
  more : List Nat
def lD (o : rZ) (x y : List aM) : Bool := decide ((a7 x o.m).kind = 0) || (decide ((a7 y o.t).kind = 0) || (decide ((a7 x o.m).n < (a7 y o.t).n) || !ep (bq x o.left) (bq y o.right)))
def gw (bs : List (List aM)) (i : Nat) : List aM := bs.getD i []
def kL (o : rZ) (bs : List (List aM)) (x : List aM) : List (List aM) → Nat → Option Nat → Option Nat
  | [], _, b => b
  | y :: r, k, b => if lD o x y = true then kL o bs x r (k + 1) b else
      if idx b < 0 ∨ (a7 (gw bs (idx b).toNat) o.t).n ≤ (a7 y o.t).n then kL o bs x r (k + 1) (some k) else kL o bs x r (k + 1) b
def uK (o : rZ) (bs : List (List aM)) (b : Option Nat) : List aM := match b with
  | none => List.replicate o.more.length dq
  | some i => bq (gw bs i) o.more
def jC (o : rZ) (bs : List (List aM)) (x : List aM) : List aM := x ++ uK o bs (kL o bs x bs 0 none)
def xt (a b : bt) (on : List ByteArray) : rZ := ⟨on.map (bM a.cols), on.map (bM b.cols), bM a.cols aQ, bM b.cols aQ, cS (on ++ [aQ]) b.cols 0⟩
def gf (a b : bt) (on : List ByteArray) : bt × Int :=
  if (dJ 8 on a b).2 ≠ 0 then (fE, (dJ 8 on a b).2) else (⟨(dJ 8 on a b).1, a.rows.map (jC (xt a b on) b.rows)⟩, 0)
structure xZ (o : rZ) (n m : Nat) : Prop where
  left : ∀ i ∈ o.left, i < n
  right : ∀ i ∈ o.right, i < m
  mm : o.m < n
  tt : o.t < m
  more : ∀ i ∈ o.more, i < m
theorem x8 {a b : bt} {on : List ByteArray} (h : vd a b on (aO 8)) : xZ (xt a b on) a.cols.length b.cols.length := by
  have e : aO 8 = [aQ] := rfl
  rw [e] at h
  refine ⟨fun i hi => ?_, fun i hi => ?_, ?_, ?_, fun i hi => ?_⟩
  · obtain ⟨s, hs, rfl⟩ := List.mem_map.1 hi
    obtain ⟨i, j, c, d, h1, h2, h3, h4, _⟩ := h.ons s hs
    rw [b7 h1]; exact (List.getElem?_eq_some_iff.1 h3).1
  · obtain ⟨s, hs, rfl⟩ := List.mem_map.1 hi
    obtain ⟨i, j, c, d, h1, h2, h3, h4, _⟩ := h.ons s hs
    rw [b7 h2]; exact (List.getElem?_eq_some_iff.1 h4).1
  · obtain ⟨i, c, h1, h2, _⟩ := h.spa aQ (by simp)
    show bM a.cols aQ < _
    rw [b7 h1]; exact (List.getElem?_eq_some_iff.1 h2).1
  · obtain ⟨i, c, h1, h2, _⟩ := h.spb aQ (by simp)
    show bM b.cols aQ < _
    rw [b7 h1]; exact (List.getElem?_eq_some_iff.1 h2).1
  · have := lO _ b.cols 0 i hi
    omega
theorem rn {bs : List (List aM)} {i : Nat} (h : i < bs.length) : bs[i]? = some (gw bs i) := by
  unfold gw
  rw [List.getD_eq_getElem?_getD, List.getElem?_eq_getElem h]; rfl
end Go.Tb
namespace Go.Ab
section
variable {P : Program} {C : Ctx} {n : Nat} {Q : Exit → St → Prop}
variable {f : List (Nat × A)} {bx : List (Nat × List A)} {lv : List Nat} {gen : Nat} {c : Code}
theorem qu (s : Nat) {g : Nat} {es : List (List D)} (hl : look f s = some (.own g es)) (hsn : Nat.blt s n = true) (h : W P C n c Q ⟨(s, .d (.sl es)) :: f, bx, lv, gen⟩) : W P C n c Q ⟨f, bx, lv, gen⟩ := by
  intro tmps w ⟨G, hs⟩
  obtain ⟨v, hv, hr⟩ := hs.frame s _ hl
  cases hr with
  | own _ _ _ hd _ _ =>
  refine h tmps w ⟨G, ?_⟩
  have := hs.set (d := s) (Nat.le_of_ble_eq_true hsn) (.d hd)
  rwa [hZ hv] at this
end
end Go.Ab
namespace Go.Tb
open Go.Ab
structure xY (left : List Nat) (m0 m1 n : Nat) : Prop where
  left : ∀ i ∈ left, i < n
  m0 : m0 < n
  m1 : m1 < n
theorem w6 {a : bt} {on : List ByteArray} (h : vN a on) : xY (on.map (bM a.cols)) (bM a.cols aQ) (bM a.cols bA) a.cols.length := by
  refine ⟨fun i hi => ?_, ?_, ?_⟩
  · obtain ⟨s, hs, rfl⟩ := List.mem_map.1 hi
    obtain ⟨i, c, h1, h2⟩ := h.ons s hs
    rw [b7 h1]; exact (List.getElem?_eq_some_iff.1 h2).1
  · obtain ⟨i, c, h1, h2, _⟩ := h.fr
    rw [b7 h1]; exact (List.getElem?_eq_some_iff.1 h2).1
  · obtain ⟨i, c, h1, h2, _⟩ := h.to
    rw [b7 h1]; exact (List.getElem?_eq_some_iff.1 h2).1
end Go.Tb
namespace Go.Ab
section
variable {P : Program} {C : Ctx} {n : Nat} {ops : Array Oper} {Q : Exit → St → Prop} {rest : List Oper}
variable {f : List (Nat × A)} {bx : List (Nat × List A)} {lv : List Nat} {gen : Nat}
end
end Go.Ab
namespace Go.Tb
open Go.Ab
deriving instance DecidableEq for bt
def b8 (n : Int) : aM := ⟨2, n, B #[]⟩
def m9 (s : ByteArray) : aM := ⟨3, 0, s⟩
def fH (s : ByteArray) : Col := ⟨s, if s = B #[107] then 3 else 2⟩
def kk : List (List aM) → Int → Int
  | [], n => n
  | r :: l, n => if n ≤ 600 then kk l (IntKind.i64.wrap (IntKind.i64.wrap (n + 1) + (r.length : Int))) else n
def kg (t : bt) : Bool := decide (kk t.rows (t.cols.length : Int) ≤ 600) && decide ((t.cols.length : Int) ≤ 40)
def om (a b : bt) (on : List ByteArray) : Bool := kg a && (kg b && decide ((on.length : Int) ≤ 40))
theorem uV {a b : bt} {on : List ByteArray} (h : om a b on = true) : on.length ≤ 40 ∧ a.cols.length ≤ 40 ∧ b.cols.length ≤ 40 := by
  simp only [om, kg, Bool.and_eq_true, decide_eq_true_eq] at h
  omega
end Go.Tb
namespace Go.Tb
open Go.Ab
def iS (op : Int) (on : List ByteArray) (a b : bt) : CT := if op = 9 then fR 9 on a else dJ op on a b
def fh (ca cb : List Col) (x y : List aM) (on : List ByteArray) : Bool :=
  on.all fun s => !decide ((a7 x (bM ca s)).kind = 0) && decide (dI (a7 x (bM ca s)) (a7 y (bM cb s)) = 0)
def jL (r : List aM) (i j : Nat) : Bool := !decide ((a7 r i).kind = 0) && (!decide ((a7 r j).kind = 0) && decide ((a7 r i).n < (a7 r j).n))
def fW (row : List aM) (not : List ByteArray) (cols : List Col) : List aM := (cS not cols 0).map fun i => if 0 < row.length then a7 row i else dq
def nT (row : List aM) (i j : Nat) (f t : Int) : List aM := (row.set i (b8 f)).set j (b8 t)
theorem oI {r : List aM} {i : Nat} {v : aM} (w : aM) : (r.map aM.c).set i (gD w.c 0 v.c) = (r.set i v).map aM.c := by
  rw [List.map_set]
  rfl
end Go.Tb
namespace Go.Tb
open Go.Ab
theorem vR {v : aM} (h : bP 2 v = 0) : decide (v.kind = 2) = !decide (v.kind = 0) := by
  rcases ib h with rfl | ⟨h1, _⟩
  · rfl
  · rw [h1]; rfl
theorem rj {t : bt} (h : bl t = 0) {r : List aM} (hr : r ∈ t.rows) {i j : Nat} {c d : Col} (hi : t.cols[i]? = some c) (hj : t.cols[j]? = some d) (hc : c.type = 2) (hd : d.type = 2) : jL r i j = bY r i j := by
  have h1 := (lh h hr hi).2
  have h2 := (lh h hr hj).2
  rw [hc] at h1
  rw [hd] at h2
  unfold jL bY
  rw [vR h1, vR h2]
theorem uj {k : Int} {v w : aM} (hv : bP k v = 0) (hw : bP k w = 0) : (!decide (v.kind = 0) && decide (dI v w = 0)) = (decide (v = w) && !decide (dq = v)) := by
  have hn := vk hv
  by_cases q : v = dq
  · have : v.kind = 0 := hn.2 q
    have q3 : dq.kind = 0 := rfl
    simp [q, q3]
  · have q1 : ¬ v.kind = 0 := fun h => q (hn.1 h)
    have q2 : ¬ dq = v := fun h => q h.symm
    by_cases q3 : v = w
    · subst q3
      have : dI v v = 0 := by
        rcases ub v with h | h
        · rcases ib hv with h0 | ⟨h1, _, _, _, h5, _⟩
          · exact absurd h0 q
          · unfold dI
            rw [h1] at h
            simp [h1, h, ie]
        · exact h
      simp [q1, q2, this]
    · have : ¬ dI v w = 0 := fun h => q3 (wA hv hw h)
      simp [q3, this]
theorem rT (v w : aM) (l m : List aM) : ep (v :: l) (w :: m) = ((decide (v = w) && !decide (dq = v)) && ep l m) := by
  unfold ep
  simp only [List.any_cons, List.cons.injEq]
  by_cases q : v = w <;> by_cases q2 : l = m <;> simp [q, q2, Bool.not_or]
theorem pH {a b : bt} {x y : List aM} (ha : bl a = 0) (hb : bl b = 0) (hx : x ∈ a.rows) (hy : y ∈ b.rows) : ∀ {on : List ByteArray},
    (∀ s ∈ on, ∃ i j c d, cP a.cols s = some i ∧ cP b.cols s = some j ∧ a.cols[i]? = some c ∧ b.cols[j]? = some d ∧ c.type = d.type) →
    fh a.cols b.cols x y on = ep (bq x (on.map (bM a.cols))) (bq y (on.map (bM b.cols)))
  | [], _ => rfl
  | s :: r, h => by
    have ih := pH ha hb hx hy (on := r) (fun s hs => h s (List.mem_cons_of_mem _ hs))
    obtain ⟨i, j, c, d, h1, h2, h3, h4, h5⟩ := h s List.mem_cons_self
    have e1 : fh a.cols b.cols x y (s :: r) = ((!decide ((a7 x (bM a.cols s)).kind = 0) && decide (dI (a7 x (bM a.cols s)) (a7 y (bM b.cols s)) = 0)) && fh a.cols b.cols x y r) := rfl
    have hv := (lh ha hx h3).2
    have hw := (lh hb hy h4).2
    rw [← h5] at hw
    rw [e1, ih, b7 h1, b7 h2, uj hv hw]
    show _ = ep (a7 x (bM a.cols s) :: bq x (r.map (bM a.cols))) (a7 y (bM b.cols s) :: bq y (r.map (bM b.cols)))
    rw [rT, b7 h1, b7 h2]
end Go.Tb
namespace Go.Tb
open Go.Ab
theorem vL {v : aM} (h : bP 2 v = 0) (hk : v.kind = 2) : v.s = B #[] := by
  rcases ib h with rfl | ⟨_, _, _, h3, _⟩
  · exact absurd hk (by decide)
  · exact h3 (by decide)
theorem wC {r : List aM} {i j : Nat} {v : aM} (hj : j < r.length) : a7 (r.set i v) j = if i = j then v else a7 r j := by
  unfold a7
  rw [List.getD_eq_getElem?_getD, List.getD_eq_getElem?_getD, List.getElem?_set]
  by_cases q : i = j
  · subst q; simp [hj]
  · simp [q]
theorem qC {r m : List aM} {i : Nat} (h : i < r.length) : a7 (r ++ m) i = a7 r i := by
  unfold a7
  rw [List.getD_eq_getElem?_getD, List.getD_eq_getElem?_getD, List.getElem?_append_left h]
theorem vB {z m : List aM} {i j : Nat} {f u : Int} (hi : i < z.length) (hj : j < z.length) (k1 : (a7 z i).kind = 2) (s1 : (a7 z i).s = B #[]) (k2 : (a7 z j).kind = 2) (s2 : (a7 z j).s = B #[]) :
    jf (jf (z ++ m) i f) j u = nT z i j f u ++ m := by
  have e1 : jf (z ++ m) i f = z.set i (b8 f) ++ m := by
    unfold jf
    rw [qC hi, k1, s1, List.set_append_left i _ hi]
    rfl
  rw [e1]
  have hj2 : j < (z.set i (b8 f)).length := by rw [List.length_set]; exact hj
  have hk : (a7 (z.set i (b8 f)) j).kind = 2 ∧ (a7 (z.set i (b8 f)) j).s = B #[] := by
    rw [wC hj]
    split
    · exact ⟨rfl, rfl⟩
    · exact ⟨k2, s2⟩
  unfold jf nT
  rw [qC hj2, hk.1, hk.2, List.set_append_left j _ hj2]
  rfl
theorem nn {not not' : List ByteArray} (h : ∀ s, not.any (fun x => decide (s = x)) = not'.any (fun x => decide (s = x))) : ∀ (cols : List Col) (i : Nat), cS not cols i = cS not' cols i
  | [], _ => rfl
  | c :: r, i => by simp only [cS, h c.name, nn h r (i + 1)]
theorem sC (l m : List ByteArray) (cols : List Col) (i : Nat) : cS (l ++ m) cols i = cS (m ++ l) cols i :=
  nn (fun s => by rw [List.any_append, List.any_append, Bool.or_comm]) cols i
theorem sU {y : List aM} (hy : 0 < y.length) (not : List ByteArray) (cols : List Col) : fW y not cols = bq y (cS not cols 0) := by
  unfold fW bq
  simp only [if_pos hy]
end Go.Tb
