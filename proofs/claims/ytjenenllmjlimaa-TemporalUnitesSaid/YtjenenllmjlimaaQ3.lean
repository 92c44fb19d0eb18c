import Derived.Test.YtjenenllmjlimaaQ2
import Derived.Laws.MakeOwn
namespace Go.Ab
open Go.RowKit
structure iG where
  bxF : Nat → List (Nat × List A)
  bxT : Nat → List (Nat × List A)
  lv : Nat → List Nat
  gen : Nat → Nat
  ord : Nat → List Nat
  g0 : Nat
  z : List A
  cs : List Nat
  al : Nat
  R : List PanicEntry → Prop
def iG.bx (S : iG) (k : Nat) (b : Bool) : List (Nat × List A) := bif b then S.bxT k else S.bxF k
abbrev xh (im : List (List (Nat × List A))) (lvs : List (List Nat)) (gens : List Nat) (cs : List Nat) (al : Nat) : iG := ⟨fun _ => [], fun k => im.getD k [], fun k => lvs.getD k [], fun k => gens.getD k 0, fun _ => [], 0, [], cs, al, fun _ => False⟩
def fG (S : iG) (ops : Array Oper) (i k : Nat) (b : Bool) : Bool :=
  ((List.range S.cs.length).all fun j => bif Nat.blt j k then !cr .any ops ops.size (S.cs.getD j 0) i else !cr .any ops ops.size i (S.cs.getD j 0)) &&
  (bif b then !cr .any ops ops.size S.al i else (Nat.blt S.al ops.size && !cr .any ops ops.size i S.al))
theorem ak {S : iG} {ops : Array Oper} {i k : Nat} {b : Bool} (h : fG S ops i k b = true) (h' : fG S ops i k b = false) : False := by rw [h] at h'; cases h'
section
variable {P : Program} (T : cd P) {C : Ctx} {n : Nat} (S : iG) {ops : Array Oper}
abbrev SD := cS × Nat × Bool
def xD (C : Ctx) (n : Nat) (S : iG) (b0 : Bool) (σ : SD) (act : Act) (w : World) : Prop :=
  (b0 = true → σ.2.2 = true) ∧ act.defers = C.ds ∧ ∃ G, dC C n (S.bx σ.2.1 σ.2.2) (S.lv σ.2.1) (S.gen σ.2.1) σ.1 G act.tmps w ∧ (σ.2.2 = false → ∀ t a, σ.1 t = some a → bG (S.ord σ.2.1) a = a)
def x5 (P : Program) (C : Ctx) (n : Nat) (S : iG) (ops : Array Oper) (o : Oper) (a : A) (k : Nat) (b : Bool) (φ : cS) : Prop :=
  o.guard = none ∧ ∃ p, (∀ t x, look p t = some x → φ t = some x ∧ t ∈ o.looksAt ops) ∧
    ∀ g, WO P C n ops (fun e st => (e = .normal ∧ st = St.put ⟨p ++ g, S.bx (k + 1) b, S.lv (k + 1), S.gen (k + 1)⟩ o.dst a) ∨ ∃ c, e = .panic c ∧ S.R c) [o] ⟨p ++ g, S.bx k b, S.lv k, S.gen k⟩
def YD (P : Program) (T : cd P) (C : Ctx) (n : Nat) (S : iG) (ops : Array Oper) (i : Nat) (a : A) (σ : SD) : Prop :=
  ∃ o, ops[i]? = some o ∧ dD n o.dst = true ∧ σ.2.1 ≤ S.cs.length ∧ fG S ops i σ.2.1 σ.2.2 = true ∧
    ((S.cs[σ.2.1]? = some i ∧ i ≠ S.al ∧ (∀ b, fG S ops i σ.2.1 b = true → x5 P C n S ops o a σ.2.1 b σ.1) ∧ (fG S ops i σ.2.1 false = true → bG (S.ord (σ.2.1 + 1)) a = a)) ∨
     (i ∉ S.cs ∧ i = S.al ∧ σ.2.2 = false ∧ o.guard = none ∧ a = .ptr S.g0 0 ∧ ∃ e d dt, o.op = .alloc e ∧ o.dst = some d ∧ ax T.l e = some dt ∧ S.z = dt.z.map fun v => A.d (.v v)) ∨
     (i ∉ S.cs ∧ i ≠ S.al ∧ ∀ k b, k ≤ S.cs.length → fG S ops i k b = true → YA P C n (S.bx k b) (S.lv k) (S.gen k) ops o a σ.1 ∧ (b = false → bG (S.ord k) a = a)))
def sZ (S : iG) (ops : Array Oper) (i : Nat) (a : A) (σ : SD) : SD :=
  match ops[i]? with
  | none => σ
  | some o => (bz σ.1 o.dst a, (if S.cs[σ.2.1]? = some i then σ.2.1 + 1 else σ.2.1), if i = S.al then true else σ.2.2)
variable {T} {S}
theorem nv {o : Oper} {a : A} {k : Nat} {b : Bool} {φ : cS} {dst : Option Nat} {x : A} (hd : ∀ d, dst = some d → d ∉ o.looksAt ops) : x5 P C n S ops o a k b (bz φ dst x) ↔ x5 P C n S ops o a k b φ := by
  constructor
  · rintro ⟨h0, p, h1, h2⟩
    exact ⟨h0, p, fun t y hy => ⟨(eG hd (h1 t y hy).2).symm.trans (h1 t y hy).1, (h1 t y hy).2⟩, h2⟩
  · rintro ⟨h0, p, h1, h2⟩
    exact ⟨h0, p, fun t y hy => ⟨(eG hd (h1 t y hy).2).trans (h1 t y hy).1, (h1 t y hy).2⟩, h2⟩
theorem sh {i k c : Nat} {b : Bool} (h : S.cs[k]? = some c) (hl : loose .any ops i c) : fG S ops i (k + 1) b = fG S ops i k b := by
  unfold fG
  congr 1
  rw [Bool.eq_iff_iff, List.all_eq_true, List.all_eq_true]
  have hk : S.cs.getD k 0 = c := by simp [List.getD_eq_getElem?_getD, h]
  have key : ∀ j, (bif Nat.blt j (k + 1) then !cr .any ops ops.size (S.cs.getD j 0) i else !cr .any ops ops.size i (S.cs.getD j 0)) = (bif Nat.blt j k then !cr .any ops ops.size (S.cs.getD j 0) i else !cr .any ops ops.size i (S.cs.getD j 0)) := fun j => by
    rcases Nat.lt_trichotomy j k with hj | rfl | hj
    · have h1 : Nat.blt j (k + 1) = true := by simp [Nat.blt_eq]; omega
      have h2 : Nat.blt j k = true := by simp [Nat.blt_eq]; omega
      rw [h1, h2]
    · have h1 : Nat.blt j (j + 1) = true := by simp [Nat.blt_eq]
      have h2 : Nat.blt j j = false := by cases q : Nat.blt j j with | false => rfl | true => simp [Nat.blt_eq] at q
      rw [h1, h2, hk, hl.1, hl.2]
      rfl
    · have h1 : Nat.blt j (k + 1) = false := by cases q : Nat.blt j (k + 1) with | false => rfl | true => simp [Nat.blt_eq] at q; omega
      have h2 : Nat.blt j k = false := by cases q : Nat.blt j k with | false => rfl | true => simp [Nat.blt_eq] at q; omega
      rw [h1, h2]
  exact ⟨fun h j hj => by rw [← key]; exact h j hj, fun h j hj => by rw [key]; exact h j hj⟩
theorem oE {i k : Nat} (hlt : S.al < ops.size) (hl : loose .any ops i S.al) : fG S ops i k true = fG S ops i k false := by
  unfold fG
  have h : Nat.blt S.al ops.size = true := by rw [Nat.blt_eq]; exact hlt
  rw [hl.1, hl.2, h]
  rfl
theorem loose.symm {md : Region.Mode} {i j : Nat} (h : loose md ops i j) : loose md ops j i := ⟨h.2, h.1⟩
theorem kV {i : Nat} {o : Oper} (h : ops[i]? = some o) (a : A) (σ : SD) : sZ S ops i a σ = (bz σ.1 o.dst a, (if S.cs[σ.2.1]? = some i then σ.2.1 + 1 else σ.2.1), if i = S.al then true else σ.2.2) := by unfold sZ; rw [h]
theorem rH {i k c : Nat} {b : Bool} (h : S.cs[k]? = some c) (hl : loose .any ops i c) (ha : fG S ops i (k + 1) b = true) : fG S ops i k b = true := by rw [← sh h hl]; exact ha
theorem sf {i k c : Nat} {b : Bool} (h : S.cs[k]? = some c) (hl : loose .any ops i c) (ha : fG S ops i k b = true) : fG S ops i (k + 1) b = true := by rw [sh h hl]; exact ha
theorem yd (hch : ∀ k c c', S.cs[k]? = some c → S.cs[k + 1]? = some c' → cr .any ops ops.size c' c = true) {i j : Nat} {oi oj : Oper} (hi : ops[i]? = some oi) (hj : ops[j]? = some oj) (hij : i ≠ j) (hap : oi.apart ops oj = true) (hl : loose .any ops i j) :
    mL (YD P T C n S ops) (sZ S ops) i j := by
  obtain ⟨a1, a2, a3⟩ := Oper.apart_spec hap
  rintro a b ⟨φ, k, ph⟩ ⟨oi', hi', di, hk, ai, hyi⟩ ⟨oj', hj', dj, hk2, aj, hyj⟩
  rw [hi] at hi'
  cases hi'
  rw [hj] at hj'
  cases hj'
  have hcomm : bz (bz φ oi.dst a) oj.dst b = bz (bz φ oj.dst b) oi.dst a := kr φ a b a2
  have mem_of : ∀ {k c : Nat}, S.cs[k]? = some c → c ∈ S.cs := fun h => List.mem_of_getElem? h
  have klt : ∀ {k c : Nat}, S.cs[k]? = some c → k + 1 ≤ S.cs.length := fun h => (List.getElem?_eq_some_iff.1 h).1
  rw [kV hi] at aj hyj hk2
  simp only [kV hi, kV hj]
  simp only at hk ai hyi hk2 aj hyj
  rcases hyi with ⟨ci, nai, xi, fi⟩ | ⟨nci, ali, rfl, gi, ei, hi6⟩ | ⟨nci, nai, yi⟩
  · -- i is of the chain
    simp only [if_pos ci, if_neg nai] at aj hyj hk2
    rcases hyj with ⟨cj, _⟩ | ⟨ncj, alj, rfl, gj, ej, hj6⟩ | ⟨ncj, naj, yj⟩
    · exact absurd (hch k i j ci cj) (by rw [hl.2]; simp)
    · have hsi : loose .any ops i S.al := by rw [← alj]; exact hl
      have hlt : S.al < ops.size := by rw [← alj]; exact (Array.getElem?_eq_some_iff.1 hj).1
      have n1 : ¬ S.cs[k]? = some j := fun h => ncj (mem_of h)
      refine ⟨⟨oj, hj, dj, hk, rH ci hl.symm aj, .inr (.inl ⟨ncj, alj, rfl, gj, ej, hj6⟩)⟩, ?_, ?_⟩
      · refine ⟨oi, hi, di, ?_, ?_, .inl ⟨?_, nai, fun b hb => (nv a3).2 ?_, ?_⟩⟩
        all_goals simp only [if_neg n1]
        · exact hk
        · rw [if_pos alj, oE hlt hsi]; exact ai
        · exact ci
        · simp only [if_neg n1] at hb
          exact xi b hb
        · exact fi
      · simp only [if_pos ci, if_neg nai, if_pos alj, if_neg n1, hcomm]
        have n2 : ¬ S.cs[k + 1]? = some j := fun h => ncj (mem_of h)
        rw [if_neg n2]
    · have n1 : ¬ S.cs[k]? = some j := fun h => ncj (mem_of h)
      have n2 : ¬ S.cs[k + 1]? = some j := fun h => ncj (mem_of h)
      refine ⟨⟨oj, hj, dj, hk, rH ci hl.symm aj, .inr (.inr ⟨ncj, naj, fun k b h1 h2 => ⟨(dy a1).1 (yj k b h1 h2).1, (yj k b h1 h2).2⟩⟩)⟩, ?_, ?_⟩
      · refine ⟨oi, hi, di, ?_, ?_, .inl ⟨?_, nai, fun b hb => (nv a3).2 ?_, ?_⟩⟩
        all_goals simp only [if_neg n1]
        · exact hk
        · rw [if_neg naj]; exact ai
        · exact ci
        · simp only [if_neg n1] at hb
          exact xi b hb
        · exact fi
      · simp only [if_pos ci, if_neg nai, if_neg naj, if_neg n1, if_neg n2, hcomm]
  · -- i is the allocation
    have n1 : ¬ S.cs[k]? = some i := fun h => nci (mem_of h)
    simp only [if_neg n1, if_pos ali] at aj hyj hk2
    have hsj : loose .any ops j S.al := by rw [← ali]; exact hl.symm
    have hlt : S.al < ops.size := by rw [← ali]; exact (Array.getElem?_eq_some_iff.1 hi).1
    rcases hyj with ⟨cj, naj, xj, fj⟩ | ⟨_, alj, h, _⟩ | ⟨ncj, naj, yj⟩
    · have n2 : ¬ S.cs[k + 1]? = some i := fun h => nci (mem_of h)
      refine ⟨⟨oj, hj, dj, hk, by rw [← oE hlt hsj]; exact aj, .inl ⟨cj, naj, fun b hb => (nv a1).1 (xj b hb), fj⟩⟩, ?_, ?_⟩
      · refine ⟨oi, hi, di, ?_, ?_, .inr (.inl ⟨nci, ali, ?_, gi, ei, hi6⟩)⟩
        all_goals simp only [if_pos cj, if_neg naj]
        · exact klt cj
        · exact sf cj hl ai
      · simp only [if_neg n1, if_pos ali, if_pos cj, if_neg naj, if_neg n2, hcomm]
    · exact absurd (ali.trans alj.symm) hij
    · have n3 : ¬ S.cs[k]? = some j := fun h => ncj (mem_of h)
      refine ⟨⟨oj, hj, dj, hk, by rw [← oE hlt hsj]; exact aj, .inr (.inr ⟨ncj, naj, fun k b h1 h2 => ⟨(dy a1).1 (yj k b h1 h2).1, (yj k b h1 h2).2⟩⟩)⟩, ?_, ?_⟩
      · refine ⟨oi, hi, di, ?_, ?_, .inr (.inl ⟨nci, ali, ?_, gi, ei, hi6⟩)⟩
        all_goals simp only [if_neg n3, if_neg naj]
        · exact hk
        · exact ai
      · simp only [if_neg n1, if_pos ali, if_neg n3, if_neg naj, hcomm]
  · -- i leaves the ghost
    have n1 : ¬ S.cs[k]? = some i := fun h => nci (mem_of h)
    simp only [if_neg n1, if_neg nai] at aj hyj hk2
    rcases hyj with ⟨cj, naj, xj, fj⟩ | ⟨ncj, alj, rfl, gj, ej, hj6⟩ | ⟨ncj, naj, yj⟩
    · have n2 : ¬ S.cs[k + 1]? = some i := fun h => nci (mem_of h)
      refine ⟨⟨oj, hj, dj, hk, aj, .inl ⟨cj, naj, fun b hb => (nv a1).1 (xj b hb), fj⟩⟩, ?_, ?_⟩
      · refine ⟨oi, hi, di, ?_, ?_, .inr (.inr ⟨nci, nai, fun k b h1 h2 => ⟨(dy a3).2 (yi k b h1 h2).1, (yi k b h1 h2).2⟩⟩)⟩
        all_goals simp only [if_pos cj, if_neg naj]
        · exact klt cj
        · exact sf cj hl ai
      · simp only [if_neg n1, if_neg nai, if_pos cj, if_neg naj, if_neg n2, hcomm]
    · have n3 : ¬ S.cs[k]? = some j := fun h => ncj (mem_of h)
      have hsi : loose .any ops i S.al := by rw [← alj]; exact hl
      have hlt : S.al < ops.size := by rw [← alj]; exact (Array.getElem?_eq_some_iff.1 hj).1
      refine ⟨⟨oj, hj, dj, hk, aj, .inr (.inl ⟨ncj, alj, rfl, gj, ej, hj6⟩)⟩, ?_, ?_⟩
      · refine ⟨oi, hi, di, ?_, ?_, .inr (.inr ⟨nci, nai, fun k b h1 h2 => ⟨(dy a3).2 (yi k b h1 h2).1, (yi k b h1 h2).2⟩⟩)⟩
        all_goals simp only [if_neg n3, if_pos alj]
        · exact hk
        · rw [oE hlt hsi]; exact ai
      · simp only [if_neg n1, if_neg nai, if_neg n3, if_pos alj, hcomm]
    · have n3 : ¬ S.cs[k]? = some j := fun h => ncj (mem_of h)
      refine ⟨⟨oj, hj, dj, hk, aj, .inr (.inr ⟨ncj, naj, fun k b h1 h2 => ⟨(dy a1).1 (yj k b h1 h2).1, (yj k b h1 h2).2⟩⟩)⟩, ?_, ?_⟩
      · refine ⟨oi, hi, di, ?_, ?_, .inr (.inr ⟨nci, nai, fun k b h1 h2 => ⟨(dy a3).2 (yi k b h1 h2).1, (yi k b h1 h2).2⟩⟩)⟩
        all_goals simp only [if_neg n3, if_neg naj]
        · exact hk
        · exact ai
      · simp only [if_neg n1, if_neg nai, if_neg n3, if_neg naj, hcomm]
theorem WO.yk {o : Oper} (hg : o.guard = none) {st : St} {Q1 Q2 : Exit → St → Prop} (hl : ∀ e st, Q1 e st → e ≠ .outgrown) (hq : ∀ e st, Q1 e st → Q2 e st) (h : WO P C n ops Q1 [o] st) : WO P C n ops Q2 [o] st := by
  intro tmps w hs
  have hw : Region.wanted o (yielded ops tmps) = true := by simp [Region.wanted, hg]
  have h := h tmps w hs
  simp only [gm, hw, if_true] at h ⊢
  refine Oper.qL (fun c a w ⟨h1, st', h2, h3⟩ => ⟨h1, st', h2, hq _ _ h3⟩) (fun hlo => by obtain ⟨_, _, hq0⟩ := hlo; obtain ⟨_, st', _, he⟩ := hq0; exact hl _ _ he rfl) (fun act2 w2 ⟨h1, st', h2, h3⟩ => ⟨h1, st', h2, hq _ _ h3⟩) h
theorem WO.xW {o : Oper} (hg : o.guard = none) {st st1 : St} {G : Gh} {tmps : Array Value} {w : World} {R : List PanicEntry → Prop} {Q' : Exit → Act → World → Prop} (hR : ∀ c act w, R c → act.defers = C.ds → (∃ st, gH C n st act.tmps w) → Q' (.panic c) act w) (h : WO P C n ops (fun e st => (e = .normal ∧ st = st1) ∨ ∃ c, e = .panic c ∧ R c) [o] st) (hs : aP C n st G tmps w) :
    o.wp P ⟨tmps, C.ds⟩ w (fun act w => act.defers = C.ds ∧ ∃ G, aP C n st1 G act.tmps w) Q' := by
  have hw : Region.wanted o (yielded ops tmps) = true := by simp [Region.wanted, hg]
  have h := h tmps w ⟨G, hs⟩
  simp only [gm, hw, if_true] at h
  refine Oper.qL (fun c a w hq => ?_) (fun hl => ?_) (fun act2 w2 hq => ?_) h
  · obtain ⟨h1, st', h2, he | ⟨c', he, hc⟩⟩ := hq
    · cases he.1
    · cases he
      exact hR c a w hc h1 ⟨st', h2⟩
  · obtain ⟨_, _, hq⟩ := hl
    obtain ⟨_, st', _, he | ⟨c', he, hc⟩⟩ := hq
    · cases he.1
    · cases he
  · obtain ⟨hdf, st', ⟨G', hs2⟩, he | ⟨c', he, hc⟩⟩ := hq
    · obtain ⟨_, rfl⟩ := he
      exact ⟨hdf, G', hs2⟩
    · cases he
theorem sO {bx : List (Nat × List A)} {lv : List Nat} {gen : Nat} {φ : cS} {G : Gh} {tmps : Array Value} {w : World} (hs : dC C n bx lv gen φ G tmps w) (t : Nat) (x : A) (hx : φ t = some x) : t < n := by
  obtain ⟨v, h1, _⟩ := hs.2 t x hx
  have := (Array.getElem?_eq_some_iff.1 h1).1
  rw [hs.1.size] at this
  exact this
theorem sd {φ : cS} {p : List (Nat × A)} (hlt : ∀ t x, φ t = some x → t < n) (hp : ∀ t x, look p t = some x → φ t = some x) (t : Nat) : look (p ++ dT n φ) t = φ t := by
  rw [ri]
  cases q : look p t with
  | some x => exact (hp t x q).symm
  | none =>
    simp only
    unfold dT
    rw [kG]
    cases e : φ t with
    | none => split <;> rfl
    | some x => rw [if_pos (List.mem_range.2 (hlt t x e))]
theorem qm {φ : cS} {f : List (Nat × A)} (h : ∀ t, look f t = φ t) {d : Nat} {a : A} {t : Nat} : look ((d, a) :: f) t = bz φ (some d) a t := by
  rw [bp]
  simp only [bz]
  by_cases e : t = d
  · subst e
    rw [if_pos rfl, if_pos rfl]
  · rw [if_neg e, if_neg (Ne.symm e), h]
def vF (S : iG) (nb k : Nat) : Prop := (j6 (S.ord k) (S.gen k) nb = true ∧ pos (S.ord k) (S.gen k) = some S.g0) ∧ ja (S.ord k) ((S.gen k, S.z) :: S.bxF k) (S.bxT k) ∧ qF (S.ord k) (S.lv k) (S.lv k) = true
def oH (S : iG) (nb : Nat) : Nat → Prop
  | 0 => vF S nb 0
  | k + 1 => vF S nb (k + 1) ∧ tR (S.ord k) (S.ord (k + 1)) = true ∧ oH S nb k
theorem oH.at {nb : Nat} : ∀ {m : Nat}, oH S nb m → ∀ k, k ≤ m → vF S nb k
  | 0, h, k, hk => by obtain rfl : k = 0 := by omega
                      exact h
  | m + 1, h, k, hk => by
    rcases Nat.lt_or_ge k (m + 1) with hlt | hge
    · exact oH.at h.2.2 k (by omega)
    · obtain rfl : k = m + 1 := by omega
      exact h.1
theorem oH.mono {nb : Nat} : ∀ {m : Nat}, oH S nb m → ∀ k, k < m → tR (S.ord k) (S.ord (k + 1)) = true
  | 0, _, k, hk => absurd hk (Nat.not_lt_zero _)
  | m + 1, h, k, hk => by
    rcases Nat.lt_or_ge k m with hlt | hge
    · exact oH.mono h.2.2 k hlt
    · obtain rfl : k = m := by omega
      exact h.2.1
theorem xH {nb : Nat} [hnb : NB C nb] (b0 : Bool) (hok : b0 = false → oH S nb S.cs.length) (i : Nat) (a : A) (σ : SD) (act : Act) (w : World) (K : Act → World → Prop) {Q' : Exit → Act → World → Prop} (hR : ∀ c act w, S.R c → act.defers = C.ds → (∃ st, gH C n st act.tmps w) → Q' (.panic c) act w) (hs : xD C n S b0 σ act w) (hy : YD P T C n S ops i a σ) (hK : ∀ act w, xD C n S b0 (sZ S ops i a σ) act w → K act w) : wpOp P ops Q' i K act w := by
  obtain ⟨tmps, dfs⟩ := act
  obtain ⟨hb0, rfl, G, hs, hfix⟩ := hs
  obtain ⟨φ, k, ph⟩ := σ
  obtain ⟨o, ho, hd, hkl, hal, hy⟩ := hy
  rw [kV ho] at hK
  simp only at hs hfix hkl hal hy hK hb0
  unfold wpOp
  simp only [ho]
  rcases hy with ⟨hc, nal, hx, hr⟩ | ⟨nc, hal', rfl, hg, rfl, e, d, dt, hop, hdst, he, hz⟩ | ⟨nc, nal, hya⟩
  · obtain ⟨hg, p, hp, hx⟩ := hx ph hal
    rw [if_pos hc, if_neg nal] at hK
    have hw : Region.wanted o (yielded ops tmps) = true := by simp [Region.wanted, hg]
    rw [hw, if_pos rfl]
    refine .inl ?_
    have hlook := sd (sO hs) (fun t x hx => (hp t x hx).1)
    have hs' := hs.jQ (f := p ++ dT n φ) fun t x hx => by rw [← hlook]; exact hx
    refine Oper.wp_mono (fun act2 w2 ⟨hdf, G', hs2⟩ => hK act2 w2 ⟨hb0, hdf, G', ?_, fun hph t x hx => ?_⟩) (WO.xW hg hR (hx (dT n φ)) hs')
    · show dC C n (S.bx (k + 1) ph) (S.lv (k + 1)) (S.gen (k + 1)) (bz φ o.dst a) G' act2.tmps w2
      cases hdst : o.dst with
      | none =>
        rw [hdst] at hs2
        refine ⟨{ hs2 with frame := fun t a ha => by simp [look] at ha }, fun t x hx => hs2.frame t x ?_⟩
        show look (p ++ dT n φ) t = some x
        rw [hlook]
        exact hx
      | some d =>
        rw [hdst] at hs2
        refine ⟨{ hs2 with frame := fun t a ha => by simp [look] at ha }, fun t x hx => hs2.frame t x ?_⟩
        show look ((d, a) :: (p ++ dT n φ)) t = some x
        rw [qm hlook]
        exact hx
    · simp only at hph hx
      have hbf : b0 = false := by cases b0 with | false => rfl | true => rw [hb0 rfl] at hph; cases hph
      have hm := tT ((hok hbf).mono k (List.getElem?_eq_some_iff.1 hc).1)
      cases hdst : o.dst with
      | none => rw [hdst] at hx; exact pZ hm x (hfix hph t x hx)
      | some d =>
        rw [hdst] at hx
        simp only [bz] at hx
        split at hx
        · cases hx; exact hr (by rw [← hph]; exact hal)
        · exact pZ hm x (hfix hph t x hx)
  · have hkc : ¬ S.cs[k]? = some i := fun h => nc (List.mem_of_getElem? h)
    rw [if_neg hkc, if_pos hal'] at hK
    have hw : Region.wanted o (yielded ops tmps) = true := by simp [Region.wanted, hg]
    rw [hw, if_pos rfl]
    refine .inl ?_
    have hbf : b0 = false := by cases b0 with | false => rfl | true => cases hb0 rfl
    obtain ⟨⟨hO, hpos⟩, hBR, hLR⟩ := (hok hbf).at k hkl
    have hlook : ∀ t, look (dT n φ) t = φ t := sd (p := []) (sO hs) (fun t x hx => by simp [look] at hx)
    have hs' := hs.jQ (f := dT n φ) fun t x hx => by rw [← hlook]; exact hx
    have hwo : WO P C n ops (fun e st => (e = .normal ∧ st = St.put ⟨dT n φ, (S.gen k, S.z) :: S.bx k false, S.lv k, S.gen k + 1⟩ o.dst (.ptr (S.gen k) 0)) ∨ ∃ c, e = .panic c ∧ False) [o] ⟨dT n φ, S.bx k false, S.lv k, S.gen k⟩ :=
      WO.alloc T hg hd hop he (WO.nil (.inl ⟨rfl, by rw [hz]⟩))
    refine Oper.wp_mono (fun act2 w2 ⟨hdf, G', hs2⟩ => hK act2 w2 ⟨fun _ => rfl, hdf, lx (S.ord k) G', ?_, fun h => by cases h⟩) (WO.xW (R := fun _ => False) hg (fun _ _ _ h => h.elim) hwo hs')
    simp only [j6, Bool.and_eq_true] at hO
    obtain ⟨⟨hO1, hO2⟩, hO3⟩ := hO
    rw [hdst] at hs2 ⊢
    have h3 : aP C n ⟨(d, .ptr S.g0 0) :: dT n φ, S.bxT k, S.lv k, S.gen k⟩ (lx (S.ord k) G') act2.tmps w2 := by
      refine aP.bG (gen' := S.gen k) hs2 (S.ord k) (iQ hO1) (Nat.le_of_ble_eq_true hO2) (fun i hi => ?_) (fun t x hx => ?_) (fun i l' hl' => ?_) (fun i hi => ?_)
      · have h4 := my hO3 i (by rw [← hnb.h]; exact hi)
        simpa using h4
      · rw [bp] at hx
        show ∃ a, look ((d, .ptr (S.gen k) 0) :: dT n φ) t = some a ∧ bG (S.ord k) a = x
        rw [bp]
        split at hx
        · rename_i e
          rw [if_pos e]
          cases hx
          exact ⟨_, rfl, by simp only [bG, hpos]⟩
        · rename_i e
          rw [if_neg e]
          rw [hlook] at hx ⊢
          exact ⟨x, hx, hfix rfl t x hx⟩
      · exact ja.le hBR i l' hl'
      · exact pM hLR i hi
    refine ⟨{ h3 with frame := fun t a ha => by simp [look] at ha }, fun t x hx => h3.frame t x ?_⟩
    show look ((d, _) :: dT n φ) t = some x
    rw [qm hlook]
    exact hx
  · have hkc : ¬ S.cs[k]? = some i := fun h => nc (List.mem_of_getElem? h)
    rw [if_neg hkc, if_neg nal] at hK
    obtain ⟨hya, hr⟩ := hya k ph hkl hal
    have hfix' : ph = false → ∀ t x, bz φ o.dst a t = some x → bG (S.ord k) x = x := fun hph t x hx => by
      cases hdst : o.dst with
      | none => rw [hdst] at hx; exact hfix hph t x hx
      | some d =>
        rw [hdst] at hx
        simp only [bz] at hx
        split at hx
        · cases hx; exact hr hph
        · exact hfix hph t x hx
    obtain ⟨_, ⟨hw, f, hf, hp⟩ | ⟨hw, rfl⟩⟩ := hya
    · rw [e6 hs hw]
      simp only [if_true]
      refine .inl ?_
      have hg : cF P o ⟨tmps, []⟩ w fun v w' => Below w.heap.size w w' ∧ aS (aB C G (S.gen k) w') v a := hp G tmps w (hs.jQ fun t x hx => (hf t x hx).1)
      refine hg.ds.wp fun v w' ⟨hb, hr⟩ => ?_
      rw [Act.fv]
      exact hK _ _ ⟨hb0, rfl, G, hs.step hb hd hr, hfix'⟩
    · rw [e6 hs hw]
      simp only [Bool.false_eq_true, if_false]
      rw [Act.fv]
      exact hK _ _ ⟨hb0, rfl, G, hs.step (Below.refl _ _) hd (.tup #[] [] rfl (by simp)), hfix'⟩
def CD (P : Program) (T : cd P) (C : Ctx) (n : Nat) (S : iG) (ops : Array Oper) (Q : St → Prop) (l : List Oper) (i : Nat) (f : List (Nat × A)) (k : Nat) (b : Bool) : Prop :=
  uF (YD P T C n S ops) (sZ S ops) (fun σ => ∃ f', (∀ t, look f' t = σ.1 t) ∧ σ.2 = (S.cs.length, true) ∧ Q ⟨f', S.bxT S.cs.length, S.lv S.cs.length, S.gen S.cs.length⟩) l i (look f, k, b)
def mS (ops : Array Oper) : List Nat → Bool
  | c :: c' :: r => cr .any ops ops.size c' c && mS ops (c' :: r)
  | _ => true
theorem nA {ops : Array Oper} : ∀ {cs : List Nat}, mS ops cs = true → ∀ k c c', cs[k]? = some c → cs[k + 1]? = some c' → cr .any ops ops.size c' c = true
  | [], _, k, c, c', h, _ => by simp at h
  | [_], _, k, c, c', _, h => by simp at h
  | x :: y :: r, h, k, c, c', h1, h2 => by
    simp only [mS, Bool.and_eq_true] at h
    cases k with
    | zero =>
      simp at h1 h2
      subst h1; subst h2
      exact h.1
    | succ k => exact nA h.2 k c c' (by simpa using h1) (by simpa using h2)
def oB (o : List Nat) : List (Nat × A) → Prop
  | [] => True
  | (_, a) :: r => bG o a = a ∧ oB o r
theorem oB.at {o : List Nat} : ∀ {f : List (Nat × A)}, oB o f → ∀ t a, look f t = some a → bG o a = a
  | [], _, t, a, h => by simp [look] at h
  | (s, x) :: r, hf, t, a, h => by
    rw [bp] at h
    split at h
    · cases h; exact hf.1
    · exact hf.2.at t a h
theorem W.so (T : cd P) {nb : Nat} [hnb : NB C nb] {id : Nat} {l l1 l2 : List Oper} {f : List (Nat × A)} {bx : List (Nat × List A)} {lv : List Nat} {gen : Nat} {Q : Exit → St → Prop} (S : iG) (b0 : Bool) (m : Nat) (hB : jr m l.toArray = true) (hch : mS l.toArray S.cs = true) (h1 : l.take m = l1) (h2 : l.drop m = l2)
    (hR : ∀ c st, S.R c → Q (.panic c) st) (hok : b0 = false → oH S nb S.cs.length ∧ oB (S.ord 0) f) (e1 : ∀ g c, ax (S.bx 0 b0) g = some c → ax bx g = some c) (e2 : S.lv 0 = lv) (e3 : Nat.ble gen (S.gen 0) = true)
    (h : CD P T C n S l.toArray (WO P C n l.toArray Q l2) l1 0 f 0 b0) : W P C n (.region id l.toArray true) Q ⟨f, bx, lv, gen⟩ := by
  subst h1; subst h2; subst e2
  intro tmps w ⟨G, hs⟩
  have hs : aP C n ⟨f, bx, S.lv 0, S.gen 0⟩ G tmps w := aP.wk hs (g := S.gen 0) (Nat.le_of_ble_eq_true e3)
  have hs : aP C n ⟨f, S.bx 0 b0, S.lv 0, S.gen 0⟩ G tmps w := { hs with box := fun g c hc => hs.box g c (e1 g c hc) }
  simp only [jr, Bool.and_eq_true] at hB
  obtain ⟨⟨⟨hm, hw⟩, hfore⟩, hlex⟩ := hB
  have hm : m ≤ l.length := by simpa using Nat.le_of_ble_eq_true hm
  have hb : Below w.heap.size w { w with drawn := w.drawn + 1 } := (Below.refl _ w).drew
  have hs' : dC C n (S.bx 0 b0) (S.lv 0) (S.gen 0) (look f) G tmps { w with drawn := w.drawn + 1 } := dC.vq (hs.iq hb).2
  have hlen : (l.take m).length = m := by simp; omega
  refine wp_region_any T.mixed ?_
  have hsz : l.toArray.size = (l.take m).length + (l.drop m).length := by simp; omega
  rw [hsz]
  have hcl : en .any l.toArray (Array.replicate ((l.take m).length + (l.drop m).length) false) := fun j oj _ hl _ _ _ => by
    by_cases q : j < (l.take m).length + (l.drop m).length
    · simp only [Array.getD_eq_getD_getElem?, Array.getElem?_replicate] at hl
      rw [if_pos q] at hl
      cases hl
    · simp only [Array.getD_eq_getD_getElem?, Array.getElem?_replicate] at hl
      rw [if_neg q] at hl
      cases hl
  refine lk (m := m) (Sm := xD C n S b0) (Y := YD P T C n S l.toArray) (ef := sZ S l.toArray) (Q := fun σ => ∃ f', (∀ t, look f' t = σ.1 t) ∧ σ.2 = (S.cs.length, true) ∧ WO P C n l.toArray Q (l.drop m) ⟨f', S.bxT S.cs.length, S.lv S.cs.length, S.gen S.cs.length⟩)
    (fun i e σ act w K hs hy hk => xH b0 (fun h => (hok h).1) i e σ act w K (fun c act w hc hd ⟨st, hs⟩ => ⟨hd, st, hs, hR c st hc⟩) hs hy hk) (fun listed σ act w hs hc hsp ⟨f', e1, e2, hq⟩ => ?_) _ _ (look f, 0, b0) ⟨tmps, C.ds⟩ _ ⟨fun h => h, rfl, G, hs', fun h => (hok h).2.at⟩ hcl ?_
  · obtain ⟨tmps, dfs⟩ := act
    obtain ⟨_, rfl, G, hs, _⟩ := hs
    rw [e2] at hs
    refine kI hw (lO hfore) (l.drop m) m listed ⟨tmps, C.ds⟩ w (Nat.le_refl _) (by simp; omega) (fun j => by simp [List.getElem?_drop]) hc hsp.1 hsp.2.1 hsp.2.2 ?_
    exact hq tmps w ⟨G, hs.jQ (fun t a ha => by rw [← e1]; exact ha)⟩
  · refine rO hw (fun i j oi oj hi hj hij him hjm hap hno => yd (nA hch) hi hj hij hap hno) (l.take m) 0 _ _ (by rw [hlen]; omega) (fun j hj => ?_) hcl (by simp; omega) (fun j hj => by omega) (fun j _ hj => ?_) (by rw [hlen]; rw [hsz, hlen] at hlex; exact hlex) h
    · rw [hlen] at hj
      rw [Nat.zero_add]
      simp [List.getElem?_take, hj]
    · have hj' : j < l.length := by simpa using hj
      have e : min m l.length + (l.length - m) = l.length := by omega
      simp [e, hj']
variable {op : Op} {ty : TypeId} {pos : String} {af : Array Edge} {a : A} {d i k : Nat} {rest : List Oper} {f : List (Nat × A)} {Q : St → Prop} {b : Bool}
theorem CD.nil (h : Q ⟨f, S.bxT S.cs.length, S.lv S.cs.length, S.gen S.cs.length⟩) (hk : Nat.beq k S.cs.length = true) : CD P T C n S ops Q [] i f k true := by
  have := Nat.eq_of_beq_eq_true hk
  subst this
  exact ⟨f, fun _ => rfl, rfl, h⟩
def rp (p : Nat → Bool → Prop) : Nat → Prop
  | 0 => p 0 false ∧ p 0 true
  | k + 1 => p (k + 1) false ∧ p (k + 1) true ∧ rp p k
theorem rp.at {p : Nat → Bool → Prop} : ∀ {m : Nat}, rp p m → ∀ k b, k ≤ m → p k b
  | 0, h, k, b, hk => by
    obtain rfl : k = 0 := by omega
    cases b
    · exact h.1
    · exact h.2
  | m + 1, h, k, b, hk => by
    rcases Nat.lt_or_ge k (m + 1) with hlt | hge
    · exact h.2.2.at k b (by omega)
    · obtain rfl : k = m + 1 := by omega
      cases b
      · exact h.1
      · exact h.2.1
def uC (x : Nat) (l : List Nat) : Bool := l.any fun y => Nat.beq x y
theorem wa {x : Nat} {l : List Nat} (h : uC x l = false) : x ∉ l := fun hm => by
  have : uC x l = true := List.any_eq_true.2 ⟨x, hm, by simp⟩
  rw [h] at this
  cases this
theorem yD (hp : rp (fun k b => fG S ops i k b = true → Pu P C n ⟨cf f (slotsOf op), S.bx k b, S.lv k, S.gen k⟩ ⟨some d, op, ty, pos, af, none⟩ a ∧ (b = false → bG (S.ord k) a = a)) S.cs.length)
    (hi : ops[i]? = some ⟨some d, op, ty, pos, af, none⟩) (h1 : uC i S.cs = false) (h2 : Nat.beq i S.al = false) (h3 : (Nat.ble k S.cs.length && fG S ops i k b) = true) (hd : Nat.blt d n = true)
    (h : CD P T C n S ops Q rest (i + 1) ((d, a) :: f) k b) : CD P T C n S ops Q (⟨some d, op, ty, pos, af, none⟩ :: rest) i f k b := by
  simp only [Bool.and_eq_true] at h3
  have nc := wa h1
  have na : i ≠ S.al := fun e => by subst e; simp at h2
  refine ⟨a, ⟨_, hi, hd, Nat.le_of_ble_eq_true h3.1, h3.2, .inr (.inr ⟨nc, na, fun k b hk ha => ⟨YA.q9 (hp.at k b hk ha).1 hd, (hp.at k b hk ha).2⟩⟩)⟩, ?_⟩
  rw [kV hi]
  simp only [if_neg na, if_neg (fun e => nc (List.mem_of_getElem? e) : ¬ S.cs[k]? = some i)]
  unfold CD at h
  rw [eJ] at h
  exact h
theorem aT (h0 : Pu P C n ⟨cf f (slotsOf op), S.bx k b, S.lv k, S.gen k⟩ ⟨some d, op, ty, pos, af, none⟩ a) (hp : rp (fun k b => fG S ops i k b = true → Pu P C n ⟨cf f (slotsOf op), S.bx k b, S.lv k, S.gen k⟩ ⟨some d, op, ty, pos, af, none⟩ a ∧ (b = false → bG (S.ord k) a = a)) S.cs.length)
    (hi : ops[i]? = some ⟨some d, op, ty, pos, af, none⟩) (h1 : uC i S.cs = false) (h2 : Nat.beq i S.al = false) (h3 : (Nat.ble k S.cs.length && fG S ops i k b) = true) (hd : Nat.blt d n = true)
    (h : CD P T C n S ops Q rest (i + 1) ((d, a) :: f) k b) : CD P T C n S ops Q (⟨some d, op, ty, pos, af, none⟩ :: rest) i f k b := yD hp hi h1 h2 h3 hd h
theorem lX (hx : ∀ b, fG S ops i k b = true → ∀ g, WO P C n ops (fun e st => e = .normal ∧ st = ⟨(d, a) :: (cf f (slotsOf op) ++ g), S.bx (k + 1) b, S.lv (k + 1), S.gen (k + 1)⟩) [⟨some d, op, ty, pos, af, none⟩] ⟨cf f (slotsOf op) ++ g, S.bx k b, S.lv k, S.gen k⟩)
    (hi : ops[i]? = some ⟨some d, op, ty, pos, af, none⟩) (h1 : S.cs[k]? = some i) (h2 : Nat.beq i S.al = false) (h3 : fG S ops i k b = true) (hr : fG S ops i k false = true → bG (S.ord (k + 1)) a = a) (hd : Nat.blt d n = true) (h : CD P T C n S ops Q rest (i + 1) ((d, a) :: f) (k + 1) b) : CD P T C n S ops Q (⟨some d, op, ty, pos, af, none⟩ :: rest) i f k b := by
  have na : i ≠ S.al := fun e => by subst e; simp at h2
  refine ⟨a, ⟨_, hi, hd, Nat.le_of_lt (List.getElem?_eq_some_iff.1 h1).1, h3, .inl ⟨h1, na, fun b hb => ⟨rfl, cf f (slotsOf op), fun t x hx => ?_, fun g => WO.yk rfl (fun e st h => by rw [h.1]; simp) (fun e st h => .inl h) (hx b hb g)⟩, hr⟩⟩, ?_⟩
  · obtain ⟨h1, h2⟩ := dE hx
    exact ⟨h1, List.mem_append.2 (.inl h2)⟩
  · rw [kV hi]
    simp only [if_neg na, if_pos h1]
    unfold CD at h
    rw [eJ] at h
    exact h
theorem W.fB (T : cd P) {nb : Nat} [hnb : NB C nb] {id : Nat} {l l1 l2 : List Oper} {f : List (Nat × A)} {bx : List (Nat × List A)} {lv : List Nat} {gen : Nat} {Q : Exit → St → Prop} (im : List (List (Nat × List A))) (lvs : List (List Nat)) (gens : List Nat) (cs : List Nat) (m : Nat) (hB : jr m l.toArray = true) (hch : mS l.toArray cs = true) (h1 : l.take m = l1) (h2 : l.drop m = l2)
    (h : CD P T C n (xh (bx :: im) (lv :: lvs) (gen :: gens) cs l.length) l.toArray (WO P C n l.toArray Q l2) l1 0 f 0 true) : W P C n (.region id l.toArray true) Q ⟨f, bx, lv, gen⟩ :=
  W.so T (xh (bx :: im) (lv :: lvs) (gen :: gens) cs l.length) true m hB hch h1 h2 (fun _ _ h => h.elim) (fun h => by cases h) (fun _ _ h => h) rfl (by show Nat.ble gen gen = true; simp) h
end
end Go.Ab
namespace Go.Ab
theorem jB {e e' : Exit} {d : Nat} {a a' : A} {f : List (Nat × A)} {bx bx' : List (Nat × List A)} {lv lv' : List Nat} {gen gen' : Nat} (he : e = e') (ha : a = a') (hb : bx = bx') (hl : lv = lv') (hg : gen = gen') :
    e = e' ∧ (⟨(d, a) :: f, bx, lv, gen⟩ : St) = ⟨(d, a') :: f, bx', lv', gen'⟩ := by subst he ha hb hl hg; exact ⟨rfl, rfl⟩
end Go.Ab
namespace Go.Ab
open Go.RowKit
def a7 (es : List (List D)) (k : Nat) : List A := es.flatten.map A.d ++ List.replicate k .any
section
variable {C : Ctx} {n : Nat} {st : St} {G : Gh} {tmps : Array Value} {w : World}
theorem iO {sz : Nat} : ∀ {es : List (List D)}, (∀ (e : List D), e ∈ es → e.length = sz) → es.flatten.length = es.length * sz
  | [], _ => by simp
  | e :: es, h => by rw [List.flatten_cons, List.length_append, iO (fun x hx => h x (List.mem_cons_of_mem _ hx)), h e List.mem_cons_self, List.length_cons, Nat.succ_mul, Nat.add_comm]
theorem aP.xt (h : aP C n st G tmps w) {g b len cap sz : Nat} (hg : G.own g = some (.blk b len cap sz 0)) {es : List (List D)} {v : Value} (hx : fD w (bC C G) (.blk b len cap sz 0) v es) (lv : List Nat) (hlv : ∀ g' ∈ lv, g' ∈ st.lv ∧ g' ≠ g) :
    ∃ G', aP C n ⟨st.f, (st.gen, a7 es (cap * sz - len * sz)) :: st.bx, lv, st.gen + 1⟩ G' tmps w ∧ aS (aB C G' (st.gen + 1) w) v (.sb st.gen es.length cap) := by
  obtain ⟨rfl, hlen, _, hl, hr⟩ := hx
  obtain ⟨hmine, hnb, huniq, cur, T, hcur, hcs, hlc, hcm, hz, hpos, _, hone⟩ := h.row g b len cap sz 0 hg
  let G' : Gh := ⟨fun x => if x = st.gen then some b else G.box x, fun x => if x = g then none else G.own x⟩
  have hgl := h.gown g _ hg
  have hblt : b < w.heap.size := (Array.getElem?_eq_some_iff.1 hcur).1
  have hpv : ∀ b' o, bC C G' b' o → bC C G b' o := by
    rintro b' o (hp | ⟨g', hp⟩ | ⟨g', len', cap', sz', pub', hp, hl'⟩)
    · exact .inl hp
    · simp only [G'] at hp
      split at hp
      · simp only [Option.some.injEq] at hp
        subst hp
        exact .inr (.inr ⟨g, len, cap, sz, 0, hg, Nat.zero_le _⟩)
      · exact .inr (.inl ⟨g', hp⟩)
    · simp only [G'] at hp
      split at hp
      · cases hp
      · exact .inr (.inr ⟨g', len', cap', sz', pub', hp, hl'⟩)
  have hle : (aB C G st.gen w).le (aB C G' (st.gen + 1) w) := lJ h.fr h.fr (fun b o u hu hn => ⟨hu, fun hp => hn (hpv b o hp)⟩) (fun g' b' hb' => by
      simp only [G']
      rw [if_neg (Nat.ne_of_lt (h.gbox g' b' hb').1)]
      exact hb')
    (fun g' r' hg' hr' => by
      simp only [G'] at hr'
      split at hr'
      · cases hr'
      · exact hr') (Nat.le_succ _) (fun _ _ _ _ _ _ _ _ => rfl) (fun _ _ _ _ => rfl) (.refl w)
  have hfl := iO hl
  have hsub : len * sz ≤ cap * sz := Nat.mul_le_mul_right _ hlc
  refine ⟨G', { size := h.size, frame := h.dS hle, xold := h.xold, kold := h.kold, fr := h.fr, lent := ?_, box := ?_, gbox := ?_, inj := ?_, live := ?_, gown := ?_, row := ?_, mrow := ?_ }, ?_⟩
  · intro g' cells hc
    simp only [bQ] at hc
    split at hc
    · rename_i e
      simp only [Option.some.injEq] at hc
      subst hc
      subst e
      refine ⟨b, cur, T, by simp [G'], hcur, ?_, fun i u hu => hone i u hu, fun i u a hu ha => ?_⟩
      · simp only [a7, List.length_append, List.length_map, List.length_replicate, hfl, hlen]; omega
      · unfold a7 at ha
        rcases Nat.lt_or_ge i es.flatten.length with hi | hi
        · rw [List.getElem?_append_left (by rw [List.length_map]; exact hi), List.getElem?_map, Option.map_eq_some_iff] at ha
          obtain ⟨d, hd, rfl⟩ := ha
          have hi2 : i < len * sz := by rw [← hlen, ← hfl]; exact hi
          have hdiv : i / sz < es.length := by rw [hlen]; exact Nat.div_lt_of_lt_mul (by rw [Nat.mul_comm]; exact hi2)
          have he : es[i / sz]? = some es[i / sz] := by simp [hdiv]
          have hel := hl _ (List.mem_of_getElem? he)
          have hdd : es[i / sz][i % sz]? = some (es[i / sz][i % sz]'(by rw [hel]; exact Nat.mod_lt _ hz)) := by simp
          have hfg := ji hl _ _ _ _ he hdd
          rw [Nat.div_add_mod' i sz, hd] at hfg
          obtain ⟨u', hu', hud⟩ := hr _ _ _ _ he hdd
          rw [Nat.div_add_mod' i sz, bP hcur] at hu'
          rw [hu] at hu'
          cases hu'
          rw [Option.some.inj hfg]
          exact .d (hud.mono hle.cell)
        · rw [List.getElem?_append_right (by rw [List.length_map]; exact hi)] at ha
          have := List.eq_of_mem_replicate (List.mem_of_getElem? ha)
          subst this
          exact .any _
    · obtain ⟨b', cs, T', h1, h2, h3, h4, h5⟩ := h.box g' cells hc
      exact ⟨b', cs, T', by simp only [G']; rw [if_neg (Nat.ne_of_lt (h.gbox g' b' h1).1)]; exact h1, h2, h3, h4, fun i u a hu ha => (h5 i u a hu ha).mono hle⟩
  · intro g' b' hb
    simp only [G'] at hb
    split at hb
    · rename_i e
      simp only [Option.some.injEq] at hb
      subst hb
      subst e
      exact ⟨Nat.lt_succ_self _, hblt, hmine⟩
    · obtain ⟨h1, h2⟩ := h.gbox g' b' hb
      exact ⟨Nat.lt_succ_of_lt h1, h2⟩
  · intro g1 g2 b' h1 h2
    simp only [G'] at h1 h2
    split at h1 <;> split at h2
    · simp_all
    · simp only [Option.some.injEq] at h1; subst h1; exact absurd h2 (hnb g2)
    · simp only [Option.some.injEq] at h2; subst h2; exact absurd h1 (hnb g1)
    · exact h.inj g1 g2 b' h1 h2
  · intro g' hg'
    obtain ⟨h1, h2⟩ := hlv g' hg'
    obtain ⟨r', hr'⟩ := h.live g' h1
    exact ⟨r', by simp only [G']; rw [if_neg h2]; exact hr'⟩
  · intro g' r' hr'
    simp only [G'] at hr'
    split at hr'
    · cases hr'
    · exact Nat.lt_succ_of_lt (h.gown g' r' hr')
  · intro g' b' len' cap' sz' pub' hr'
    simp only [G'] at hr'
    split at hr'
    · cases hr'
    · rename_i e2
      obtain ⟨h4, h5, h6, h7⟩ := h.row g' b' len' cap' sz' pub' hr'
      have hne : b' ≠ b := fun e => by subst e; exact e2 (huniq g' len' cap' sz' pub' hr')
      refine ⟨h4, fun g2 h2 => ?_, fun g2 bT cap2 sz2 pub2 h2 => ?_, h7⟩
      · simp only [G'] at h2
        split at h2
        · simp only [Option.some.injEq] at h2; exact hne h2.symm
        · exact h5 g2 h2
      · simp only [G'] at h2
        split at h2
        · cases h2
        · exact h6 g2 bT cap2 sz2 pub2 h2
  · intro g' b' hr'
    simp only [G'] at hr'
    split at hr'
    · cases hr'
    · obtain ⟨h4, h4b, h5, me, clock, h6⟩ := h.mrow g' b' hr'
      refine ⟨h4, fun g2 h2 => ?_, fun g2 h2 => ?_, me, clock, h6⟩
      · simp only [G'] at h2
        split at h2
        · simp only [Option.some.injEq] at h2; subst h2; rw [hcur] at h6; cases h6
        · exact h4b g2 h2
      · simp only [G'] at h2
        split at h2
        · cases h2
        · exact h5 g2 h2
  · intro i b' hb
    have h1 := h.lent i b' hb
    simp only [G']
    rw [if_neg (Nat.ne_of_lt (h.gbox i b' h1).1)]
    exact h1
  · exact .sb _ st.gen es.length cap b (Nat.lt_succ_self _) (by simp [aB, G']) (by rw [hlen]; exact ⟨hlc, hcm⟩) (by rw [hlen])
end
section
variable {P : Program} (T : cd P) {C : Ctx} {n : Nat} {ops : Array Oper} {Q : Exit → St → Prop} {rest : List Oper}
variable {f : List (Nat × A)} {bx : List (Nat × List A)} {lv : List Nat} {gen : Nat} {d : Nat} {op : Op} {ty : TypeId} {pos : String} {af : Array Edge} {a : A} {dst : Option Nat} {c : Code}
theorem xA (s : Nat) {g : Nat} {es : List (List D)} (hl : look f s = some (.xs g es)) (hgl : (lv.any fun h => Nat.beq h g) = true) (hsn : Nat.blt s n = true) (hp : 0 < es.length) {lv' : List Nat} (hlv : dz lv g = lv')
    (h : ∀ cap k, W P C n c Q ⟨(s, .sb gen es.length cap) :: f, (gen, a7 es k) :: bx, lv', gen + 1⟩) : W P C n c Q ⟨f, bx, lv, gen⟩ := by
  subst hlv
  intro tmps w ⟨G, hs⟩
  obtain ⟨v, hv, hr⟩ := hs.frame _ _ hl
  obtain ⟨r, hgr⟩ := hs.live g (jx hgl)
  cases hr with
  | xs _ _ _ hgg h1 hrow =>
  have hx := hrow r hgr
  cases r with
  | nil => obtain ⟨_, rfl⟩ := hx; simp at hp
  | zero b => obtain ⟨_, rfl⟩ := hx; simp at hp
  | mp b => exact hx.elim
  | blk b len cap sz pub =>
    obtain rfl : pub = 0 := hx.2.2.1
    obtain ⟨G', hs', hv'⟩ := hs.xt hgr hx (dz lv g) (fun g' hg' => eB hg')
    refine h cap (cap * sz - len * sz) tmps w ⟨G', ?_⟩
    have := hs'.set (d := s) (Nat.le_of_ble_eq_true hsn) hv'
    rwa [gP hv] at this
theorem yn {x : Operand} {t e : Nat} {td : bW} {g m cap : Nat} (hx : av f x = some (.sb g m cap)) (ht : ax T.l t = some td) (hk : td.k = .slice e) :
    Pu P C n ⟨f, bx, lv, gen⟩ ⟨dst, .call ⟨.builtin .len, #[x], #[t]⟩, ty, pos, af, none⟩ (.d (.v (.int .i64 m))) := by
  refine dO.pu fun G tmps w hs => ?_
  have hr := hs.av hx
  generalize hv : Act.eval ⟨tmps, []⟩ x = v at hr
  cases hr with
  | sb _ _ _ _ b hgg hb hn h2 =>
  refine ⟨.int .i64 m, ?_, .d (.v _ ?_)⟩
  · unfold execOp
    show Sem.run P (do let d ← resolve (Act.eval ⟨tmps, []⟩) ⟨.builtin .len, #[x], #[t]⟩ ty; invoke d.target d.args) w = _
    simp only [resolve, List.map_toArray, List.map_cons, List.map_nil, hv, h2, Sem.run_bind, Sem.run_pure, Result.andThen_ok, invoke, builtin, Builtin.len_]
    simp [run_underlying (T.dL ht hk), goInt]
    rfl
  · obtain ⟨h3, h4⟩ := hn
    simp only [maxLen] at h4
    simp [dr, IntKind.min, IntKind.max, IntKind.signed, IntKind.bits]
    omega
theorem bD {t e : Nat} {x ix : Operand} {td ed : bW} {g m cap : Nat} {k : IntKind} {i : Int} (hx : av f x = some (.sb g m cap)) (hi : av f ix = some (.d (.v (.int k i)))) (ht : ax T.l t = some td) (hk : td.k = .slice e) (he : ax T.l e = some ed)
    (h0 : 0 ≤ i) (hlt : i.toNat < m) {off : Nat} (ho : i.toNat * ed.n = off) : Pu P C n ⟨f, bx, lv, gen⟩ ⟨dst, .indexAddr t x ix, ty, pos, af, none⟩ (.ptr g off) := by
  subst ho
  refine dO.pu fun G tmps w hs => ?_
  have hu := T.dL ht hk
  have hrx := hs.av hx
  have hri := hs.av hi
  generalize hvi : Act.eval ⟨tmps, []⟩ ix = vi at hri
  cases hri with | d hri => cases hri with | v _ _ =>
  generalize hvx : Act.eval ⟨tmps, []⟩ x = vx at hrx
  cases hrx with
  | sb _ _ _ _ b hgg hb hn h2 =>
  refine ⟨.pointer (some ⟨b, i.toNat * ed.n, none⟩), ?_, .ptr _ g _ b hgg hb rfl⟩
  unfold execOp
  show Sem.run P _ w = .ok _ w
  have hc2 : 0 ≤ i ∧ i < (m : Int) := ⟨h0, by omega⟩
  simp only [hvi, hvx, h2, Instr.indexAt, asIntOf, Sem.run_bind, Sem.run_pure, Result.andThen_ok, run_underlying hu, hc2, and_self, if_true, T.sizeOf he]
  unfold Addr.add
  split
  · rename_i e; rw [e]
  · simp
theorem qJ {es : List (List D)} {sz i k : Nat} {e : List D} (hl : ∀ (x : List D), x ∈ es → x.length = sz) (he : es[i]? = some e) : ∃ r, (a7 es k).drop (i * sz) = e.map A.d ++ r := by
  have hi : i < es.length := (List.getElem?_eq_some_iff.1 he).1
  have h1 : es = es.take i ++ e :: es.drop (i + 1) := by
    have := List.drop_eq_getElem_cons hi
    rw [(List.getElem?_eq_some_iff.1 he).2] at this
    rw [← this, List.take_append_drop]
  have h2 : (es.take i).flatten.length = i * sz := by
    rw [iO (sz := sz) (fun x hx => hl x (List.mem_of_mem_take hx)), List.length_take, Nat.min_eq_left (Nat.le_of_lt hi)]
  refine ⟨(es.drop (i + 1)).flatten.map A.d ++ List.replicate k .any, ?_⟩
  have e3 : a7 es k = (es.take i).flatten.map A.d ++ (e.map A.d ++ ((es.drop (i + 1)).flatten.map A.d ++ List.replicate k .any)) := by
    unfold a7
    conv => lhs; rw [h1]
    simp [List.append_assoc]
  rw [e3, ← h2, ← List.length_map (f := A.d), List.drop_left]
theorem nV {es : List (List D)} {sz k : Nat} (hl : ∀ (x : List D), x ∈ es → x.length = sz) : (a7 es k).length = es.length * sz + k := by
  unfold a7
  rw [List.length_append, List.length_map, iO hl, List.length_replicate]
theorem rr {es : List (List D)} {sz i k : Nat} {e cs : List D} (hl : ∀ (x : List D), x ∈ es → x.length = sz) (he : es[i]? = some e) (hc : cs.length = sz) : setAt (a7 es k) (i * sz) (cs.map A.d) = a7 (es.set i cs) k := by
  have hi : i < es.length := (List.getElem?_eq_some_iff.1 he).1
  have h1 : es = es.take i ++ e :: es.drop (i + 1) := by
    have := List.drop_eq_getElem_cons hi
    rw [(List.getElem?_eq_some_iff.1 he).2] at this
    rw [← this, List.take_append_drop]
  have h2 : (es.take i).flatten.length = i * sz := by
    rw [iO (sz := sz) (fun x hx => hl x (List.mem_of_mem_take hx)), List.length_take, Nat.min_eq_left (Nat.le_of_lt hi)]
  have h4 : e.length = sz := hl e (List.mem_of_getElem? he)
  have e3 : a7 es k = (es.take i).flatten.map A.d ++ (e.map A.d ++ ((es.drop (i + 1)).flatten.map A.d ++ List.replicate k .any)) := by
    unfold a7
    conv => lhs; rw [h1]
    simp [List.append_assoc]
  have e4 : a7 (es.set i cs) k = (es.take i).flatten.map A.d ++ (cs.map A.d ++ ((es.drop (i + 1)).flatten.map A.d ++ List.replicate k .any)) := by
    unfold a7
    rw [List.set_eq_take_append_cons_drop, if_pos hi]
    simp [List.append_assoc]
  unfold setAt
  have h5 : ((es.take i).flatten.map A.d).length = i * sz := by rw [List.length_map, h2]
  have h6 : (cs.map A.d).length = (e.map A.d).length := by rw [List.length_map, List.length_map, hc, h4]
  rw [e3, e4, ← h5, List.take_left, h6, ← List.drop_drop, List.drop_left, List.drop_left, List.append_assoc]
theorem dP {t : Nat} {x : Operand} {td : bW} {g i k : Nat} {es : List (List D)} {e : List D} (hx : av f x = some (.ptr g (i * td.n))) (ht : ax T.l t = some td) (hk : td.k.agg = true) (hb : ax bx g = some (a7 es k)) (hl : ∀ (x : List D), x ∈ es → x.length = td.n) (he : es[i]? = some e) :
    Pu P C n ⟨f, bx, lv, gen⟩ ⟨dst, .load t x, ty, pos, af, none⟩ (.ag e) := by
  refine dO.pu fun G tmps w hs => ?_
  obtain ⟨b, cs, T', h1, h2, h3, h4, h5⟩ := hP hs hb (hs.av hx)
  have hel := hl e (List.mem_of_getElem? he)
  obtain ⟨r, hr⟩ := qJ (k := k) hl he
  have hcell : ∀ j y, e[j]? = some y → (a7 es k)[i * td.n + j]? = some (.d y) := fun j y hj => by
    rw [← List.getElem?_drop, hr, List.getElem?_append_left (by rw [List.length_map]; exact (List.getElem?_eq_some_iff.1 hj).1), List.getElem?_map, hj]; rfl
  have hall : ∀ j y, e[j]? = some y → bm w (bC C G) (cs[i * td.n + j]?.getD default) y := fun j y hj => by
    have hc := hcell j y hj
    have hj' : i * td.n + j < cs.size := by rw [h3]; exact (List.getElem?_eq_some_iff.1 hc).1
    have e1 : cs[i * td.n + j]? = some cs[i * td.n + j] := by simp [hj']
    have := h5 _ _ _ e1 hc
    rw [e1]
    generalize cs[i * td.n + j] = u at this ⊢
    cases this with | d hd => exact hd
  obtain ⟨v, h6, h7⟩ := iz (E := aB C G gen w) T (t := t) (a := .ag e) (b := b) (off := i * td.n) (u := fun j => cs[i * td.n + j]?.getD default) (l := e) (fun j hj => by
      have hc := hcell j e[j] (by simp [hj])
      have hj' : i * td.n + j < cs.size := by rw [h3]; exact (List.getElem?_eq_some_iff.1 hc).1
      have e1 : cs[i * td.n + j]? = some cs[i * td.n + j] := by simp [hj']
      show cellAt w b (i * td.n + j) = _
      rw [bP h2, e1]; rfl) hall (by unfold ib; rw [ht]; simp [hk, ← hel])
  refine ⟨v, ?_, h7⟩
  rw [gA rfl]
  show Sem.run P _ w = .ok _ w
  have h6' : (Instr.loadAt t (.pointer (some ⟨b, i * td.n, none⟩))).run P w = .ok v w := h6
  simp only [h1, Sem.run_bind, h6', Result.andThen_ok, Sem.run_pure]
theorem gX {t : TypeId} {x y : Operand} {td : bW} {g i k : Nat} {es : List (List D)} {e cs : List D} (hx : av f x = some (.ptr g (i * td.n))) (ht : ax T.l t = some td) (hb : ax bx g = some (a7 es k)) (ha : av f y = some (.ag cs)) (hl : ∀ (x : List D), x ∈ es → x.length = td.n) (he : es[i]? = some e)
    (hc : cs.length = td.n) (hz : Nat.blt 0 td.n = true) {es' : List (List D)} (hes : es.set i cs = es')
    (h : WO P C n ops Q rest ⟨f, (g, a7 es' k) :: bx, lv, gen⟩) : WO P C n ops Q (⟨none, .store t x y, ty, pos, af, none⟩ :: rest) ⟨f, bx, lv, gen⟩ := by
  have hz := Nat.le_of_ble_eq_true hz
  have hi : i < es.length := (List.getElem?_eq_some_iff.1 he).1
  refine WO.store (st := ⟨f, bx, lv, gen⟩) T rfl rfl rfl hx hb ha (cs := cs.map A.d) rfl (by unfold cn; rw [ht]; simp [hc]) (by rw [List.length_map]; omega) ?_ ?_
  · apply Nat.ble_eq_true_of_le
    rw [List.length_map, hc, nV hl]
    have : (i + 1) * td.n ≤ es.length * td.n := Nat.mul_le_mul_right _ hi
    rw [Nat.succ_mul] at this
    omega
  · rw [rr hl he hc, hes]
    exact h
end
end Go.Ab
namespace Go.Tb
open Go.Ab
def bb (r : List aD) (i : Nat) : aD := r.getD i fg
def cP (ab : List Col) (s : ByteArray) : Option Nat := ab.findIdx? fun x => decide (x.name = s)
def bq (ab : List Col) (s : ByteArray) : Nat := (cP ab s).getD 0
def wB : ByteArray := B #[98]
def cN (op : Int) (on : List ByteArray) (aa : ByteArray) : fx := ⟨op, ⟨0, B #[], fg, []⟩, [], on, [], [], 0, aa⟩
def ep (op : Int) (on : List ByteArray) (a : bj) : CT := if bu a ≠ 0 then ([], bu a) else eh [] a.ab (cN op on (B #[]))
def fw (op : Int) (on : List ByteArray) (a b : bj) : CT := if bu a ≠ 0 then ([], bu a) else if bu b ≠ 0 then ([], bu b) else eh [⟨wB, b⟩] a.ab (cN op on wB)
def ff : bj := ⟨[], []⟩
def er : List bj → Int
  | [] => 0
  | t :: r => if bu t ≠ 0 then bu t else er r
def fy (op : Int) (on : List ByteArray) (l : List bj) : CT := if er l ≠ 0 then ([], er l) else
  eh (if 1 < l.length then [⟨wB, l.getD 1 ff⟩] else []) (l.getD 0 ff).ab (cN op on (if 1 < l.length then wB else B #[]))
theorem o9 (op : Int) (on : List ByteArray) (a : bj) : fy op on [a] = ep op on a := by
  unfold fy ep
  by_cases h : bu a = 0 <;> simp [er, h]
theorem oX (op : Int) (on : List ByteArray) (a b : bj) : fy op on [a, b] = fw op on a b := by
  unfold fy fw
  by_cases h : bu a = 0 <;> by_cases h2 : bu b = 0 <;> simp [er, h, h2]
theorem mX : ∀ {l : List bj}, er l = 0 → ∀ t ∈ l, bu t = 0
  | [], _, t, ht => by cases ht
  | u :: r, h, t, ht => by
    simp only [er] at h
    split at h
    · rename_i h1; exact absurd h h1
    · rename_i h1
      rcases List.mem_cons.1 ht with rfl | ht
      · simpa using h1
      · exact mX h t ht
theorem dw {t : bj} (h : bu t = 0) : t.ab.length ≤ 32 ∧ t.rows.length ≤ 20000 := by
  unfold bu at h
  split at h
  · cases h
  · omega
def dN (not : List ByteArray) : List Col → Nat → List Nat
  | [], _ => []
  | c :: r, i => if not.any (fun x => decide (c.name = x)) then dN not r (i + 1) else i :: dN not r (i + 1)
def bA (r : List aD) (at_ : List Nat) : List aD := at_.map (bb r)
def jj (a b : List aD) : Bool := decide (a = b) && !(a.any fun x => decide (fg = x))
structure pw where
  left : List Nat
  right : List Nat
  m0 : Nat
  m1 : Nat
  t0 : Nat
  t1 : Nat
  more : List Nat
def c7 (r : List aD) (i j : Nat) : Bool := decide ((bb r i).kind = 2) && (decide ((bb r j).kind = 2) && decide ((bb r i).n < (bb r j).n))
def qQ (o : pw) (x y : List aD) : Int := if (bb x o.m0).n < (bb y o.t0).n then (bb y o.t0).n else (bb x o.m0).n
def sJ (o : pw) (x y : List aD) : Int := if (bb y o.t1).n < (bb x o.m1).n then (bb y o.t1).n else (bb x o.m1).n
def ky (o : pw) (x y : List aD) : Bool := c7 y o.t0 o.t1 && (decide (qQ o x y < sJ o x y) && jj (bA x o.left) (bA y o.right))
def mH (r : List aD) (i : Nat) (n : Int) : List aD := r.set i ⟨(bb r i).kind, n, (bb r i).s⟩
def vv (o : pw) (x y : List aD) : List aD := mH (mH (x ++ bA y o.more) o.m0 (qQ o x y)) o.m1 (sJ o x y)
def oe (o : pw) (x : List aD) : List (List aD) → List (List aD) → Option (List (List aD))
  | [], out => some out
  | y :: r, out => if ky o x y = true then (if out.length = 20000 then none else oe o x r (out ++ [vv o x y])) else oe o x r out
def kB (o : pw) (bs : List (List aD)) : List (List aD) → List (List aD) → Option (List (List aD))
  | [], out => some out
  | x :: r, out => if c7 x o.m0 o.m1 = true then (match oe o x bs out with | none => none | some o2 => kB o bs r o2) else kB o bs r out
def xq (a b : bj) (on : List ByteArray) : pw :=
  ⟨on.map (bq a.ab), on.map (bq b.ab), bq a.ab aJ, bq a.ab br, bq b.ab aJ, bq b.ab br, dN (on ++ [aJ, br]) b.ab 0⟩
def eH (a b : bj) (on : List ByteArray) : bj × Int :=
  if (fw 7 on a b).2 ≠ 0 then (ff, (fw 7 on a b).2) else
    match kB (xq a b on) b.rows a.rows [] with
    | none => (ff, 7)
    | some rows => (⟨(fw 7 on a b).1, rows⟩, 0)
structure vJ (a b : bj) (on : List ByteArray) (spans : List ByteArray) : Prop where
  ga : bu a = 0
  gb : bu b = 0
  ons : ∀ s ∈ on, ∃ i j c d, cP a.ab s = some i ∧ cP b.ab s = some j ∧ a.ab[i]? = some c ∧ b.ab[j]? = some d ∧ c.type = d.type
  spa : ∀ s ∈ spans, ∃ i c, cP a.ab s = some i ∧ a.ab[i]? = some c ∧ c.type = 2
  spb : ∀ s ∈ spans, ∃ i c, cP b.ab s = some i ∧ b.ab[i]? = some c ∧ c.type = 2
  len : on.length ≤ 16
end Go.Tb
namespace Go.Ab
section
variable {P : Program} {C : Ctx} {n : Nat} {ops : Array Oper} {c : Nat}
variable {op : Op} {ty : TypeId} {pos : String} {af : Array Edge} {a : A} {d i : Nat} {rest l : List Oper} {f : List (Nat × A)} {Q : St → Prop} {ph : Bool} {dst : Option Nat}
variable {bx0 bx1 : List (Nat × List A)} {lv0 lv1 : List Nat} {gen0 gen1 : Nat}
theorem x9 {o : Oper} (hdst : o.dst = some d) (h0 : YA P C n bx0 lv0 gen0 ops o a (look f)) (h1 : YA P C n bx1 lv1 gen1 ops o a (look f)) (hi : ops[i]? = some o) (hc : Nat.beq i c = false) (b0 : bK .any ops i c = false) (b1 : bK .any ops c i = false)
    (h : CC P C n ⟨bx0, bx1, lv0, lv1, gen0, gen1⟩ ops c Q rest (i + 1) ((d, a) :: f) ph) : CC P C n ⟨bx0, bx1, lv0, lv1, gen0, gen1⟩ ops c Q (o :: rest) i f ph := by
  have hic : i ≠ c := fun e => by subst e; simp at hc
  refine ⟨a, ⟨_, hi, h0.1, .inr ⟨hic, fun _ => h0, fun _ => h1, fun _ => b0, fun _ => b1⟩⟩, ?_⟩
  rw [gz hi, hdst]
  simp only [if_neg hic]
  unfold CC at h
  rw [eJ] at h
  exact h
theorem mj {j e : Nat} {want : Bool} (hj : cY ops j = some e) (hl : look f e = some (.d (.v (.bool want)))) (h1 : Pu P C n ⟨cf f (slotsOf op), bx1, lv1, gen1⟩ ⟨some d, op, ty, pos, af, none⟩ a) (h0 : Pu P C n ⟨cf f (slotsOf op), bx0, lv0, gen0⟩ ⟨some d, op, ty, pos, af, none⟩ a)
    (hi : ops[i]? = some ⟨some d, op, ty, pos, af, some (j, want)⟩) (hc : Nat.beq i c = false) (b0 : bK .any ops i c = false) (b1 : bK .any ops c i = false) (hd : Nat.blt d n = true)
    (h : CC P C n ⟨bx0, bx1, lv0, lv1, gen0, gen1⟩ ops c Q rest (i + 1) ((d, a) :: f) ph) : CC P C n ⟨bx0, bx1, lv0, lv1, gen0, gen1⟩ ops c Q (⟨some d, op, ty, pos, af, some (j, want)⟩ :: rest) i f ph := by
  have hf : ∀ t x, look (cf f (slotsOf op)) t = some x → look f t = some x ∧ t ∈ (⟨some d, op, ty, pos, af, some (j, want)⟩ : Oper).looksAt ops := fun t x hx => by
    obtain ⟨h1, h2⟩ := dE hx
    exact ⟨h1, List.mem_append.2 (.inl h2)⟩
  have hw : fY ops ⟨some d, op, ty, pos, af, some (j, want)⟩ (look f) true := ⟨e, _, hj, hl, .inl ⟨want, rfl, by simp⟩⟩
  exact x9 rfl ⟨hd, .inl ⟨hw, _, hf, h0⟩⟩ ⟨hd, .inl ⟨hw, _, hf, h1⟩⟩ hi hc b0 b1 h
theorem eV {j e : Nat} {want b : Bool} (hj : cY ops j = some e) (hl : look f e = some (.d (.v (.bool b)))) (hb : (b == want) = false)
    (hi : ops[i]? = some ⟨some d, op, ty, pos, af, some (j, want)⟩) (hc : Nat.beq i c = false) (b0 : bK .any ops i c = false) (b1 : bK .any ops c i = false) (hd : Nat.blt d n = true)
    (h : CC P C n ⟨bx0, bx1, lv0, lv1, gen0, gen1⟩ ops c Q rest (i + 1) ((d, .tup []) :: f) ph) : CC P C n ⟨bx0, bx1, lv0, lv1, gen0, gen1⟩ ops c Q (⟨some d, op, ty, pos, af, some (j, want)⟩ :: rest) i f ph := by
  have hw : fY ops ⟨some d, op, ty, pos, af, some (j, want)⟩ (look f) false := ⟨e, _, hj, hl, .inl ⟨b, rfl, hb.symm⟩⟩
  exact x9 rfl ⟨hd, .inr ⟨hw, rfl⟩⟩ ⟨hd, .inr ⟨hw, rfl⟩⟩ hi hc b0 b1 h
theorem rQ {dst : Option Nat} {j e : Nat} {want b : Bool} (hj : cY ops j = some e) (hl : look f e = some (.d (.v (.bool b))))
    (ht : b = true → CC P C n ⟨bx0, bx1, lv0, lv1, gen0, gen1⟩ ops c Q (⟨dst, op, ty, pos, af, some (j, want)⟩ :: rest) i ((e, .d (.v (.bool true))) :: f) ph)
    (hf : b = false → CC P C n ⟨bx0, bx1, lv0, lv1, gen0, gen1⟩ ops c Q (⟨dst, op, ty, pos, af, some (j, want)⟩ :: rest) i ((e, .d (.v (.bool false))) :: f) ph) : CC P C n ⟨bx0, bx1, lv0, lv1, gen0, gen1⟩ ops c Q (⟨dst, op, ty, pos, af, some (j, want)⟩ :: rest) i f ph := by
  have key : ∀ c, b = c → look ((e, A.d (.v (.bool c))) :: f) = look f := by
    intro c hc
    subst hc
    funext t
    rw [bp]
    split
    · rename_i h; subst h; exact hl.symm
    · rfl
  cases b
  · have := hf rfl; unfold CC at *; rw [key false rfl] at this; exact this
  · have := ht rfl; unfold CC at *; rw [key true rfl] at this; exact this
end
end Go.Ab
namespace Go.Tb
open Go.Ab
theorem e5 {ab : List Col} {s : ByteArray} {c : Col} (h : aV ab s = some c) : ∃ i, cP ab s = some i ∧ ab[i]? = some c ∧ c.name = s := by
  unfold aV at h
  rw [List.find?_eq_some_iff_getElem] at h
  obtain ⟨hp, i, hi, hc, hmin⟩ := h
  refine ⟨i, ?_, by rw [← hc]; simp, of_decide_eq_true hp⟩
  unfold cP
  rw [List.findIdx?_eq_some_iff_getElem]
  exact ⟨hi, by rw [hc]; exact hp, fun j hj => by have := hmin j hj; simpa using this⟩
theorem eI {ab : List Col} {s : ByteArray} (h : cH ab s = 0) : ∃ i c, cP ab s = some i ∧ ab[i]? = some c ∧ c.type = 2 := by
  unfold cH at h
  cases hf : aV ab s with
  | none => rw [hf] at h; exact absurd h (by decide)
  | some c =>
    rw [hf] at h
    obtain ⟨i, h1, h2, _⟩ := e5 hf
    refine ⟨i, c, h1, h2, ?_⟩
    by_cases q : c.type = 2
    · exact q
    · simp [q] at h
theorem fP {ab : List Col} : ∀ {l : List ByteArray}, dd ab l = 0 → ∀ s ∈ l, ∃ i c, cP ab s = some i ∧ ab[i]? = some c ∧ c.type = 2
  | [], _, s, hs => by cases hs
  | x :: r, h, s, hs => by
    simp only [dd] at h
    split at h
    · rename_i h1; exact absurd h h1
    · rename_i h1
      rcases List.mem_cons.1 hs with rfl | hs
      · exact eI (by simpa using h1)
      · exact fP h s hs
theorem lQ {a b : List Col} : ∀ {l : List ByteArray}, eO a b l = 0 → ∀ s ∈ l, ∃ i j c d, cP a s = some i ∧ cP b s = some j ∧ a[i]? = some c ∧ b[j]? = some d ∧ c.type = d.type
  | [], _, s, hs => by cases hs
  | x :: r, h, s, hs => by
    simp only [eO] at h
    cases h1 : aV a x with
    | none => rw [h1] at h; cases h
    | some c =>
      cases h2 : aV b x with
      | none => rw [h1, h2] at h; cases h
      | some d =>
        rw [h1, h2] at h
        dsimp only at h
        split at h
        · cases h
        · rename_i h3
          rcases List.mem_cons.1 hs with rfl | hs
          · obtain ⟨i, p1, p2, _⟩ := e5 h1
            obtain ⟨j, q1, q2, _⟩ := e5 h2
            exact ⟨i, j, c, d, p1, q1, p2, q2, by simpa using h3⟩
          · exact lQ h s hs
theorem oW {ab : List Col} : ∀ {l : List ByteArray} {out : List Col}, (bX ab out l).2 = 0 → ∀ s ∈ l, ∃ i c, cP ab s = some i ∧ ab[i]? = some c
  | [], _, _, s, hs => by cases hs
  | x :: r, out, h, s, hs => by
    simp only [bX] at h
    cases h1 : aV ab x with
    | none => rw [h1] at h; cases h
    | some c =>
      rw [h1] at h
      rcases List.mem_cons.1 hs with rfl | hs
      · obtain ⟨i, p1, p2, _⟩ := e5 h1
        exact ⟨i, c, p1, p2⟩
      · exact oW h s hs
theorem iK {l : List ByteArray} {m : Int} (h : dG l m = 0) : l.length ≤ 16 := by
  unfold dG at h
  split at h
  · rename_i h1; exact absurd h h1
  · rename_i h1
    unfold dZ at h1
    split at h1
    · simp at h1
    · split at h1
      · simp at h1
      · omega
theorem wm {op : Int} (hop : op = 7 ∨ op = 8) {on : List ByteArray} {a b : bj} (h : (fw op on a b).2 = 0) : vJ a b on (aZ op) := by
  unfold fw at h
  split at h
  · rename_i h1; exact absurd h h1
  · rename_i h1
    split at h
    · rename_i h2; exact absurd h h2
    · rename_i h2
      have hn : op ≠ 1 ∧ op ≠ 2 ∧ op ≠ 3 ∧ op ≠ 4 ∧ op ≠ 9 ∧ op ≠ 5 ∧ op ≠ 6 := by omega
      unfold eh at h
      split at h
      · rename_i h3; exact absurd h h3
      · rename_i h3
        have h3 : b9 (cN op on wB) = 0 := by simpa using h3
        have e : (cN op on wB).op = op := rfl
        rw [e, if_neg hn.1, if_neg hn.2.1, if_neg hn.2.2.1, if_neg hn.2.2.2.1, if_neg hn.2.2.2.2.1, if_pos (by omega)] at h
        have hf : eD [⟨wB, b⟩] (cN op on wB).table = some b := by
          show eD [⟨wB, b⟩] wB = some b
          simp [eD]
        unfold hH at h
        rw [hf] at h
        dsimp only at h
        unfold pC at h
        rw [e, show (cN op on wB).ab = on from rfl] at h
        split at h
        · cases h
        · split at h
          · rename_i h4; exact absurd h h4
          · rename_i h4
            split at h
            · rename_i h5; exact absurd h h5
            · rename_i h5
              split at h
              · rename_i h6; exact absurd h h6
              · rename_i h6
                refine ⟨by simpa using h1, by simpa using h2, lQ (by simpa using h4), fP (by simpa using h5), fP (by simpa using h6), ?_⟩
                unfold b9 at h3
                split at h3
                · cases h3
                · rw [e, if_neg hn.1, if_neg hn.2.1, if_neg hn.2.2.1, if_neg hn.2.2.2.1, if_neg hn.2.2.2.2.2.1, if_neg hn.2.2.2.2.1] at h3
                  split at h3
                  · cases h3
                  · exact iK h3
structure wi (a : bj) (on : List ByteArray) : Prop where
  ga : bu a = 0
  ons : ∀ s ∈ on, ∃ i c, cP a.ab s = some i ∧ a.ab[i]? = some c
  fr : ∃ i c, cP a.ab aJ = some i ∧ a.ab[i]? = some c ∧ c.type = 2
  to : ∃ i c, cP a.ab br = some i ∧ a.ab[i]? = some c ∧ c.type = 2
  len : on.length ≤ 16
theorem wh {on : List ByteArray} {a : bj} (h : (ep 9 on a).2 = 0) : wi a on := by
  unfold ep at h
  split at h
  · rename_i h1; exact absurd h h1
  · rename_i h1
    unfold eh at h
    split at h
    · rename_i h3; exact absurd h h3
    · rename_i h3
      have h3 : b9 (cN 9 on (B #[])) = 0 := by simpa using h3
      have e : (cN 9 on (B #[])).op = 9 := rfl
      rw [e, if_neg (by decide), if_neg (by decide), if_neg (by decide), if_neg (by decide), if_pos rfl] at h
      unfold gg at h
      rw [show (cN 9 on (B #[])).ab = on from rfl] at h
      split at h
      · cases h
      · split at h
        · rename_i h4; exact absurd h h4
        · rename_i h4
          split at h
          · rename_i h5; exact absurd h h5
          · rename_i h5
            split at h
            · rename_i h6; exact absurd h h6
            · rename_i h6
              refine ⟨by simpa using h1, oW (by simpa using h4), eI (by simpa using h5), eI (by simpa using h6), ?_⟩
              unfold b9 at h3
              split at h3
              · cases h3
              · rw [e, if_neg (by decide), if_neg (by decide), if_neg (by decide), if_neg (by decide), if_neg (by decide)] at h3
                try rw [if_pos rfl] at h3
                exact iK h3
theorem oA : ∀ {ab : List Col} {r : List aD}, dq ab r = 0 → ∀ (i : Nat) (c : Col) (v : aD), ab[i]? = some c → r[i]? = some v → bU c.type v = 0
  | [], _, _, i, c, v, h, _ => by simp at h
  | _ :: _, [], _, i, c, v, _, h => by simp at h
  | d :: ab, w :: r, h, i, c, v, h1, h2 => by
    simp only [dq] at h
    split at h
    · rename_i h3; exact absurd h h3
    · rename_i h3
      cases i with
      | zero => simp at h1 h2; subst h1; subst h2; simpa using h3
      | succ i => exact oA h i c v (by simpa using h1) (by simpa using h2)
theorem qG {ab : List Col} : ∀ {l : List (List aD)}, eP ab l = 0 → ∀ r ∈ l, r.length = ab.length ∧ ∀ (i : Nat) (c : Col) (v : aD), ab[i]? = some c → r[i]? = some v → bU c.type v = 0
  | [], _, r, hr => by cases hr
  | x :: l, h, r, hr => by
    simp only [eP] at h
    split at h
    · cases h
    · rename_i h1
      split at h
      · rename_i h2; exact absurd h h2
      · rename_i h2
        rcases List.mem_cons.1 hr with rfl | hr
        · exact ⟨by simpa using h1, oA (by simpa using h2)⟩
        · exact qG h r hr
theorem fH {t : bj} (h : bu t = 0) : ∀ r ∈ t.rows, r.length = t.ab.length ∧ ∀ (i : Nat) (c : Col) (v : aD), t.ab[i]? = some c → r[i]? = some v → bU c.type v = 0 := by
  unfold bu at h
  split at h
  · cases h
  · split at h
    · rename_i h2; exact absurd h h2
    · exact qG h
theorem gk {r : List aD} {i : Nat} (h : i < r.length) : r[i]? = some (bb r i) := by
  unfold bb
  rw [List.getD_eq_getElem?_getD, List.getElem?_eq_getElem h]; rfl
theorem rn {t : bj} (h : bu t = 0) {r : List aD} (hr : r ∈ t.rows) {i : Nat} {c : Col} (hc : t.ab[i]? = some c) : i < r.length ∧ bU c.type (bb r i) = 0 := by
  obtain ⟨h1, h2⟩ := fH h r hr
  have hi : i < r.length := by rw [h1]; exact (List.getElem?_eq_some_iff.1 hc).1
  exact ⟨hi, h2 i c _ hc (gk hi)⟩
theorem qI {k : Int} {v : aD} (h : bU k v = 0) : v = fg ∨ (v.kind = k ∧ 1 ≤ k ∧ k ≤ 3 ∧ (k ≠ 3 → v.s = B #[]) ∧ (k = 3 → v.n = 0) ∧ (k = 2 → l6 v.n = true)) := by
  obtain ⟨a, n, s⟩ := v
  unfold bU at h
  dsimp only at h
  split at h
  · cases h
  · rename_i h1
    split at h
    · cases h
    · rename_i h2
      split at h
      · cases h
      · split at h
        · cases h
        · rename_i h4
          by_cases q : a = 0
          · left
            subst q
            have e1 : s = B #[] := Classical.byContradiction fun e => h4 (.inl ⟨by decide, e⟩)
            have e2 : n = 0 := Classical.byContradiction fun e => h4 (.inr ⟨.inl rfl, e⟩)
            rw [e1, e2]
            rfl
          · right
            have e3 : ¬ (a ≠ k ∨ k < 1 ∨ 3 < k) := fun e => h1 ⟨q, e⟩
            have e4 : a = k := by omega
            subst e4
            refine ⟨rfl, by omega, by omega, fun e => ?_, fun e => ?_, fun e => ?_⟩
            · exact Classical.byContradiction fun e2 => h4 (.inl ⟨e, e2⟩)
            · exact Classical.byContradiction fun e2 => h4 (.inr ⟨.inr e, e2⟩)
            · cases q2 : l6 n with
              | true => rfl
              | false => exact absurd (.inr ⟨e, q2⟩) h2
theorem qK {a b : Int} : cG a b = 0 ↔ a = b := by unfold cG; split <;> (try split) <;> omega
theorem vu {a b : ByteArray} (h : eU a b = 0) : a = b := by
  unfold eU at h
  split at h
  · cases h
  · split at h
    · assumption
    · cases h
theorem w3 {k : Int} {v w : aD} (hv : bU k v = 0) (hw : bU k w = 0) (h : cR v w = 0) : v = w := by
  obtain ⟨a, n, s⟩ := v
  obtain ⟨a', n', s'⟩ := w
  unfold cR at h
  dsimp only at h
  split at h
  · rename_i h1; exact absurd (qK.1 h) h1
  · rename_i h1
    have h1 : a = a' := by simpa using h1
    subst h1
    have c1 := qI hv
    have c2 := qI hw
    simp only [aD.mk.injEq, fg] at c1 c2 ⊢
    split at h
    · rename_i h2
      have := vu h
      rcases c1 with c1 | ⟨c1, _, _, c3, c4, _⟩
      · omega
      · rcases c2 with c2 | ⟨c2, _, _, c5, c6, _⟩
        · omega
        · exact ⟨trivial, by rw [c4 (by omega), c6 (by omega)], this⟩
    · rename_i h2
      split at h
      · have hn := qK.1 h
        rcases c1 with c1 | ⟨c1, _, _, c3, c4, _⟩
        · omega
        · rcases c2 with c2 | ⟨c2, _, _, c5, c6, _⟩
          · omega
          · exact ⟨trivial, hn, by rw [c3 (by omega), c5 (by omega)]⟩
      · rename_i h3
        rcases c1 with c1 | ⟨c1, _, _, c3, c4, _⟩
        · rcases c2 with c2 | ⟨c2, _, _, c5, c6, _⟩
          · exact ⟨trivial, by omega, by rw [c1.2.2, c2.2.2]⟩
          · omega
        · omega
end Go.Tb
namespace Go.Tb
open Go.Ab
@[reducible] def nc (i : Nat) : List D := ic (i : Int)
theorem lP (not : List ByteArray) : ∀ (ab : List Col) (i : Nat), ∀ k ∈ dN not ab i, i ≤ k ∧ k < i + ab.length
  | [], _, k, h => by simp [dN] at h
  | c :: r, i, k, h => by
    simp only [dN] at h
    split at h
    · have := lP not r (i + 1) k h
      simp; omega
    · rcases List.mem_cons.1 h with rfl | h
      · simp
      · have := lP not r (i + 1) k h
        simp; omega
theorem bY {ab : List Col} {s : ByteArray} {i : Nat} (h : cP ab s = some i) : bq ab s = i := by unfold bq; rw [h]; rfl
structure yP (o : pw) (n m : Nat) : Prop where
  left : ∀ i ∈ o.left, i < n
  right : ∀ i ∈ o.right, i < m
  m0 : o.m0 < n
  m1 : o.m1 < n
  t0 : o.t0 < m
  t1 : o.t1 < m
  more : ∀ i ∈ o.more, i < m
theorem yF {a b : bj} {on : List ByteArray} (h : vJ a b on (aZ 7)) : yP (xq a b on) a.ab.length b.ab.length := by
  have e : aZ 7 = [aJ, br] := rfl
  rw [e] at h
  refine ⟨fun i hi => ?_, fun i hi => ?_, ?_, ?_, ?_, ?_, fun i hi => ?_⟩
  · obtain ⟨s, hs, rfl⟩ := List.mem_map.1 hi
    obtain ⟨i, j, c, d, h1, h2, h3, h4, _⟩ := h.ons s hs
    rw [bY h1]; exact (List.getElem?_eq_some_iff.1 h3).1
  · obtain ⟨s, hs, rfl⟩ := List.mem_map.1 hi
    obtain ⟨i, j, c, d, h1, h2, h3, h4, _⟩ := h.ons s hs
    rw [bY h2]; exact (List.getElem?_eq_some_iff.1 h4).1
  · obtain ⟨i, c, h1, h2, _⟩ := h.spa aJ (by simp)
    show bq a.ab aJ < _
    rw [bY h1]; exact (List.getElem?_eq_some_iff.1 h2).1
  · obtain ⟨i, c, h1, h2, _⟩ := h.spa br (by simp)
    show bq a.ab br < _
    rw [bY h1]; exact (List.getElem?_eq_some_iff.1 h2).1
  · obtain ⟨i, c, h1, h2, _⟩ := h.spb aJ (by simp)
    show bq b.ab aJ < _
    rw [bY h1]; exact (List.getElem?_eq_some_iff.1 h2).1
  · obtain ⟨i, c, h1, h2, _⟩ := h.spb br (by simp)
    show bq b.ab br < _
    rw [bY h1]; exact (List.getElem?_eq_some_iff.1 h2).1
  · have := lP _ b.ab 0 i hi
    omega
theorem fA {ab : List Col} {l : List ByteArray} (h : ∀ s ∈ l, ∃ i, cP ab s = some i) : (l.map fun s => ic (idx (cP ab s))) = (l.map (bq ab)).map nc := by
  rw [List.map_map]
  apply List.map_congr_left
  intro s hs
  obtain ⟨i, hi⟩ := h s hs
  show ic (idx (cP ab s)) = ic ((bq ab s : Nat) : Int)
  rw [bY hi, hi]
  rfl
theorem pe {r : List aD} {i : Nat} {n : Int} : (r.map aD.c).set i (gS (bb r i).c 1 [ci n]) = (mH r i n).map aD.c := by
  unfold mH
  rw [List.map_set]
  rfl
theorem lK (r : List aD) (i : Nat) (n : Int) : (mH r i n).length = r.length := by unfold mH; simp
end Go.Tb
namespace Go.Tb
section
variable {α : Type} [Inhabited α]
def el (l : List α) (k : Nat) : α := l.getD k default
theorem kZ {l : List α} {i k : Nat} {x : α} (hi : i < l.length) : el (l.set i x) k = if k = i then x else el l k := by
  unfold el
  rw [List.getD_eq_getElem?_getD, List.getElem?_set, List.getD_eq_getElem?_getD]
  by_cases h : i = k
  · subst h; simp [hi]
  · rw [if_neg h, if_neg (fun e => h e.symm)]
theorem iA {l : List α} {k : Nat} (h : k < l.length) : l[k]? = some (el l k) := by
  unfold el
  rw [List.getD_eq_getElem?_getD, List.getElem?_eq_getElem h]; rfl
theorem qY {l : List α} {k : Nat} {x : α} (h : l[k]? = some x) : el l k = x := by
  unfold el
  rw [List.getD_eq_getElem?_getD, h]; rfl
def eC (l : List α) (i j : Nat) : List α := (l.set i (el l j)).set j (el l i)
theorem cV (l : List α) (i j : Nat) : (eC l i j).length = l.length := by unfold eC; simp
theorem fS {l : List α} {i j k : Nat} (hi : i < l.length) (hj : j < l.length) : el (eC l i j) k = if k = j then el l i else if k = i then el l j else el l k := by
  unfold eC
  rw [kZ (by simpa using hj), kZ hi]
theorem ub {l : List α} {i j : Nat} (hi : i < l.length) (hj : j < l.length) : (eC l i j).Perm l := by
  unfold eC
  have h1 := iA hi
  have h2 := iA hj
  rw [List.getElem?_eq_getElem hi] at h1
  rw [List.getElem?_eq_getElem hj] at h2
  rw [← Option.some.inj h1, ← Option.some.inj h2]
  exact List.set_set_perm hi hj
variable (lt : α → α → Bool)
def bl (l : List α) (a b : Nat) : Prop := ∀ i j, a ≤ i → i < j → j < b → lt (el l j) (el l i) = false
structure mQ : Prop where
  asymm : ∀ x y, lt x y = true → lt y x = false
  trans : ∀ x y z, lt y x = false → lt z y = false → lt z x = false
structure bN (l l' : List α) (a b : Nat) : Prop where
  len : l'.length = l.length
  perm : l'.Perm l
  out : ∀ k, k < a ∨ b ≤ k → el l' k = el l k
theorem bN.refl (l : List α) (a b : Nat) : bN l l a b := ⟨rfl, .refl _, fun _ _ => rfl⟩
theorem bN.trans {l l' l2 : List α} {a b : Nat} (h : bN l l' a b) (h2 : bN l' l2 a b) : bN l l2 a b :=
  ⟨h2.len.trans h.len, h2.perm.trans h.perm, fun k hk => (h2.out k hk).trans (h.out k hk)⟩
theorem bN.mono {l l' : List α} {a b a' b' : Nat} (h : bN l l' a b) (ha : a' ≤ a) (hb : b ≤ b') : bN l l' a' b' :=
  ⟨h.len, h.perm, fun k hk => h.out k (by omega)⟩
theorem bN.swap {l : List α} {i j a b : Nat} (hi : i < l.length) (hj : j < l.length) (h1 : a ≤ i) (h2 : i < b) (h3 : a ≤ j) (h4 : j < b) : bN l (eC l i j) a b :=
  ⟨cV l i j, ub hi hj, fun k hk => by rw [fS hi hj, if_neg (by omega), if_neg (by omega)]⟩
theorem bN.mem {l l' : List α} {a b : Nat} (h : bN l l' a b) (hab : a ≤ b) (hb : b ≤ l.length) {k : Nat} (h1 : a ≤ k) (h2 : k < b) : ∃ k', a ≤ k' ∧ k' < b ∧ el l' k = el l k' := by
  have seg : ∀ (m : List α), m.length = l.length → (∀ k, k < a ∨ b ≤ k → el m k = el l k) → m = l.take a ++ ((m.drop a).take (b - a) ++ l.drop b) := by
    intro m hm ho
    have e1 : m.take a = l.take a := by
      apply List.ext_getElem?
      intro i
      rw [List.getElem?_take, List.getElem?_take]
      split
      · rename_i hi
        rw [iA (by omega), iA (by omega), ho i (.inl hi)]
      · rfl
    have e2 : m.drop b = l.drop b := by
      apply List.ext_getElem?
      intro i
      rw [List.getElem?_drop, List.getElem?_drop]
      rcases Nat.lt_or_ge (b + i) l.length with hi | hi
      · rw [iA (by omega), iA (by omega), ho _ (.inr (by omega))]
      · rw [List.getElem?_eq_none (by omega), List.getElem?_eq_none (by omega)]
    have e3 : m.drop a = (m.drop a).take (b - a) ++ m.drop b := by
      have := List.take_append_drop (b - a) (m.drop a)
      rw [List.drop_drop] at this
      rw [show a + (b - a) = b by omega] at this
      exact this.symm
    rw [← e1, ← e2, ← e3, List.take_append_drop]
  have p : ((l'.drop a).take (b - a)).Perm ((l.drop a).take (b - a)) := by
    have e1 := seg l' h.len h.out
    have e2 := seg l rfl fun _ _ => rfl
    have := h.perm
    rw [e1] at this
    conv at this => rhs; rw [e2]
    rw [List.perm_append_left_iff] at this
    rwa [List.perm_append_right_iff] at this
  have hm : el l' k ∈ (l'.drop a).take (b - a) := by
    refine List.mem_of_getElem? (i := k - a) ?_
    rw [List.getElem?_take, if_pos (by omega), List.getElem?_drop, show a + (k - a) = k by omega]
    exact iA (by rw [h.len]; omega)
  obtain ⟨i, hi⟩ := List.mem_iff_getElem?.1 (p.mem_iff.1 hm)
  rw [List.getElem?_take] at hi
  split at hi
  · rename_i hlt
    rw [List.getElem?_drop] at hi
    exact ⟨a + i, by omega, by omega, (qY hi).symm⟩
  · cases hi
theorem bl.out {l l' : List α} {a b c d : Nat} (h : bl lt l a b) (ht : bN l l' c d) (hd : b ≤ c ∨ d ≤ a) : bl lt l' a b := fun i j h1 h2 h3 => by
  rw [ht.out i (by omega), ht.out j (by omega)]
  exact h i j h1 h2 h3
theorem bl.join {l : List α} {a m b : Nat} (h1 : bl lt l a m) (h2 : bl lt l m b) (h : ∀ i j, a ≤ i → i < m → m ≤ j → j < b → lt (el l j) (el l i) = false) : bl lt l a b := fun i j q1 q2 q3 => by
  rcases Nat.lt_or_ge j m with hj | hj
  · exact h1 i j q1 q2 hj
  · rcases Nat.lt_or_ge i m with hi | hi
    · exact h i j q1 hi hj q3
    · exact h2 i j hi q2 q3
def gl (l : List α) (a : Nat) : Nat → List α
  | 0 => l
  | j + 1 => if a < j + 1 then (if lt (el l (j + 1)) (el l j) = true then gl (eC l (j + 1) j) a j else l) else l
def iP (l : List α) (a : Nat) : Nat → Nat → List α
  | 0, _ => l
  | c + 1, i => iP (gl lt l a i) a c (i + 1)
def ee (l : List α) (a b : Nat) : List α := iP lt l a (b - (a + 1)) (a + 1)
theorem kO (a : Nat) : ∀ (j : Nat) (l : List α), j < l.length → bN l (gl lt l a j) a (j + 1)
  | 0, l, _ => .refl _ _ _
  | j + 1, l, h => by
    unfold gl
    split
    · split
      · exact (bN.swap h (by omega) (by omega) (by omega) (by omega) (by omega)).trans ((kO a j (eC l (j + 1) j) (by rw [cV]; omega)).mono (Nat.le_refl _) (by omega))
      · exact .refl _ _ _
    · exact .refl _ _ _
theorem mG (hw : mQ lt) {a J : Nat} : ∀ (j : Nat) (l : List α), J < l.length → a ≤ j → j ≤ J → (∀ i k, a ≤ i → i < k → k ≤ J → i ≠ j → k ≠ j → lt (el l k) (el l i) = false) → (∀ k, j < k → k ≤ J → lt (el l k) (el l j) = false) →
    bl lt (gl lt l a j) a (J + 1)
  | 0, l, hl, ha, hj, h1, h2 => by
    unfold gl
    intro i k q1 q2 q3
    by_cases e : i = 0
    · subst e; exact h2 k q2 (by omega)
    · exact h1 i k q1 q2 (by omega) e (by omega)
  | j + 1, l, hl, ha, hj, h1, h2 => by
    unfold gl
    have done : (a < j + 1 → lt (el l (j + 1)) (el l j) = false) → bl lt l a (J + 1) := by
      intro hne i k q1 q2 q3
      by_cases e : i = j + 1
      · subst e; exact h2 k q2 (by omega)
      · by_cases e2 : k = j + 1
        · subst e2
          have h3 := hne (by omega)
          by_cases e3 : i = j
          · subst e3; exact h3
          · exact hw.trans _ _ _ (h1 i j q1 (by omega) (by omega) e (by omega)) h3
        · exact h1 i k q1 q2 (by omega) e e2
    split
    · rename_i haj
      split
      · rename_i hlt
        refine mG hw j _ (by rw [cV]; exact hl) (by omega) (by omega) (fun i k q1 q2 q3 q4 q5 => ?_) (fun k q1 q2 => ?_)
        · rw [fS (by omega) (by omega), fS (by omega) (by omega), if_neg q5, if_neg q4]
          by_cases e1 : k = j + 1
          · rw [if_pos e1, if_neg (by omega)]
            exact h1 i j q1 (by omega) (by omega) (by omega) (by omega)
          · rw [if_neg e1]
            by_cases e2 : i = j + 1
            · rw [if_pos e2]
              exact h1 j k (by omega) (by omega) q3 (by omega) e1
            · rw [if_neg e2]
              exact h1 i k q1 q2 q3 e2 e1
        · rw [fS (by omega) (by omega), fS (by omega) (by omega), if_neg (by omega), if_pos rfl]
          by_cases e1 : k = j + 1
          · rw [if_pos e1]; exact hw.asymm _ _ hlt
          · rw [if_neg e1]; exact h2 k (by omega) q2
      · rename_i hlt
        exact done fun _ => by simpa using hlt
    · rename_i haj
      exact done fun q => absurd q haj
theorem lU (a : Nat) : ∀ (c i : Nat) (l : List α), i + c ≤ l.length → bN l (iP lt l a c i) a (i + c)
  | 0, i, l, _ => .refl _ _ _
  | c + 1, i, l, h => by
    have h1 := kO lt a i l (by omega)
    have h2 := lU a c (i + 1) (gl lt l a i) (by rw [h1.len]; omega)
    rw [show i + 1 + c = i + (c + 1) by omega] at h2
    exact (h1.mono (Nat.le_refl _) (by omega)).trans h2
theorem lh (hw : mQ lt) {a : Nat} : ∀ (c i : Nat) (l : List α), a ≤ i → i + c ≤ l.length → bl lt l a i → bl lt (iP lt l a c i) a (i + c)
  | 0, i, l, _, _, h => h
  | c + 1, i, l, ha, hl, h => by
    have h1 := kO lt a i l (by omega)
    have h2 := mG lt hw i l (by omega) ha (Nat.le_refl _) (fun x k q1 q2 q3 q4 q5 => h x k q1 q2 (by omega)) (fun k q1 q2 => by omega)
    have h3 := lh hw c (i + 1) _ (by omega) (by rw [h1.len]; omega) h2
    rw [show i + 1 + c = i + (c + 1) by omega] at h3
    exact h3
theorem eA {l : List α} {a b : Nat} (h : b ≤ l.length) : bN l (ee lt l a b) a b := by
  unfold ee
  rcases Nat.lt_or_ge a b with hab | hab
  · have := lU lt a (b - (a + 1)) (a + 1) l (by omega)
    rw [show a + 1 + (b - (a + 1)) = b by omega] at this
    exact this
  · rw [show b - (a + 1) = 0 by omega]
    exact .refl _ _ _
theorem lb (hw : mQ lt) {l : List α} {a b : Nat} (h : b ≤ l.length) : bl lt (ee lt l a b) a b := by
  unfold ee
  rcases Nat.lt_or_ge a b with hab | hab
  · have := lh lt hw (a := a) (b - (a + 1)) (a + 1) l (by omega) (by omega) (fun i j q1 q2 q3 => by omega)
    rw [show a + 1 + (b - (a + 1)) = b by omega] at this
    exact this
  · intro i j q1 q2 q3; omega
end
end Go.Tb
namespace Go.Tb
section
variable {α : Type} [Inhabited α]
def cZ (l : List α) (a b : Nat) : Nat → Nat → List α
  | 0, _ => l
  | c + 1, i => cZ (eC l (a + i) (b + i)) a b c (i + 1)
theorem dW {a b lo hi : Nat} : ∀ (c i : Nat) (l : List α), a + i + c ≤ l.length → b + i + c ≤ l.length → lo ≤ a → lo ≤ b → a + i + c ≤ hi → b + i + c ≤ hi → bN l (cZ l a b c i) lo hi
  | 0, i, l, _, _, _, _, _, _ => .refl _ _ _
  | c + 1, i, l, h1, h2, h3, h4, h5, h6 => by
    unfold cZ
    exact (bN.swap (by omega) (by omega) (by omega) (by omega) (by omega) (by omega)).trans (dW c (i + 1) _ (by rw [cV]; omega) (by rw [cV]; omega) h3 h4 (by omega) (by omega))
theorem lE {a b : Nat} : ∀ (c i : Nat) (l : List α), a + i + c ≤ b + i → b + i + c ≤ l.length → ∀ k, el (cZ l a b c i) k = if a + i ≤ k ∧ k < a + i + c then el l (k - a + b) else if b + i ≤ k ∧ k < b + i + c then el l (k - b + a) else el l k
  | 0, i, l, _, _, k => by
    unfold cZ
    rw [if_neg (by omega), if_neg (by omega)]
  | c + 1, i, l, h1, h2, k => by
    unfold cZ
    rw [lE c (i + 1) _ (by omega) (by rw [cV]; omega) k]
    have e := fun x => fS (l := l) (i := a + i) (j := b + i) (k := x) (by omega) (by omega)
    rw [e, e, e]
    by_cases q1 : a + i ≤ k ∧ k < a + i + (c + 1)
    · rw [if_pos q1]
      by_cases q2 : k = a + i
      · rw [if_neg (by omega), if_neg (by omega), if_neg (by omega), if_pos q2, q2]
        congr 1
        omega
      · rw [if_pos (by omega), if_neg (by omega), if_neg (by omega)]
    · rw [if_neg q1, if_neg (by omega)]
      by_cases q3 : b + i ≤ k ∧ k < b + i + (c + 1)
      · rw [if_pos q3]
        by_cases q4 : k = b + i
        · rw [if_neg (by omega), if_pos q4, q4]
          congr 1
          omega
        · rw [if_pos (by omega), if_neg (by omega), if_neg (by omega)]
      · rw [if_neg q3, if_neg (by omega), if_neg (by omega), if_neg (by omega)]
def fN : Nat → List α → Nat → Nat → Nat → List α
  | 0, l, _, _, _ => l
  | f + 1, l, m, i, j => if i = j then cZ l (m - i) m i 0 else if j < i then fN f (cZ l (m - i) m j 0) m (i - j) j else fN f (cZ l (m - i) (m + j - i) i 0) m i (j - i)
theorem iw {lo hi : Nat} : ∀ (f : Nat) (l : List α) (m i j : Nat), i ≤ m → m + j ≤ l.length → lo ≤ m - i → m + j ≤ hi → bN l (fN f l m i j) lo hi
  | 0, l, m, i, j, _, _, _, _ => .refl _ _ _
  | f + 1, l, m, i, j, h1, h2, h3, h4 => by
    unfold fN
    split
    · exact dW i 0 l (by omega) (by omega) (by omega) (by omega) (by omega) (by omega)
    · split
      · have h5 : bN l (cZ l (m - i) m j 0) lo hi := dW j 0 l (by omega) (by omega) (by omega) (by omega) (by omega) (by omega)
        exact h5.trans (iw f _ m (i - j) j (by omega) (by rw [h5.len]; omega) (by omega) h4)
      · have h5 : bN l (cZ l (m - i) (m + j - i) i 0) lo hi := dW i 0 l (by omega) (by omega) (by omega) (by omega) (by omega) (by omega)
        exact h5.trans (iw f _ m i (j - i) (by omega) (by rw [h5.len]; omega) (by omega) (by omega))
theorem pN : ∀ (f : Nat) (l : List α) (m i j : Nat), 0 < i → 0 < j → i ≤ m → m + j ≤ l.length → i + j ≤ f → ∀ k, el (fN f l m i j) k = if m - i ≤ k ∧ k < m - i + j then el l (k + i) else if m - i + j ≤ k ∧ k < m + j then el l (k - j) else el l k
  | 0, l, m, i, j, h1, h2, _, _, hf, k => by omega
  | f + 1, l, m, i, j, h1, h2, h3, h4, hf, k => by
    unfold fN
    split
    · rename_i e
      subst e
      rw [lE i 0 l (by omega) (by omega) k]
      by_cases q1 : m - i ≤ k ∧ k < m - i + i
      · rw [if_pos (by omega), if_pos q1]; congr 1; omega
      · rw [if_neg (by omega), if_neg q1]
        by_cases q2 : m - i + i ≤ k ∧ k < m + i
        · rw [if_pos (by omega), if_pos q2]; congr 1; omega
        · rw [if_neg (by omega), if_neg q2]
    · split
      · rename_i e1 e2
        have hl : (cZ l (m - i) m j 0).length = l.length := (dW (lo := 0) (hi := l.length) j 0 l (by omega) (by omega) (by omega) (by omega) (by omega) (by omega)).len
        have hs := lE (a := m - i) (b := m) j 0 l (by omega) (by omega)
        rw [pN f _ m (i - j) j (by omega) h2 (by omega) (by rw [hl]; omega) (by omega) k]
        by_cases q1 : m - i ≤ k ∧ k < m - i + j
        · rw [if_neg (by omega), if_neg (by omega), hs, if_pos (by omega), if_pos q1]; congr 1; omega
        · by_cases q2 : m - (i - j) ≤ k ∧ k < m - (i - j) + j
          · rw [if_pos q2, hs, if_neg q1]
            by_cases q3 : k + (i - j) < m
            · rw [if_neg (by omega), if_neg (by omega), if_pos (by omega)]
              omega
            · rw [if_neg (by omega), if_pos (by omega), if_pos (by omega)]; congr 1; omega
          · rw [if_neg q2]
            by_cases q4 : m - (i - j) + j ≤ k ∧ k < m + j
            · rw [if_pos q4, hs, if_neg (by omega), if_neg (by omega), if_neg q1, if_pos (by omega)]
            · rw [if_neg q4, hs, if_neg (by omega), if_neg (by omega), if_neg q1, if_neg (by omega)]
      · rename_i e1 e2
        have hl : (cZ l (m - i) (m + j - i) i 0).length = l.length := (dW (lo := 0) (hi := l.length) i 0 l (by omega) (by omega) (by omega) (by omega) (by omega) (by omega)).len
        have hs := lE (a := m - i) (b := m + j - i) i 0 l (by omega) (by omega)
        rw [pN f _ m i (j - i) h1 (by omega) (by omega) (by rw [hl]; omega) (by omega) k]
        by_cases q1 : m + j - i ≤ k ∧ k < m + j
        · rw [if_neg (by omega), if_neg (by omega), hs, if_neg (by omega), if_pos (by omega), if_neg (by omega), if_pos (by omega)]; congr 1; omega
        · by_cases q2 : m - i ≤ k ∧ k < m - i + (j - i)
          · rw [if_pos q2, hs, if_neg (by omega), if_neg (by omega), if_pos (by omega)]
          · rw [if_neg q2]
            by_cases q4 : m - i + (j - i) ≤ k ∧ k < m + (j - i)
            · rw [if_pos q4, hs, if_pos (by omega), if_pos (by omega)]; congr 1; omega
            · rw [if_neg q4, hs, if_neg (by omega), if_neg (by omega), if_neg (by omega), if_neg (by omega)]
def lY (l : List α) : Nat → Nat → List α
  | 0, _ => l
  | c + 1, k => lY (eC l k (k + 1)) c (k + 1)
def lW (l : List α) : Nat → Nat → List α
  | 0, _ => l
  | c + 1, k => lW (eC l k (k - 1)) c (k - 1)
theorem qv {lo hi : Nat} : ∀ (c k : Nat) (l : List α), k + c < l.length → lo ≤ k → k + c < hi → bN l (lY l c k) lo hi
  | 0, _, _, _, _, _ => .refl _ _ _
  | c + 1, k, l, h1, h2, h3 => by
    unfold lY
    exact (bN.swap (by omega) (by omega) (by omega) (by omega) (by omega) (by omega)).trans (qv c (k + 1) _ (by rw [cV]; omega) (by omega) (by omega))
theorem uR : ∀ (c k : Nat) (l : List α), k + c < l.length → ∀ x, el (lY l c k) x = if k ≤ x ∧ x < k + c then el l (x + 1) else if x = k + c then el l k else el l x
  | 0, k, l, h, x => by
    unfold lY
    rw [if_neg (by omega)]
    by_cases e : x = k
    · subst e; rw [if_pos (by omega)]
    · rw [if_neg (by omega)]
  | c + 1, k, l, h, x => by
    unfold lY
    rw [uR c (k + 1) _ (by rw [cV]; omega) x]
    have e := fun y => fS (l := l) (i := k) (j := k + 1) (k := y) (by omega) (by omega)
    rw [e, e, e]
    by_cases q1 : k ≤ x ∧ x < k + (c + 1)
    · rw [if_pos q1]
      by_cases q2 : x = k
      · rw [if_neg (by omega), if_neg (by omega), if_neg (by omega), if_pos q2, q2]
      · rw [if_pos (by omega), if_neg (by omega), if_neg (by omega)]
    · rw [if_neg q1, if_neg (by omega)]
      by_cases q3 : x = k + (c + 1)
      · rw [if_pos (by omega), if_pos rfl, if_pos q3]
      · rw [if_neg (by omega), if_neg (by omega), if_neg (by omega), if_neg q3]
theorem qt {lo hi : Nat} : ∀ (c k : Nat) (l : List α), k < l.length → lo + c ≤ k → k < hi → bN l (lW l c k) lo hi
  | 0, _, _, _, _, _ => .refl _ _ _
  | c + 1, k, l, h1, h2, h3 => by
    unfold lW
    exact (bN.swap (by omega) (by omega) (by omega) (by omega) (by omega) (by omega)).trans (qt c (k - 1) _ (by rw [cV]; omega) (by omega) (by omega))
theorem uL : ∀ (c k : Nat) (l : List α), k < l.length → c ≤ k → ∀ x, el (lW l c k) x = if k - c < x ∧ x ≤ k then el l (x - 1) else if x = k - c then el l k else el l x
  | 0, k, l, h, _, x => by
    unfold lW
    rw [if_neg (by omega)]
    by_cases e : x = k
    · subst e; rw [if_pos (by omega)]
    · rw [if_neg (by omega)]
  | c + 1, k, l, h, hc, x => by
    unfold lW
    rw [uL c (k - 1) _ (by rw [cV]; omega) (by omega) x]
    have e := fun y => fS (l := l) (i := k) (j := k - 1) (k := y) (by omega) (by omega)
    rw [e, e, e]
    by_cases q1 : k - (c + 1) < x ∧ x ≤ k
    · rw [if_pos q1]
      by_cases q2 : x = k
      · rw [if_neg (by omega), if_neg (by omega), if_neg (by omega), if_pos q2, q2]
      · rw [if_pos (by omega), if_neg (by omega), if_neg (by omega)]
    · rw [if_neg q1, if_neg (by omega)]
      by_cases q3 : x = k - (c + 1)
      · rw [if_pos (by omega), if_pos rfl, if_pos q3]
      · rw [if_neg (by omega), if_neg (by omega), if_neg (by omega), if_neg q3]
def c8 (p : Nat → Bool) : Nat → Nat → Nat → Nat
  | 0, i, _ => i
  | f + 1, i, j => if i < j then (if p ((i + j) / 2) = true then c8 p f ((i + j) / 2 + 1) j else c8 p f i ((i + j) / 2)) else i
theorem mY {p : Nat → Bool} {lo hi : Nat} (hm : ∀ x y, lo ≤ x → x ≤ y → y < hi → p y = true → p x = true) : ∀ (f i j : Nat), lo ≤ i → i ≤ j → j ≤ hi → j - i < f → (∀ x, lo ≤ x → x < i → p x = true) → (∀ x, j ≤ x → x < hi → p x = false) →
    lo ≤ c8 p f i j ∧ c8 p f i j ≤ hi ∧ (∀ x, lo ≤ x → x < c8 p f i j → p x = true) ∧ (∀ x, c8 p f i j ≤ x → x < hi → p x = false)
  | 0, i, j, _, _, _, hf, _, _ => by omega
  | f + 1, i, j, h1, h2, h3, hf, h4, h5 => by
    unfold c8
    split
    · rename_i hij
      split
      · rename_i hp
        refine mY hm f _ j (by omega) (by omega) h3 (by omega) (fun x q1 q2 => ?_) h5
        exact hm x _ q1 (by omega) (by omega) hp
      · rename_i hp
        refine mY hm f i _ h1 (by omega) (by omega) (by omega) h4 (fun x q1 q2 => ?_)
        cases hx : p x with
        | false => rfl
        | true => exact absurd (hm ((i + j) / 2) x (by omega) q1 q2 hx) hp
    · rename_i hij
      have : i = j := by omega
      subst this
      exact ⟨h1, h3, h4, h5⟩
theorem p9 {p : Nat → Bool} {lo hi : Nat} (hm : ∀ x y, lo ≤ x → x ≤ y → y < hi → p y = true → p x = true) (hle : lo ≤ hi) {f : Nat} (hf : hi - lo < f) :
    lo ≤ c8 p f lo hi ∧ c8 p f lo hi ≤ hi ∧ (∀ x, lo ≤ x → x < c8 p f lo hi → p x = true) ∧ (∀ x, c8 p f lo hi ≤ x → x < hi → p x = false) :=
  mY hm f lo hi (Nat.le_refl _) hle (Nat.le_refl _) hf (fun x q1 q2 => by omega) (fun x q1 q2 => by omega)
theorem la (p : Nat → Bool) : ∀ (f i j : Nat), i ≤ c8 p f i j
  | 0, i, _ => Nat.le_refl _
  | f + 1, i, j => by
    unfold c8
    split
    · split
      · exact Nat.le_trans (by omega) (la p f _ j)
      · exact la p f i _
    · exact Nat.le_refl _
theorem ld {p : Nat → Bool} : ∀ {f i j : Nat}, i ≤ j → c8 p f i j ≤ j
  | 0, i, j, h => h
  | f + 1, i, j, h => by
    unfold c8
    split
    · split
      · exact ld (by omega)
      · exact Nat.le_trans (ld (f := f) (by omega)) (by omega)
    · exact h
variable (lt : α → α → Bool)
def dB : Nat → List α → Nat → Nat → Nat → List α
  | 0, l, _, _, _ => l
  | f + 1, l, a, m, b =>
    if m - a = 1 then lY l (c8 (fun h => lt (el l h) (el l a)) (b - m + 1) m b - 1 - a) a
    else if b - m = 1 then lW l (m - c8 (fun h => !lt (el l m) (el l h)) (m - a + 1) a m) m
    else
      let mid := (a + b) / 2
      let n := mid + m
      let s0 := if mid < m then n - b else a
      let r0 := if mid < m then mid else m
      let start := c8 (fun c => !lt (el l (n - 1 - c)) (el l c)) (r0 - s0 + 1) s0 r0
      let e := n - start
      let l1 := if start < m ∧ m < e then fN (m - start + (e - m)) l m (m - start) (e - m) else l
      let l2 := if a < start ∧ start < mid then dB f l1 a start mid else l1
      if mid < e ∧ e < b then dB f l2 mid e b else l2
end
end Go.Tb
namespace Go.Tb
section
variable {α : Type} [Inhabited α] (lt : α → α → Bool)
theorem uh (hw : mQ lt) {l : List α} {a b r : Nat} (hb : b ≤ l.length) (har : a < r) (hrb : r ≤ b) (hs : bl lt l (a + 1) b) (h1 : ∀ x, a + 1 ≤ x → x < r → lt (el l x) (el l a) = true) (h2 : ∀ x, r ≤ x → x < b → lt (el l x) (el l a) = false) :
    bl lt (lY l (r - 1 - a) a) a b := by
  have he := uR (r - 1 - a) a l (by omega)
  intro i j q1 q2 q3
  rw [he, he]
  by_cases e1 : a ≤ i ∧ i < a + (r - 1 - a)
  · rw [if_pos e1]
    by_cases e2 : a ≤ j ∧ j < a + (r - 1 - a)
    · rw [if_pos e2]
      exact hs (i + 1) (j + 1) (by omega) (by omega) (by omega)
    · rw [if_neg e2]
      by_cases e3 : j = a + (r - 1 - a)
      · rw [if_pos e3]
        exact hw.asymm _ _ (h1 (i + 1) (by omega) (by omega))
      · rw [if_neg e3]
        exact hs (i + 1) j (by omega) (by omega) (by omega)
  · rw [if_neg e1]
    by_cases e3 : i = a + (r - 1 - a)
    · rw [if_pos e3, if_neg (by omega), if_neg (by omega)]
      exact h2 j (by omega) q3
    · rw [if_neg e3, if_neg (by omega), if_neg (by omega)]
      exact hs i j (by omega) q2 q3
theorem tx (hw : mQ lt) {l : List α} {a m r : Nat} (hm : m < l.length) (har : a ≤ r) (hrm : r ≤ m) (hs : bl lt l a m) (h1 : ∀ x, a ≤ x → x < r → lt (el l m) (el l x) = false) (h2 : ∀ x, r ≤ x → x < m → lt (el l m) (el l x) = true) :
    bl lt (lW l (m - r) m) a (m + 1) := by
  have he := uL (m - r) m l hm (by omega)
  intro i j q1 q2 q3
  rw [he, he]
  by_cases e1 : m - (m - r) < i ∧ i ≤ m
  · rw [if_pos e1, if_pos (by omega)]
    exact hs (i - 1) (j - 1) (by omega) (by omega) (by omega)
  · rw [if_neg e1]
    by_cases e3 : i = m - (m - r)
    · rw [if_pos e3, if_pos (by omega)]
      exact hw.asymm _ _ (h2 (j - 1) (by omega) (by omega))
    · rw [if_neg e3]
      by_cases e2 : m - (m - r) < j ∧ j ≤ m
      · rw [if_pos e2]
        exact hs i (j - 1) q1 (by omega) (by omega)
      · rw [if_neg e2]
        by_cases e4 : j = m - (m - r)
        · rw [if_pos e4]
          exact h1 i q1 (by omega)
        · rw [if_neg e4]
          exact hs i j q1 q2 (by omega)
theorem dm : ∀ (f : Nat) (l : List α) (a m b : Nat), a < m → m < b → b ≤ l.length → bN l (dB lt f l a m b) a b
  | 0, l, _, _, _, _, _, _ => .refl _ _ _
  | f + 1, l, a, m, b, h1, h2, h3 => by
    unfold dB
    split
    · rename_i e
      obtain ⟨q1, q2, _, _⟩ | hz : (m ≤ c8 (fun h => lt (el l h) (el l a)) (b - m + 1) m b ∧ c8 (fun h => lt (el l h) (el l a)) (b - m + 1) m b ≤ b ∧ True ∧ True) ∨ False := by
        left
        exact ⟨la _ _ _ _, ld (by omega), trivial, trivial⟩
      · exact qv _ _ _ (by omega) (Nat.le_refl _) (by omega)
      · exact hz.elim
    · split
      · have q1 := la (fun h => !lt (el l m) (el l h)) (m - a + 1) a m
        have q2 := ld (p := fun h => !lt (el l m) (el l h)) (f := m - a + 1) (i := a) (j := m) (by omega)
        exact qt _ _ _ (by omega) (by omega) (by omega)
      · rename_i e1 e2
        dsimp only
        generalize hs0 : (if (a + b) / 2 < m then (a + b) / 2 + m - b else a) = s0
        generalize hr0 : (if (a + b) / 2 < m then (a + b) / 2 else m) = r0
        have hle : s0 ≤ r0 := by subst hs0 hr0; split <;> omega
        have hs1 : a ≤ s0 := by subst hs0; split <;> omega
        have hr1 : r0 ≤ m ∧ r0 ≤ (a + b) / 2 ∨ r0 = m ∧ m ≤ (a + b) / 2 := by subst hr0; split <;> omega
        have g1 := la (fun c => !lt (el l ((a + b) / 2 + m - 1 - c)) (el l c)) (r0 - s0 + 1) s0 r0
        have g2 := ld (p := fun c => !lt (el l ((a + b) / 2 + m - 1 - c)) (el l c)) (f := r0 - s0 + 1) (i := s0) (j := r0) hle
        generalize hst : c8 (fun c => !lt (el l ((a + b) / 2 + m - 1 - c)) (el l c)) (r0 - s0 + 1) s0 r0 = start at g1 g2 ⊢
        have hsb : (a + b) / 2 + m - start ≤ b := by subst hs0; split at g1 <;> omega
        have t1 : bN l (if start < m ∧ m < (a + b) / 2 + m - start then fN (m - start + ((a + b) / 2 + m - start - m)) l m (m - start) ((a + b) / 2 + m - start - m) else l) a b := by
          split
          · exact iw _ _ _ _ _ (by omega) (by omega) (by omega) (by omega)
          · exact .refl _ _ _
        generalize (if start < m ∧ m < (a + b) / 2 + m - start then fN (m - start + ((a + b) / 2 + m - start - m)) l m (m - start) ((a + b) / 2 + m - start - m) else l) = l1 at t1 ⊢
        have t2 : bN l1 (if a < start ∧ start < (a + b) / 2 then dB lt f l1 a start ((a + b) / 2) else l1) a b := by
          split
          · exact (dm f l1 a start _ (by omega) (by omega) (by rw [t1.len]; omega)).mono (Nat.le_refl _) (by omega)
          · exact .refl _ _ _
        generalize (if a < start ∧ start < (a + b) / 2 then dB lt f l1 a start ((a + b) / 2) else l1) = l2 at t2 ⊢
        have t3 : bN l2 (if (a + b) / 2 < (a + b) / 2 + m - start ∧ (a + b) / 2 + m - start < b then dB lt f l2 ((a + b) / 2) ((a + b) / 2 + m - start) b else l2) a b := by
          split
          · exact (dm f l2 _ _ b (by omega) (by omega) (by rw [t2.len, t1.len]; omega)).mono (by omega) (Nat.le_refl _)
          · exact .refl _ _ _
        exact (t1.trans t2).trans t3
theorem iY (hw : mQ lt) : ∀ (f : Nat) (l : List α) (a m b : Nat), a < m → m < b → b ≤ l.length → b - a ≤ f → bl lt l a m → bl lt l m b → bl lt (dB lt f l a m b) a b
  | 0, l, a, m, b, h1, h2, _, hf, _, _ => by omega
  | f + 1, l, a, m, b, h1, h2, h3, hf, hA, hB => by
    unfold dB
    have mono : ∀ x y, m ≤ x → x ≤ y → y < b → lt (el l y) (el l x) = false := fun x y q1 q2 q3 => by
      by_cases e : x = y
      · subst e
        cases q : lt (el l x) (el l x) with
        | false => rfl
        | true => exact (hw.asymm _ _ q).symm.trans q |>.symm ▸ rfl
      · exact hB x y q1 (by omega) q3
    have monoA : ∀ x y, a ≤ x → x ≤ y → y < m → lt (el l y) (el l x) = false := fun x y q1 q2 q3 => by
      by_cases e : x = y
      · subst e
        cases q : lt (el l x) (el l x) with
        | false => rfl
        | true => exact (hw.asymm _ _ q).symm.trans q |>.symm ▸ rfl
      · exact hA x y q1 (by omega) q3
    have down : ∀ x y z, lt y z = true → lt y x = false → lt x z = true := fun x y z q1 q2 => by
      cases q : lt x z with
      | true => rfl
      | false =>
        have := hw.trans z x y q q2
        rw [q1] at this
        cases this
    have up : ∀ x y z, lt x y = true → lt z y = false → lt x z = true := fun x y z q1 q2 => by
      cases q : lt x z with
      | true => rfl
      | false =>
        have := hw.trans y z x q2 q
        rw [q1] at this
        cases this
    split
    · rename_i e
      obtain rfl : m = a + 1 := by omega
      obtain ⟨q1, q2, q3, q4⟩ := p9 (p := fun h => lt (el l h) (el l a)) (lo := a + 1) (hi := b) (fun x y p1 p2 p3 p4 => down _ _ _ p4 (mono x y p1 p2 p3)) (by omega) (f := b - (a + 1) + 1) (by omega)
      exact uh lt hw h3 (by omega) q2 hB q3 q4
    · split
      · rename_i e1 e2
        obtain rfl : b = m + 1 := by omega
        obtain ⟨q1, q2, q3, q4⟩ := p9 (p := fun h => !lt (el l m) (el l h)) (lo := a) (hi := m) (fun x y p1 p2 p3 p4 => by
          simp only [Bool.not_eq_true'] at p4 ⊢
          exact hw.trans _ _ _ (monoA x y p1 p2 p3) p4) (by omega) (f := m - a + 1) (by omega)
        exact tx lt hw (by omega) q1 q2 hA (fun x p1 p2 => by simpa using q3 x p1 p2) (fun x p1 p2 => by simpa using q4 x p1 p2)
      · rename_i e1 e2
        dsimp only
        generalize hmid : (a + b) / 2 = mid
        have hmid1 : a < mid := by omega
        have hmid2 : mid < b := by omega
        have hmid3 : mid - a < b - a := by omega
        generalize hs0 : (if mid < m then mid + m - b else a) = s0
        generalize hr0 : (if mid < m then mid else m) = r0
        have hle : s0 ≤ r0 := by subst hs0 hr0; split <;> omega
        have hs1 : a ≤ s0 := by subst hs0; split <;> omega
        have hr1 : r0 ≤ m ∧ r0 ≤ mid := by subst hr0; split <;> omega
        have hlow : ∀ c, s0 ≤ c → c < r0 → m ≤ mid + m - 1 - c ∧ mid + m - 1 - c < b := fun c p1 p2 => by subst hs0 hr0; split at p1 <;> split at p2 <;> omega
        obtain ⟨g1, g2, g3, g4⟩ := p9 (p := fun c => !lt (el l (mid + m - 1 - c)) (el l c)) (lo := s0) (hi := r0) (fun x y p1 p2 p3 p4 => by
          simp only [Bool.not_eq_true'] at p4 ⊢
          have h5 := monoA x y (by omega) p2 (by omega)
          have h6 := hlow y (by omega) p3
          have h7 := hlow x p1 (by omega)
          have h8 := mono (mid + m - 1 - y) (mid + m - 1 - x) h6.1 (by omega) h7.2
          exact hw.trans _ _ _ (hw.trans _ _ _ h5 p4) h8) hle (f := r0 - s0 + 1) (by omega)
        generalize hst : c8 (fun c => !lt (el l (mid + m - 1 - c)) (el l c)) (r0 - s0 + 1) s0 r0 = start at g1 g2 g3 g4 ⊢
        have hsb : mid + m - start ≤ b := by subst hs0; split at g1 <;> omega
        have hse : m ≤ mid + m - start := by omega
        generalize he : mid + m - start = e at hsb hse ⊢
        have cross1 : ∀ x y, a ≤ x → x < start → e ≤ y → y < b → lt (el l y) (el l x) = false := fun x y p1 p2 p3 p4 => by
          by_cases q : start = s0
          · exfalso
            subst hs0
            split at q <;> omega
          · have h5 := g3 (start - 1) (by omega) (by omega)
            simp only [Bool.not_eq_true'] at h5
            have h6 : mid + m - 1 - (start - 1) = e := by omega
            rw [h6] at h5
            exact hw.trans _ _ _ (hw.trans _ _ _ (monoA x (start - 1) p1 (by omega) (by omega)) h5) (mono e y (by omega) p3 p4)
        have cross2 : ∀ x y, m ≤ x → x < e → start ≤ y → y < m → lt (el l y) (el l x) = false := fun x y p1 p2 p3 p4 => by
          by_cases q : start = r0
          · exfalso
            subst hr0
            split at q <;> omega
          · have h5 := g4 start (Nat.le_refl _) (by omega)
            simp only [Bool.not_eq_false'] at h5
            have h6 : mid + m - 1 - start = e - 1 := by omega
            rw [h6] at h5
            exact hw.trans _ _ _ (hw.trans _ _ _ (mono x (e - 1) p1 (by omega) (by omega)) (hw.asymm _ _ h5)) (monoA start y (by omega) p3 p4)
        have rot : ∃ l1, (if start < m ∧ m < e then fN (m - start + (e - m)) l m (m - start) (e - m) else l) = l1 ∧ l1.length = l.length ∧
            ∀ k, el l1 k = if start ≤ k ∧ k < mid then el l (k + (m - start)) else if mid ≤ k ∧ k < e then el l (k - (e - m)) else el l k := by
          refine ⟨_, rfl, ?_, ?_⟩
          · split
            · exact (iw (lo := 0) (hi := l.length) _ _ _ _ _ (by omega) (by omega) (by omega) (by omega)).len
            · rfl
          · intro k
            split
            · rename_i q
              rw [pN _ l m (m - start) (e - m) (by omega) (by omega) (by omega) (by omega) (Nat.le_refl _) k]
              rw [show m - (m - start) = start by omega, show start + (e - m) = mid by omega, show m + (e - m) = e by omega]
            · rename_i q
              by_cases q1 : start ≤ k ∧ k < mid
              · rw [if_pos q1]; congr 1; omega
              · rw [if_neg q1]
                by_cases q2 : mid ≤ k ∧ k < e
                · rw [if_pos q2]; congr 1; omega
                · rw [if_neg q2]
        obtain ⟨l1, hl1, hlen1, hel1⟩ := rot
        rw [hl1]
        have s1 : bl lt l1 a start := fun i j p1 p2 p3 => by
          rw [hel1, hel1, if_neg (by omega), if_neg (by omega), if_neg (by omega), if_neg (by omega)]
          exact hA i j p1 p2 (by omega)
        have s2 : bl lt l1 start mid := fun i j p1 p2 p3 => by
          rw [hel1, hel1, if_pos (by omega), if_pos (by omega)]
          exact hB _ _ (by omega) (by omega) (by omega)
        have s3 : bl lt l1 mid e := fun i j p1 p2 p3 => by
          rw [hel1, hel1, if_neg (by omega), if_pos (by omega), if_neg (by omega), if_pos (by omega)]
          exact hA _ _ (by omega) (by omega) (by omega)
        have s4 : bl lt l1 e b := fun i j p1 p2 p3 => by
          rw [hel1, hel1, if_neg (by omega), if_neg (by omega), if_neg (by omega), if_neg (by omega)]
          exact hB i j (by omega) p2 p3
        have far : ∀ i j, a ≤ i → i < mid → mid ≤ j → j < b → lt (el l1 j) (el l1 i) = false := fun i j p1 p2 p3 p4 => by
          rw [hel1, hel1]
          by_cases q1 : start ≤ i
          · rw [if_pos (show start ≤ i ∧ i < mid from ⟨q1, p2⟩), if_neg (by omega)]
            by_cases q2 : j < e
            · rw [if_pos (by omega)]
              exact cross2 _ _ (by omega) (by omega) (by omega) (by omega)
            · rw [if_neg (by omega)]
              exact hB _ _ (by omega) (by omega) p4
          · rw [if_neg (show ¬(start ≤ i ∧ i < mid) by omega), if_neg (show ¬(mid ≤ i ∧ i < e) by omega), if_neg (by omega)]
            by_cases q2 : j < e
            · rw [if_pos (by omega)]
              exact hA _ _ p1 (by omega) (by omega)
            · rw [if_neg (by omega)]
              exact cross1 _ _ p1 (by omega) (by omega) p4
        have t2 : ∃ l2, (if a < start ∧ start < mid then dB lt f l1 a start mid else l1) = l2 ∧ bN l1 l2 a mid ∧ bl lt l2 a mid := by
          refine ⟨_, rfl, ?_, ?_⟩
          · split
            · exact dm lt f l1 a start mid (by omega) (by omega) (by omega)
            · exact .refl _ _ _
          · split
            · exact iY hw f l1 a start mid (by omega) (by omega) (by omega) (by omega) s1 s2
            · by_cases q : start ≤ a
              · obtain rfl : start = a := by omega
                exact s2
              · obtain rfl : start = mid := by omega
                exact s1
        obtain ⟨l2, hl2, t2, z2⟩ := t2
        rw [hl2]
        have s3' : bl lt l2 mid e := s3.out lt t2 (.inr (Nat.le_refl _))
        have s4' : bl lt l2 e b := s4.out lt t2 (.inr (by omega))
        have t3 : ∃ l3, (if mid < e ∧ e < b then dB lt f l2 mid e b else l2) = l3 ∧ bN l2 l3 mid b ∧ bl lt l3 mid b := by
          refine ⟨_, rfl, ?_, ?_⟩
          · split
            · exact dm lt f l2 mid e b (by omega) (by omega) (by rw [t2.len]; omega)
            · exact .refl _ _ _
          · split
            · exact iY hw f l2 mid e b (by omega) (by omega) (by rw [t2.len]; omega) (by omega) s3' s4'
            · by_cases q : e ≤ mid
              · obtain rfl : e = mid := by omega
                exact s4'
              · obtain rfl : e = b := by omega
                exact s3'
        obtain ⟨l3, hl3, t3, z3⟩ := t3
        rw [hl3]
        refine bl.join lt (z2.out lt t3 (.inl (Nat.le_refl _))) z3 (fun i j p1 p2 p3 p4 => ?_)
        rw [t3.out i (.inl p2)]
        obtain ⟨j', u1, u2, u3⟩ := t3.mem (by omega) (by rw [t2.len]; omega) p3 p4
        obtain ⟨i', v1, v2, v3⟩ := t2.mem (by omega) (by omega) p1 p2
        rw [u3, v3, t2.out j' (.inr u1)]
        exact far i' j' v1 v2 u1 u2
end
end Go.Tb
namespace Go.Tb
section
variable {α : Type} [Inhabited α] (lt : α → α → Bool) (n : Nat)
def jS : Nat → List α → Nat → List α
  | 0, l, _ => l
  | f + 1, l, a => if a + 20 ≤ n then jS f (ee lt l a (a + 20)) (a + 20) else ee lt l a n
def jP (bs : Nat) : Nat → List α → Nat → List α
  | 0, l, _ => l
  | f + 1, l, a => if a + 2 * bs ≤ n then jP bs f (dB lt n l a (a + bs) (a + 2 * bs)) (a + 2 * bs) else if a + bs < n then dB lt n l a (a + bs) n else l
def kT : Nat → List α → Nat → List α
  | 0, l, _ => l
  | f + 1, l, bs => if bs < n then kT f (jP lt n bs (n + 1) l 0) (2 * bs) else l
def cm (l : List α) : List α := kT lt l.length (l.length + 1) (jS lt l.length (l.length + 1) l 0) 20
def gq (l : List α) (bs lo hi : Nat) : Prop := ∀ i j, lo ≤ i → i < j → j < hi → i / bs = j / bs → lt (el l j) (el l i) = false
theorem uz {bs i j q : Nat} (hb : 0 < bs) (h : i / bs = j / bs) (hj : q * bs ≤ j) : q * bs ≤ i := by
  have h1 : q ≤ j / bs := (Nat.le_div_iff_mul_le hb).2 hj
  rw [← h] at h1
  exact (Nat.le_div_iff_mul_le hb).1 h1
theorem rb {bs i q : Nat} (h1 : q * bs ≤ i) (h2 : i < q * bs + bs) : i / bs = q :=
  Nat.div_eq_of_lt_le h1 (by rw [Nat.succ_mul]; exact h2)
theorem gq.sorted {l : List α} {bs lo hi q : Nat} (h : gq lt l bs lo hi) (h1 : lo ≤ q * bs) {b : Nat} (h2 : b ≤ q * bs + bs) (h3 : b ≤ hi) : bl lt l (q * bs) b := fun i j p1 p2 p3 =>
  h i j (by omega) p2 (by omega) (by rw [rb p1 (by omega), rb (show q * bs ≤ j by omega) (by omega)])
theorem gq.add {l : List α} {bs q b : Nat} (hb : 0 < bs) (h : gq lt l bs 0 (q * bs)) (hs : bl lt l (q * bs) b) : gq lt l bs 0 b := fun i j p1 p2 p3 p4 => by
  rcases Nat.lt_or_ge j (q * bs) with hj | hj
  · exact h i j p1 p2 hj p4
  · exact hs i j (uz hb p4 hj) p2 p3
theorem gq.out {l l' : List α} {bs lo hi a b : Nat} (h : gq lt l bs lo hi) (ht : bN l l' a b) (hd : hi ≤ a ∨ b ≤ lo) : gq lt l' bs lo hi := fun i j p1 p2 p3 p4 => by
  rw [ht.out i (by omega), ht.out j (by omega)]
  exact h i j p1 p2 p3 p4
variable (hw : mQ lt)
theorem lC : ∀ (f : Nat) (l : List α) (a : Nat), n ≤ l.length → a ≤ n → bN l (jS lt n f l a) 0 n
  | 0, l, _, _, _ => .refl _ _ _
  | f + 1, l, a, h1, h2 => by
    unfold jS
    split
    · have t := eA lt (l := l) (a := a) (b := a + 20) (by omega)
      exact (t.mono (by omega) (by omega)).trans (lC f _ _ (by rw [t.len]; omega) (by omega))
    · exact (eA lt (by omega)).mono (by omega) (Nat.le_refl _)
include hw in
theorem nP : ∀ (f : Nat) (l : List α) (q : Nat), n ≤ l.length → q * 20 ≤ n → n < q * 20 + f → gq lt l 20 0 (q * 20) → gq lt (jS lt n f l (q * 20)) 20 0 n
  | 0, l, q, _, _, hf, _ => by omega
  | f + 1, l, q, h1, h2, hf, h => by
    unfold jS
    split
    · have t := eA lt (l := l) (a := q * 20) (b := q * 20 + 20) (by omega)
      have := nP f (ee lt l (q * 20) (q * 20 + 20)) (q + 1) (by rw [t.len]; omega) (by omega) (by omega) (by
        rw [show (q + 1) * 20 = q * 20 + 20 by omega]
        exact gq.add lt (by omega) (h.out lt t (.inl (Nat.le_refl _))) (lb lt hw (by omega)))
      rwa [show (q + 1) * 20 = q * 20 + 20 by omega] at this
    · have t := eA lt (l := l) (a := q * 20) (b := n) (by omega)
      exact gq.add lt (by omega) (h.out lt t (.inl (Nat.le_refl _))) (lb lt hw (by omega))
theorem lL {bs : Nat} (hb : 0 < bs) : ∀ (f : Nat) (l : List α) (a : Nat), n ≤ l.length → a ≤ n → bN l (jP lt n bs f l a) 0 n
  | 0, l, _, _, _ => .refl _ _ _
  | f + 1, l, a, h1, h2 => by
    unfold jP
    split
    · have t := dm lt n l a (a + bs) (a + 2 * bs) (by omega) (by omega) (by omega)
      exact (t.mono (by omega) (by omega)).trans (lL hb f _ _ (by rw [t.len]; omega) (by omega))
    · split
      · exact (dm lt n l a (a + bs) n (by omega) (by omega) (by omega)).mono (by omega) (Nat.le_refl _)
      · exact .refl _ _ _
include hw in
theorem nK {bs : Nat} (hb : 0 < bs) : ∀ (f : Nat) (l : List α) (q : Nat), n ≤ l.length → q * (2 * bs) ≤ n → n < q * (2 * bs) + f → gq lt l (2 * bs) 0 (q * (2 * bs)) → gq lt l bs (q * (2 * bs)) n → gq lt (jP lt n bs f l (q * (2 * bs))) (2 * bs) 0 n
  | 0, l, q, _, _, hf, _, _ => by omega
  | f + 1, l, q, h1, h2, hf, h, g => by
    have e2 : q * (2 * bs) = (2 * q) * bs := by rw [Nat.mul_comm 2 q, Nat.mul_assoc]
    have e3 : q * (2 * bs) + bs = (2 * q + 1) * bs := by rw [e2, Nat.add_mul (2 * q) 1 bs, Nat.one_mul]
    have g1 : ∀ b, b ≤ q * (2 * bs) + bs → b ≤ n → bl lt l (q * (2 * bs)) b := fun b p1 p2 => by
      have := gq.sorted lt (q := 2 * q) g (by omega) (b := b) (by omega) p2
      rwa [← e2] at this
    have g2 : ∀ b, b ≤ q * (2 * bs) + 2 * bs → b ≤ n → bl lt l (q * (2 * bs) + bs) b := fun b p1 p2 => by
      have := gq.sorted lt (q := 2 * q + 1) g (by omega) (b := b) (by omega) p2
      rwa [← e3] at this
    unfold jP
    split
    · have t := dm lt n l (q * (2 * bs)) (q * (2 * bs) + bs) (q * (2 * bs) + 2 * bs) (by omega) (by omega) (by omega)
      have s := iY lt hw n l (q * (2 * bs)) (q * (2 * bs) + bs) (q * (2 * bs) + 2 * bs) (by omega) (by omega) (by omega) (by omega) (g1 _ (Nat.le_refl _) (by omega)) (g2 _ (Nat.le_refl _) (by omega))
      have e4 : (q + 1) * (2 * bs) = q * (2 * bs) + 2 * bs := by rw [Nat.succ_mul]
      have := nK hb f (dB lt n l (q * (2 * bs)) (q * (2 * bs) + bs) (q * (2 * bs) + 2 * bs)) (q + 1) (by rw [t.len]; omega) (by omega) (by omega) (by
        rw [e4]
        exact gq.add lt (by omega) (h.out lt t (.inl (Nat.le_refl _))) s) (by
        rw [e4]
        exact gq.out lt (fun i j p1 p2 p3 p4 => g i j (by omega) p2 p3 p4) t (.inr (Nat.le_refl _)))
      rwa [e4] at this
    · split
      · have t := dm lt n l (q * (2 * bs)) (q * (2 * bs) + bs) n (by omega) (by omega) (by omega)
        exact gq.add lt (by omega) (h.out lt t (.inl (Nat.le_refl _))) (iY lt hw n l _ _ n (by omega) (by omega) (by omega) (by omega) (g1 _ (Nat.le_refl _) (by omega)) (g2 _ (by omega) (Nat.le_refl _)))
      · exact gq.add lt (by omega) h (g1 n (by omega) (Nat.le_refl _))
theorem oO : ∀ (f : Nat) (l : List α) (bs : Nat), 0 < bs → n ≤ l.length → bN l (kT lt n f l bs) 0 n
  | 0, l, _, _, _ => .refl _ _ _
  | f + 1, l, bs, hb, h1 => by
    unfold kT
    split
    · have t := lL lt n hb (n + 1) l 0 h1 (by omega)
      exact t.trans (oO f _ _ (by omega) (by rw [t.len]; omega))
    · exact .refl _ _ _
include hw in
theorem nH : ∀ (f : Nat) (l : List α) (bs : Nat), 0 < bs → n ≤ l.length → n < bs + f → gq lt l bs 0 n → bl lt (kT lt n f l bs) 0 n
  | 0, l, bs, hb, _, hf, h => fun i j p1 p2 p3 => by
    show lt (el l j) (el l i) = false
    exact h i j p1 p2 p3 (by rw [Nat.div_eq_of_lt (by omega), Nat.div_eq_of_lt (by omega)])
  | f + 1, l, bs, hb, h1, hf, h => by
    unfold kT
    split
    · have t := lL lt n hb (n + 1) l 0 h1 (by omega)
      have s := nK lt n hw hb (n + 1) l 0 h1 (by omega) (by omega) (fun i j p1 p2 p3 => by omega) (by rw [Nat.zero_mul]; exact h)
      rw [Nat.zero_mul] at s
      exact nH f _ (2 * bs) (by omega) (by rw [t.len]; omega) (by omega) s
    · intro i j p1 p2 p3
      exact h i j p1 p2 p3 (by rw [Nat.div_eq_of_lt (by omega), Nat.div_eq_of_lt (by omega)])
theorem du (l : List α) : bN l (cm lt l) 0 l.length := by
  have t := lC lt l.length (l.length + 1) l 0 (Nat.le_refl _) (Nat.zero_le _)
  exact t.trans (oO lt l.length _ _ 20 (by omega) (by rw [t.len]; exact Nat.le_refl _))
include hw in
theorem qf (l : List α) : bl lt (cm lt l) 0 l.length := by
  have t := lC lt l.length (l.length + 1) l 0 (Nat.le_refl _) (Nat.zero_le _)
  have b := nP lt l.length hw (l.length + 1) l 0 (Nat.le_refl _) (by omega) (by omega) (fun i j p1 p2 p3 => by omega)
  rw [Nat.zero_mul] at b
  exact nH lt l.length hw _ _ 20 (by omega) (by rw [t.len]; exact Nat.le_refl _) (by omega) b
end
end Go.Tb
namespace Go.Ab
open Go.RowKit
section
variable {P : Program} (T : cd P) {C : Ctx} {n : Nat} {ops : Array Oper}
variable {f : List (Nat × A)} {bx : List (Nat × List A)} {lv : List Nat} {gen : Nat} {ty : TypeId} {pos : String} {af : Array Edge} {dst : Option Nat}
theorem yf {t e m : Nat} {x y : Operand} {td ed : bW} {k1 k2 : IntKind} (hx : av f x = some (.d (.v (.int k1 (m : Int))))) (hy : av f y = some (.d (.v (.int k2 (m : Int))))) (ht : ax T.l t = some td) (hk : td.k = .slice e) (he : ax T.l e = some ed)
    (hz : Nat.blt 0 ed.n = true) (hb : (ed.b : Int) * (m : Int) ≤ 281474976710656) (hm : m ≤ maxLen) : Pu P C n ⟨f, bx, lv, gen⟩ ⟨dst, .makeSlice t x y, ty, pos, af, none⟩ (.d (.sl (List.replicate m (ed.z.map D.v)))) := by
  have hz := Nat.le_of_ble_eq_true hz
  intro G tmps w hs
  have hu := T.dL ht hk
  obtain ⟨i, z, hi, hin, hib, hiz, hzc, hzl, hzk, _⟩ := T.info he
  have hzs : z.cells.size = ed.n := by rw [← hzl, ← hzc]; simp
  have hrx := hs.av hx
  have hry := hs.av hy
  generalize hvx : Act.eval ⟨tmps, []⟩ x = vx at hrx
  generalize hvy : Act.eval ⟨tmps, []⟩ y = vy at hry
  cases hrx with | d hrx => cases hrx with | v _ _ =>
  cases hry with | d hry => cases hry with | v _ _ =>
  have hrun := run_make (P := P) w t e i z hu hi hiz k1 k2 (m : Int) (m : Int) (Int.natCast_nonneg _) (Int.le_refl _) (by rw [hib]; exact hb) (by simp only [maxLen] at hm; omega)
  simp only [Int.toNat_natCast] at hrun
  have hbl : Below w.heap.size w (w.alloc (.cells (madeCells z.cells (m * i.size)) e)) := (Below.refl _ w).alloc (Nat.le_refl _) _
  obtain ⟨hle, hs'⟩ := hs.iq hbl
  refine cI (v := .slice (some ⟨w.heap.size, 0, none⟩) m m) (w' := w.alloc (.cells (madeCells z.cells (m * i.size)) e)) ?_ ⟨hbl, .d ?_⟩
  · unfold execOp
    show Sem.run P _ w = .ok _ _
    simp only [hvx, hvy, Sem.run_bind, hrun, Result.andThen_ok, Sem.run_pure]
  · rcases Nat.eq_zero_or_pos m with h0 | hpos
    · subst h0
      exact .emp _ 0 (by simp)
    · have := bm.ofRow (w := w.alloc (.cells (madeCells z.cells (m * i.size)) e)) (pv := bC C G) (b := w.heap.size) (cap := m) (sz := ed.n) (es := List.replicate m (ed.z.map D.v)) (heap_alloc_new w _) (by simp) hm
        (fun x hx => by rw [List.eq_of_mem_replicate hx, List.length_map, hzl]) (fun t _ hp => by have := oV hs hp; omega) (fun k j e' d hk hj => by
          have hkm : k < m := by have := (List.getElem?_eq_some_iff.1 hk).1; simpa using this
          have he' := List.eq_of_mem_replicate (List.mem_of_getElem? hk)
          subst he'
          rw [List.getElem?_map, Option.map_eq_some_iff] at hj
          obtain ⟨u, hu, rfl⟩ := hj
          have hjn : j < ed.n := by rw [← hzl]; exact (List.getElem?_eq_some_iff.1 hu).1
          refine ⟨u, ?_, .v _ (List.all_eq_true.1 hzk u (List.mem_of_getElem? hu))⟩
          unfold madeCells
          rw [Array.getElem?_map, Array.getElem?_range, if_pos (by rw [hin]; exact oY hkm hjn), Option.map_some]
          have e1 : (k * ed.n + j) % z.cells.size = j := by rw [hzs, Nat.mul_comm, Nat.mul_add_mod, Nat.mod_eq_of_lt hjn]
          rw [e1, getElem!_pos z.cells j (by rw [hzs]; exact hjn)]
          rw [← hzc] at hu
          congr 1
          simpa using (List.getElem?_eq_some_iff.1 hu).2)
      rw [List.length_replicate] at this
      exact this
end
end Go.Ab
namespace Go.Ab
theorem mA : ∀ (l m : List A), dQ (l ++ m) = (dQ l && dQ m)
  | [], m => by simp [dQ]
  | a :: l, m => by simp [dQ, mA l m, Bool.and_assoc]
theorem rM : ∀ l : List D, dQ (l.map A.d) = true
  | [] => rfl
  | d :: l => by simp [dQ, fC, rM l]
theorem o0 : ∀ k : Nat, dQ (List.replicate k A.any) = true
  | 0 => rfl
  | k + 1 => by simp [List.replicate_succ, dQ, fC, o0 k]
theorem ba (o : List Nat) (es : List (List D)) (k : Nat) : eQ o (a7 es k) = a7 es k :=
  e9 o _ (by unfold a7; rw [mA, rM, o0]; rfl)
theorem tH (gs : List Nat) (m : Nat) (es : List (List D)) (k : Nat) : jd gs m (a7 es k) = a7 es k := by
  rw [eZ]
  unfold a7
  rw [List.map_append, List.map_map, List.map_replicate]
  rfl
theorem vr (bx : List (Nat × List A)) (gs os : List Nat) (n : Nat) (es : List (List D)) (k : Nat) : (a7 es k).map (dJ bx gs os (n + 1)) = a7 es k := by
  unfold a7
  rw [List.map_append, List.map_map, List.map_replicate]
  rfl
theorem iH {order : List Nat} {bx : List (Nat × List A)} {es : List (List D)} {k : Nat} (h : ax bx 0 = some (a7 es k)) : qg order bx 0 [a7 es k] := by
  refine ⟨?_, trivial⟩
  rw [h]
  show some (eQ order (a7 es k)) = _
  rw [ba]
section
variable {P : Program} {C : Ctx} {n : Nat} {ops : Array Oper} {Q : Exit → St → Prop} {rest : List Oper}
variable {f : List (Nat × A)} {bx : List (Nat × List A)} {lv : List Nat} {gen : Nat} {d : Nat} {ty : TypeId} {pos : String} {af : Array Edge}
theorem gM [eK P] [GC P C] {x : Operand} {xs : Array Operand} {tys : Array TypeId} {fid : FuncId} {caps as' args : List A} {es es' : List (List D)} {k : Nat} (g : Nat) (hx : av f x = some (.clo fid caps)) (hxs : iJ f xs.toList = some as')
    (harg : (as' ++ caps).map (dJ bx [g] [] 5) = args) (hb : ax bx g = some (a7 es k)) (hf : cU P fid args [a7 es k] 0 (.tup []) [a7 es' k] 0) (hd : Nat.blt d n = true)
    (h : WO P C n ops Q rest ⟨(d, .tup []) :: f, (g, a7 es' k) :: bx, lv, gen + 1⟩) :
    WO P C n ops Q (⟨some d, .call ⟨.value x, xs, tys⟩, ty, pos, af, none⟩ :: rest) ⟨f, bx, lv, gen⟩ := by
  refine jG [g] [] hx hxs harg (b0 := [a7 es k]) (by simp only [iy, hb]; rw [vr]) rfl hf rfl rfl rfl hd rfl (bx' := (g, a7 es' k) :: bx) (by simp only [ij]; rw [tH]; rfl) (lv' := lv) (by simp) (gen' := gen + 1) (by show 1 + 0 + gen = gen + 1; omega) h
end
end Go.Ab
namespace Go.Tb
open Go.Ab
structure sX where
  left : List Nat
  right : List Nat
  m : Nat
  t : Nat
  more : List Nat
def lD (o : sX) (x y : List aD) : Bool := decide ((bb x o.m).kind = 0) || (decide ((bb y o.t).kind = 0) || (decide ((bb x o.m).n < (bb y o.t).n) || !jj (bA x o.left) (bA y o.right)))
def fJ (bs : List (List aD)) (i : Nat) : List aD := bs.getD i []
def kx (o : sX) (bs : List (List aD)) (x : List aD) : List (List aD) → Nat → Option Nat → Option Nat
  | [], _, b => b
  | y :: r, k, b => if lD o x y = true then kx o bs x r (k + 1) b else
      if idx b < 0 ∨ (bb (fJ bs (idx b).toNat) o.t).n ≤ (bb y o.t).n then kx o bs x r (k + 1) (some k) else kx o bs x r (k + 1) b
def vt (o : sX) (bs : List (List aD)) (b : Option Nat) : List aD := match b with
  | none => List.replicate o.more.length fg
  | some i => bA (fJ bs i) o.more
def jy (o : sX) (bs : List (List aD)) (x : List aD) : List aD := x ++ vt o bs (kx o bs x bs 0 none)
def xw (a b : bj) (on : List ByteArray) : sX := ⟨on.map (bq a.ab), on.map (bq b.ab), bq a.ab aJ, bq b.ab aJ, dN (on ++ [aJ]) b.ab 0⟩
def fU (a b : bj) (on : List ByteArray) : bj × Int :=
  if (fw 8 on a b).2 ≠ 0 then (ff, (fw 8 on a b).2) else (⟨(fw 8 on a b).1, a.rows.map (jy (xw a b on) b.rows)⟩, 0)
structure yL (o : sX) (n m : Nat) : Prop where
  left : ∀ i ∈ o.left, i < n
  right : ∀ i ∈ o.right, i < m
  mm : o.m < n
  tt : o.t < m
  more : ∀ i ∈ o.more, i < m
theorem yA {a b : bj} {on : List ByteArray} (h : vJ a b on (aZ 8)) : yL (xw a b on) a.ab.length b.ab.length := by
  have e : aZ 8 = [aJ] := rfl
  rw [e] at h
  refine ⟨fun i hi => ?_, fun i hi => ?_, ?_, ?_, fun i hi => ?_⟩
  · obtain ⟨s, hs, rfl⟩ := List.mem_map.1 hi
    obtain ⟨i, j, c, d, h1, h2, h3, h4, _⟩ := h.ons s hs
    rw [bY h1]; exact (List.getElem?_eq_some_iff.1 h3).1
  · obtain ⟨s, hs, rfl⟩ := List.mem_map.1 hi
    obtain ⟨i, j, c, d, h1, h2, h3, h4, _⟩ := h.ons s hs
    rw [bY h2]; exact (List.getElem?_eq_some_iff.1 h4).1
  · obtain ⟨i, c, h1, h2, _⟩ := h.spa aJ (by simp)
    show bq a.ab aJ < _
    rw [bY h1]; exact (List.getElem?_eq_some_iff.1 h2).1
  · obtain ⟨i, c, h1, h2, _⟩ := h.spb aJ (by simp)
    show bq b.ab aJ < _
    rw [bY h1]; exact (List.getElem?_eq_some_iff.1 h2).1
  · have := lP _ b.ab 0 i hi
    omega
theorem rT {bs : List (List aD)} {i : Nat} (h : i < bs.length) : bs[i]? = some (fJ bs i) := by
  unfold fJ
  rw [List.getD_eq_getElem?_getD, List.getElem?_eq_getElem h]; rfl
end Go.Tb
namespace Go.Ab
section
variable {P : Program} {C : Ctx} {n : Nat} {Q : Exit → St → Prop}
variable {f : List (Nat × A)} {bx : List (Nat × List A)} {lv : List Nat} {gen : Nat} {c : Code}
theorem ux (s : Nat) {g : Nat} {es : List (List D)} (hl : look f s = some (.own g es)) (hsn : Nat.blt s n = true) (h : W P C n c Q ⟨(s, .d (.sl es)) :: f, bx, lv, gen⟩) : W P C n c Q ⟨f, bx, lv, gen⟩ := by
  intro tmps w ⟨G, hs⟩
  obtain ⟨v, hv, hr⟩ := hs.frame s _ hl
  cases hr with
  | own _ _ _ hd _ _ =>
  refine h tmps w ⟨G, ?_⟩
  have := hs.set (d := s) (Nat.le_of_ble_eq_true hsn) (.d hd)
  rwa [gP hv] at this
end
end Go.Ab
namespace Go.Tb
open Go.Ab
structure yN (left : List Nat) (m0 m1 n : Nat) : Prop where
  left : ∀ i ∈ left, i < n
  m0 : m0 < n
  m1 : m1 < n
theorem xl {a : bj} {on : List ByteArray} (h : wi a on) : yN (on.map (bq a.ab)) (bq a.ab aJ) (bq a.ab br) a.ab.length := by
  refine ⟨fun i hi => ?_, ?_, ?_⟩
  · obtain ⟨s, hs, rfl⟩ := List.mem_map.1 hi
    obtain ⟨i, c, h1, h2⟩ := h.ons s hs
    rw [bY h1]; exact (List.getElem?_eq_some_iff.1 h2).1
  · obtain ⟨i, c, h1, h2, _⟩ := h.fr
    rw [bY h1]; exact (List.getElem?_eq_some_iff.1 h2).1
  · obtain ⟨i, c, h1, h2, _⟩ := h.to
    rw [bY h1]; exact (List.getElem?_eq_some_iff.1 h2).1
end Go.Tb
namespace Go.Ab
section
variable {P : Program} {C : Ctx} {n : Nat} {ops : Array Oper} {Q : Exit → St → Prop} {rest : List Oper}
variable {f : List (Nat × A)} {bx : List (Nat × List A)} {lv : List Nat} {gen : Nat}
end
end Go.Ab
namespace Go.Tb
open Go.Ab
deriving instance DecidableEq for bj
def cQ (n : Int) : aD := ⟨2, n, B #[]⟩
def nu (s : ByteArray) : aD := ⟨3, 0, s⟩
def fk (s : ByteArray) : Col := ⟨s, if s = B #[107] then 3 else 2⟩
def jT : List (List aD) → Int → Int
  | [], n => n
  | r :: l, n => if n ≤ 600 then jT l (IntKind.i64.wrap (IntKind.i64.wrap (n + 1) + (r.length : Int))) else n
def jX (t : bj) : Bool := decide (jT t.rows (t.ab.length : Int) ≤ 600) && decide ((t.ab.length : Int) ≤ 40)
def pk (a b : bj) (on : List ByteArray) : Bool := jX a && (jX b && decide ((on.length : Int) ≤ 40))
theorem vO {a b : bj} {on : List ByteArray} (h : pk a b on = true) : on.length ≤ 40 ∧ a.ab.length ≤ 40 ∧ b.ab.length ≤ 40 := by
  simp only [pk, jX, Bool.and_eq_true, decide_eq_true_eq] at h
  omega
end Go.Tb
namespace Go.Tb
open Go.Ab
end Go.Tb
namespace Go.Tb
open Go.Ab
end Go.Tb
namespace Go.Tb
open Go.Ab
end Go.Tb
namespace Go.Tb
open Go.Ab
theorem sY : ∀ (l r : List Col) (k : Nat), l.drop k = r → (gh l k r = false ↔ ∀ i j x y, k ≤ j → i < j → l[i]? = some x → l[j]? = some y → x.name ≠ y.name)
  | l, [], k, h => by
    simp only [gh, true_iff]
    intro i j x y hj _ _ hy
    have hlt := (List.getElem?_eq_some_iff.1 hy).1
    have := List.drop_eq_nil_iff.1 h
    omega
  | l, c :: r, k, h => by
    have hk : l[k]? = some c := by
      have : (l.drop k)[0]? = some c := by rw [h]; rfl
      simpa using this
    have hr : l.drop (k + 1) = r := by
      have : (l.drop k).drop 1 = r := by rw [h]; rfl
      rw [List.drop_drop] at this
      exact this
    have ih := sY l r (k + 1) hr
    simp only [gh, Bool.or_eq_false_iff, ih]
    constructor
    · rintro ⟨h1, h2⟩ i j x y hj hij hx hy
      rcases Nat.lt_or_ge k j with hlt | hge
      · exact h2 i j x y hlt hij hx hy
      · have : j = k := by omega
        subst this
        rw [hk] at hy
        simp only [Option.some.injEq] at hy
        subst hy
        intro he
        have hmem : x ∈ l.take j := by
          rw [List.mem_iff_getElem?]
          exact ⟨i, by rw [List.getElem?_take, if_pos hij]; exact hx⟩
        have := List.any_eq_false.1 h1 x hmem
        simp [he] at this
    · intro h1
      refine ⟨?_, fun i j x y hj => h1 i j x y (by omega)⟩
      rw [List.any_eq_false]
      intro x hx
      obtain ⟨i, hi⟩ := List.mem_iff_getElem?.1 hx
      rw [List.getElem?_take] at hi
      split at hi
      · rename_i hlt
        have := h1 i k x c (Nat.le_refl _) hlt hi hk
        simpa using this
      · cases hi
theorem qx {l : List Col} : gh l 0 l = false ↔ (l.map Col.name).Nodup := by
  rw [sY l l 0 rfl]
  constructor
  · intro h
    refine List.pairwise_iff_getElem.2 fun i j hi hj hij => ?_
    simp only [List.getElem_map]
    have hi' : i < l.length := by simpa using hi
    have hj' : j < l.length := by simpa using hj
    exact h i j _ _ (Nat.zero_le _) hij (by simp [hi']) (by simp [hj'])
  · intro h i j x y _ hij hx hy
    obtain ⟨hi, rfl⟩ := List.getElem?_eq_some_iff.1 hx
    obtain ⟨hj, rfl⟩ := List.getElem?_eq_some_iff.1 hy
    have := List.pairwise_iff_getElem.1 h i j (by simpa using hi) (by simpa using hj) hij
    simpa using this
def pt (c : Col) : Prop := ec c.name = 0 ∧ (c.type = 1 ∨ c.type = 2 ∨ c.type = 3)
theorem kK (all : List Col) : ∀ (l : List Col) (k : Nat), ez all k l = 0 ↔ (∀ c ∈ l, pt c) ∧ gh all k l = false
  | [], k => by simp [ez, gh]
  | c :: r, k => by
    have ih := kK all r (k + 1)
    simp only [ez, gh, List.mem_cons, Bool.or_eq_false_iff]
    have hb : eS all k c = 0 ↔ pt c ∧ (all.take k).any (fun x => decide (x.name = c.name)) = false := by
      unfold eS pt
      by_cases h1 : ec c.name = 0
      · rw [if_neg (by simp [h1])]
        by_cases h2 : (all.take k).any (fun x => decide (x.name = c.name)) = true
        · rw [if_pos h2]; simp [h2]
        · rw [if_neg h2]
          by_cases h3 : c.type ≠ 1 ∧ c.type ≠ 2 ∧ c.type ≠ 3
          · rw [if_pos h3]
            constructor
            · intro h; cases h
            · rintro ⟨⟨_, h⟩, _⟩; omega
          · rw [if_neg h3]
            exact ⟨fun _ => ⟨⟨h1, by omega⟩, by simpa using h2⟩, fun _ => rfl⟩
      · rw [if_pos h1]
        exact ⟨fun h => absurd h h1, fun h => absurd h.1.1 h1⟩
    by_cases h : eS all k c = 0
    · rw [if_neg (by simp [h])]
      have := hb.1 h
      rw [ih]
      exact ⟨fun q => ⟨fun x hx => by rcases hx with rfl | hx; exact this.1; exact q.1 x hx, this.2, q.2⟩, fun q => ⟨fun x hx => q.1 x (.inr hx), q.2.2⟩⟩
    · rw [if_pos h]
      exact ⟨fun q => absurd q h, fun q => absurd (hb.2 ⟨q.1 c (.inl rfl), q.2.1⟩) h⟩
theorem r7 {t : bj} (h : bu t = 0) : (∀ c ∈ t.ab, pt c) ∧ (t.ab.map Col.name).Nodup := by
  unfold bu at h
  split at h
  · cases h
  · split at h
    · rename_i h2; exact absurd h h2
    · rename_i h2
      have := (kK t.ab t.ab 0).1 (by simpa using h2)
      exact ⟨this.1, qx.1 this.2⟩
theorem nB : ∀ {ab : List Col} {r : List aD}, (∀ (i : Nat) (c : Col) (v : aD), ab[i]? = some c → r[i]? = some v → bU c.type v = 0) → dq ab r = 0
  | [], _, _ => rfl
  | _ :: _, [], _ => rfl
  | c :: ab, v :: r, h => by
    simp only [dq]
    rw [if_neg (by simp [h 0 c v rfl rfl])]
    exact nB fun i d w hd hw => h (i + 1) d w (by simpa using hd) (by simpa using hw)
theorem oZ {ab : List Col} : ∀ {rows : List (List aD)}, (∀ x ∈ rows, x.length = ab.length ∧ dq ab x = 0) → eP ab rows = 0
  | [], _ => rfl
  | x :: r, h => by
    simp only [eP]
    have := h x (List.mem_cons_self ..)
    rw [if_neg (by simp [this.1]), if_neg (by simp [this.2])]
    exact oZ fun y hy => h y (List.mem_cons_of_mem _ hy)
theorem xv {ab : List Col} {rows : List (List aD)} (hl : ab.length ≤ 32) (hr : rows.length ≤ 20000) (hc : ∀ c ∈ ab, pt c) (hn : (ab.map Col.name).Nodup) (hx : ∀ x ∈ rows, x.length = ab.length ∧ dq ab x = 0) : bu ⟨ab, rows⟩ = 0 := by
  unfold bu
  have h1 := (kK ab ab 0).2 ⟨hc, qx.2 hn⟩
  rw [if_neg (by dsimp only; omega), if_neg (by simp [h1])]
  exact oZ hx
theorem oP {ab more : List Col} {x y : List aD} (hl : x.length = ab.length) (h1 : ∀ (i : Nat) (c : Col) (v : aD), ab[i]? = some c → x[i]? = some v → bU c.type v = 0) (h2 : ∀ (i : Nat) (c : Col) (v : aD), more[i]? = some c → y[i]? = some v → bU c.type v = 0) :
    dq (ab ++ more) (x ++ y) = 0 :=
  nB fun i c v hc hv => by
    by_cases q : i < ab.length
    · rw [List.getElem?_append_left q] at hc
      rw [List.getElem?_append_left (by omega)] at hv
      exact h1 i c v hc hv
    · rw [List.getElem?_append_right (by omega)] at hc
      rw [List.getElem?_append_right (by omega), hl] at hv
      exact h2 _ c v hc hv
structure xy (op : Int) (a b : bj) (on : List ByteArray) : Prop where
  ga : bu a = 0
  gb : bu b = 0
  st : b9 (cN op on wB) = 0
  no : (aZ op).any (fun n => on.any fun x => decide (n = x)) = false
  on_ : eO a.ab b.ab on = 0
  sa : dd a.ab (aZ op) = 0
  sb : dd b.ab (aZ op) = 0
  nd : ((a.ab ++ eT on (aZ op) b.ab).map Col.name).Nodup
  len : (a.ab ++ eT on (aZ op) b.ab).length ≤ 32
end Go.Tb
namespace Go.Tb
open Go.Ab
/-! pairs of rows that meet -/
def meets (o : pw) (x y : List aD) : Bool := c7 x o.m0 o.m1 && ky o x y
/-! sums over pairs -/
/-! exchanged -/
theorem xy.has {op : Int} {a b : bj} {on : List ByteArray} (h : xy op a b on) : (∀ s ∈ on ++ aZ op, ∃ c ∈ a.ab, c.name = s) ∧ ∀ s ∈ on ++ aZ op, ∃ c ∈ b.ab, c.name = s := by
  have hin : ∀ {ab : List Col} {s : ByteArray} {i : Nat}, cP ab s = some i → ∃ c ∈ ab, c.name = s := fun {ab s i} hi => by
    unfold cP at hi
    rw [List.findIdx?_eq_some_iff_getElem] at hi
    obtain ⟨hlt, hp, _⟩ := hi
    exact ⟨_, List.getElem_mem hlt, by simpa using hp⟩
  have ho := lQ h.on_
  have h1 := fP h.sa
  have h2 := fP h.sb
  refine ⟨fun s hs => ?_, fun s hs => ?_⟩
  · rcases List.mem_append.1 hs with hs | hs
    · obtain ⟨i, j, c, d, p1, _⟩ := ho s hs; exact hin p1
    · obtain ⟨i, c, p1, _⟩ := h1 s hs; exact hin p1
  · rcases List.mem_append.1 hs with hs | hs
    · obtain ⟨i, j, c, d, _, p1, _⟩ := ho s hs; exact hin p1
    · obtain ⟨i, c, p1, _⟩ := h2 s hs; exact hin p1
/-! the result -/
theorem sM {v : aD} (hv : bU 2 v = 0) (hk : v.kind = 2) : l6 v.n = true := by
  rcases tg.1 hv with rfl | ⟨h, _⟩ | ⟨_, n, hn, rfl⟩ | ⟨h, _⟩
  · cases hk
  · exact absurd h (by decide)
  · exact hn
  · exact absurd h (by decide)
end Go.Tb
namespace Go.Tb
open Go.Ab
/-! orders -/
structure jt {α : Type} (c : α → α → Int) : Prop where
  anti : ∀ a b, c b a = - c a b
  tr : ∀ a b d, c a b ≤ 0 → c b d ≤ 0 → c a d ≤ 0
theorem jt.self {α : Type} {c : α → α → Int} (h : jt c) (a : α) : c a a = 0 := by have := h.anti a a; omega
theorem jt.left {α : Type} {c : α → α → Int} (h : jt c) {a b d : α} (h1 : c a b < 0) (h2 : c b d ≤ 0) : c a d < 0 := by
  have h3 := h.tr a b d (by omega) h2
  rcases Int.lt_or_eq_of_le h3 with h4 | h4
  · exact h4
  · have h5 := h.tr b d a h2 (by rw [h.anti]; omega)
    have := h.anti a b; omega
theorem jt.right {α : Type} {c : α → α → Int} (h : jt c) {a b d : α} (h1 : c a b ≤ 0) (h2 : c b d < 0) : c a d < 0 := by
  have h3 := h.tr a b d h1 (by omega)
  rcases Int.lt_or_eq_of_le h3 with h4 | h4
  · exact h4
  · have h5 := h.tr d a b (by rw [h.anti]; omega) h1
    have := h.anti b d; omega
theorem jt.lex {α : Type} {c d : α → α → Int} (h : jt c) (g : jt d) : jt (fun a b => if c a b ≠ 0 then c a b else d a b) where
  anti a b := by
    have h1 := h.anti a b
    have h2 := g.anti a b
    by_cases q : c a b = 0
    · rw [if_neg (by omega), if_neg (by omega)]; exact h2
    · rw [if_pos (by omega), if_pos q]; exact h1
  tr a b e := by
    intro p q
    have le1 : c a b ≤ 0 := by split at p <;> omega
    have le2 : c b e ≤ 0 := by split at q <;> omega
    have le3 := h.tr a b e le1 le2
    by_cases z : c a e = 0
    · rw [if_neg (by omega)]
      have z1 : c a b = 0 := by
        rcases Int.lt_or_eq_of_le le1 with h4 | h4
        · have := h.left h4 le2; omega
        · exact h4
      have z2 : c b e = 0 := by
        rcases Int.lt_or_eq_of_le le2 with h4 | h4
        · have := h.right le1 h4; omega
        · exact h4
      rw [if_neg (by omega)] at p
      rw [if_neg (by omega)] at q
      exact g.tr a b e p q
    · rw [if_pos z]; exact le3
theorem ia : jt cG where
  anti a b := by unfold cG; split <;> split <;> (try split) <;> omega
  tr a b d := by unfold cG; split <;> split <;> (try split) <;> (try split) <;> (try split) <;> omega
theorem iE : ∀ a b : List UInt8, Op.bytesLess a b = true → Op.bytesLess b a = false
  | [], [], _ => rfl
  | [], _ :: _, _ => rfl
  | _ :: _, [], h => by cases h
  | x :: a, y :: b, h => by
    simp only [Op.bytesLess, Bool.or_eq_true, Bool.and_eq_true, decide_eq_true_eq, beq_iff_eq] at h
    simp only [Op.bytesLess, Bool.or_eq_false_iff, Bool.and_eq_false_imp, decide_eq_false_iff_not, beq_iff_eq]
    rcases h with h | ⟨rfl, h⟩
    · exact ⟨by intro q; exact absurd (UInt8.lt_trans h q) (UInt8.lt_irrefl _), by rintro rfl; exact absurd h (UInt8.lt_irrefl _)⟩
    · exact ⟨UInt8.lt_irrefl _, fun _ => iE a b h⟩
theorem kn : ∀ a b : List UInt8, a ≠ b → Op.bytesLess a b = false → Op.bytesLess b a = true
  | [], [], h, _ => absurd rfl h
  | [], _ :: _, _, h => by cases h
  | _ :: _, [], _, _ => rfl
  | x :: a, y :: b, h, hf => by
    simp only [Op.bytesLess, Bool.or_eq_false_iff, Bool.and_eq_false_imp, decide_eq_false_iff_not, beq_iff_eq] at hf
    simp only [Op.bytesLess, Bool.or_eq_true, Bool.and_eq_true, decide_eq_true_eq, beq_iff_eq]
    by_cases q : x = y
    · subst q
      exact .inr ⟨rfl, kn a b (fun e => h (by rw [e])) (hf.2 rfl)⟩
    · left
      rcases UInt8.lt_or_lt_of_ne q with h1 | h1
      · exact absurd h1 hf.1
      · exact h1
theorem kz : ∀ a b d : List UInt8, Op.bytesLess a b = true → Op.bytesLess b d = true → Op.bytesLess a d = true
  | [], [], _, h, _ => by cases h
  | [], _ :: _, [], _, h => by cases h
  | [], _ :: _, _ :: _, _, _ => rfl
  | _ :: _, [], _, h, _ => by cases h
  | _ :: _, _ :: _, [], _, h => by cases h
  | x :: a, y :: b, z :: d, h, g => by
    simp only [Op.bytesLess, Bool.or_eq_true, Bool.and_eq_true, decide_eq_true_eq, beq_iff_eq] at h g ⊢
    rcases h with h | ⟨rfl, h⟩
    · rcases g with g | ⟨rfl, g⟩
      · exact .inl (UInt8.lt_trans h g)
      · exact .inl h
    · rcases g with g | ⟨rfl, g⟩
      · exact .inl g
      · exact .inr ⟨rfl, kz a b d h g⟩
theorem u9 {a b : ByteArray} (h : a ≠ b) : a.toList ≠ b.toList := fun e => h (by
  rw [ByteArray.toList_eq, ByteArray.toList_eq] at e
  exact ByteArray.ext (Array.ext' e))
theorem sw : jt eU where
  anti a b := by
    unfold eU
    by_cases q : a = b
    · subst q
      have : Op.bytesLess a.toList a.toList = false := by
        cases h : Op.bytesLess a.toList a.toList with
        | false => rfl
        | true => have := iE _ _ h; rw [h] at this; cases this
      rw [this]; simp
    · cases h : Op.bytesLess a.toList b.toList with
      | true => rw [iE _ _ h]; simp [Ne.symm q]
      | false => rw [kn _ _ (u9 q) h]; simp [q]
  tr a b d := by
    intro p q
    unfold eU at p q ⊢
    cases h1 : Op.bytesLess a.toList b.toList with
    | true =>
      cases h2 : Op.bytesLess b.toList d.toList with
      | true => rw [kz _ _ _ h1 h2]; simp
      | false =>
        rw [h2] at q
        by_cases e : b = d
        · subst e; rw [h1]; simp
        · simp [e] at q
    | false =>
      rw [h1] at p
      by_cases e : a = b
      · subst e; exact q
      · simp [e] at p
theorem ng : jt cR where
  anti a b := by
    unfold cR
    by_cases q : a.kind = b.kind
    · rw [if_neg (fun e : b.kind ≠ a.kind => e q.symm), if_neg (fun e : a.kind ≠ b.kind => e q), q]
      by_cases k : b.kind = 3
      · rw [if_pos k, if_pos k]; exact sw.anti _ _
      · rw [if_neg k, if_neg k]
        by_cases k2 : b.kind = 1 ∨ b.kind = 2
        · rw [if_pos k2, if_pos k2]; exact ia.anti _ _
        · rw [if_neg k2, if_neg k2]; rfl
    · rw [if_pos q, if_pos (fun e => q e.symm)]; exact ia.anti _ _
  tr a b d := by
    intro p q
    have hk1 : cG a.kind b.kind ≤ 0 := by
      unfold cR at p
      by_cases e : a.kind = b.kind
      · rw [e, ia.self]; exact Int.le_refl _
      · rwa [if_pos e] at p
    have hk2 : cG b.kind d.kind ≤ 0 := by
      unfold cR at q
      by_cases e : b.kind = d.kind
      · rw [e, ia.self]; exact Int.le_refl _
      · rwa [if_pos e] at q
    have hk3 := ia.tr _ _ _ hk1 hk2
    unfold cR at p q ⊢
    by_cases e : a.kind = d.kind
    · rw [if_neg (by simp [e])]
      have e1 : a.kind = b.kind := by
        have h1 : a.kind ≤ b.kind := by unfold cG at hk1; split at hk1 <;> (try split at hk1) <;> omega
        have h2 : b.kind ≤ d.kind := by unfold cG at hk2; split at hk2 <;> (try split at hk2) <;> omega
        omega
      have e2 : b.kind = d.kind := by omega
      rw [if_neg (by simp [e1])] at p
      rw [if_neg (by simp [e2])] at q
      rw [← e1] at q
      split
      · rename_i k
        rw [if_pos k] at p q
        exact sw.tr _ _ _ p q
      · rename_i k
        rw [if_neg k] at p q
        split
        · rename_i k2
          rw [if_pos k2] at p q
          exact ia.tr _ _ _ p q
        · exact Int.le_refl _
    · rw [if_pos e]; exact hk3
def cw : List aD → List aD → Int
  | [], [] => 0
  | [], _ :: _ => -1
  | _ :: _, [] => 1
  | x :: r, y :: s => if cR x y ≠ 0 then cR x y else cw r s
theorem py : ∀ a b : List aD, cw b a = - cw a b
  | [], [] => rfl
  | [], _ :: _ => rfl
  | _ :: _, [] => rfl
  | x :: r, y :: s => by
    have h1 := ng.anti x y
    have h2 := py r s
    simp only [cw]
    by_cases q : cR x y = 0
    · rw [if_neg (by omega), if_neg (by omega)]; exact h2
    · rw [if_pos (by omega), if_pos q]; exact h1
theorem rj : ∀ a b d : List aD, cw a b ≤ 0 → cw b d ≤ 0 → cw a d ≤ 0
  | [], _, [], _, _ => Int.le_refl _
  | [], _, _ :: _, _, _ => by simp only [cw]; omega
  | _ :: _, [], _, h, _ => by simp only [cw] at h; omega
  | _ :: _, _ :: _, [], _, h => by simp only [cw] at h; omega
  | x :: r, y :: s, z :: t, p, q => by
    simp only [cw] at p q ⊢
    have le1 : cR x y ≤ 0 := by split at p <;> omega
    have le2 : cR y z ≤ 0 := by split at q <;> omega
    have le3 := ng.tr x y z le1 le2
    by_cases e : cR x z = 0
    · rw [if_neg (by omega)]
      have z1 : cR x y = 0 := by
        rcases Int.lt_or_eq_of_le le1 with h4 | h4
        · have := ng.left h4 le2; omega
        · exact h4
      have z2 : cR y z = 0 := by
        rcases Int.lt_or_eq_of_le le2 with h4 | h4
        · have := ng.right le1 h4; omega
        · exact h4
      rw [if_neg (by omega)] at p
      rw [if_neg (by omega)] at q
      exact rj r s t p q
    · rw [if_pos e]; exact le3
theorem j9 : jt cw := ⟨py, rj⟩
structure Pc where
  key : List aD
  fr : Int
  to : Int
  deriving DecidableEq
@[reducible] def Pc.c (p : Pc) : List D := [.sl (p.key.map aD.c), ci p.fr, ci p.to]
instance : Inhabited Pc := ⟨⟨[], 0, 0⟩⟩
def kP (a b : Pc) : Int := if cw a.key b.key ≠ 0 then cw a.key b.key else cG a.fr b.fr
def bd (a b : Pc) : Bool := decide (kP a b < 0)
theorem gD : jt kP := by
  have h1 : jt fun a b : Pc => cw a.key b.key := ⟨fun a b => j9.anti _ _, fun a b d => j9.tr _ _ _⟩
  have h2 : jt fun a b : Pc => cG a.fr b.fr := ⟨fun a b => ia.anti _ _, fun a b d => ia.tr _ _ _⟩
  exact h1.lex h2
theorem wZ : mQ bd where
  asymm x y h := by
    have := gD.anti x y
    unfold bd at h ⊢
    simp only [decide_eq_true_eq, decide_eq_false_iff_not] at h ⊢
    omega
  trans x y z h1 h2 := by
    unfold bd at h1 h2 ⊢
    simp only [decide_eq_false_iff_not] at h1 h2 ⊢
    have a1 := gD.anti x y
    have a2 := gD.anti y z
    have a3 := gD.anti x z
    have := gD.tr x y z (by omega) (by omega)
    omega
/-! joining -/
def cX (z : List aD) (m0 m1 : Nat) : Bool := c7 z m0 m1 && decide (0 ≤ (bb z m0).n)
def ek (left : List Nat) (m0 m1 : Nat) (z : List aD) : Pc := ⟨bA z left, (bb z m0).n, (bb z m1).n⟩
def pieces (left : List Nat) (m0 m1 : Nat) : List (List aD) → List Pc
  | [] => []
  | z :: r => if cX z m0 m1 = true then ek left m0 m1 z :: pieces left m0 m1 r else pieces left m0 m1 r
def cz (out : List Pc) : Pc := el out (out.length - 1)
def dp (out : List Pc) (p : Pc) : Bool := decide (0 < out.length) && (decide ((cz out).key = p.key) && decide (p.fr ≤ (cz out).to))
def eu (q p : Pc) : Pc := ⟨q.key, q.fr, if q.to < p.to then p.to else q.to⟩
def dn (out : List Pc) : List Pc → List Pc
  | [] => out
  | p :: r => if dp out p = true then dn (out.set (out.length - 1) (eu (cz out) p)) r else dn (out ++ [p]) r
def c9 (p : Pc) : List aD := p.key ++ [⟨2, p.fr, B #[]⟩, ⟨2, p.to, B #[]⟩]
def be (a : bj) (on : List ByteArray) : List Nat := on.map (bq a.ab)
def kY (a : bj) (on : List ByteArray) : List Pc := dn [] (cm bd (pieces (be a on) (bq a.ab aJ) (bq a.ab br) a.rows))
def aX (a : bj) (on : List ByteArray) : bj × Int :=
  if (ep 9 on a).2 ≠ 0 then (ff, (ep 9 on a).2) else (⟨(ep 9 on a).1, (kY a on).map c9⟩, 0)
theorem oT (left : List Nat) (m0 m1 : Nat) : ∀ (l : List (List aD)), (pieces left m0 m1 l).length ≤ l.length
  | [] => Nat.le_refl _
  | z :: r => by
    have := oT left m0 m1 r
    simp only [pieces, List.length_cons]
    split <;> simp <;> omega
theorem jI (left : List Nat) (m0 m1 : Nat) : ∀ (l : List (List aD)), ∀ p ∈ pieces left m0 m1 l, p.key.length = left.length
  | [], p, h => by cases h
  | z :: r, p, h => by
    simp only [pieces] at h
    split at h
    · rcases List.mem_cons.1 h with rfl | h
      · exact List.length_map _
      · exact jI left m0 m1 r p h
    · exact jI left m0 m1 r p h
theorem vh {out : List Pc} (h : 0 < out.length) : cz out ∈ out := List.mem_of_getElem? (iA (by omega : out.length - 1 < out.length))
theorem kA {m : Nat} : ∀ (l out : List Pc), (∀ p ∈ l, p.key.length = m) → (∀ p ∈ out, p.key.length = m) → ∀ p ∈ dn out l, p.key.length = m
  | [], out, _, h, p, hp => h p hp
  | q :: r, out, hl, h, p, hp => by
    simp only [dn] at hp
    split at hp
    · rename_i ht
      have h0 : 0 < out.length := by unfold dp at ht; simp at ht; exact ht.1
      refine kA r _ (fun x hx => hl x (List.mem_cons_of_mem _ hx)) (fun x hx => ?_) p hp
      rcases List.mem_or_eq_of_mem_set hx with hx | rfl
      · exact h x hx
      · show (cz out).key.length = m
        exact h _ (vh h0)
    · refine kA r _ (fun x hx => hl x (List.mem_cons_of_mem _ hx)) (fun x hx => ?_) p hp
      rcases List.mem_append.1 hx with hx | hx
      · exact h x hx
      · rw [List.mem_singleton.1 hx]; exact hl q List.mem_cons_self
theorem kH : ∀ (l out : List Pc), (dn out l).length ≤ out.length + l.length
  | [], out => Nat.le_refl _
  | q :: r, out => by
    simp only [dn]
    split
    · have := kH r (out.set (out.length - 1) (eu (cz out) q)); rw [List.length_set] at this; simp; omega
    · have := kH r (out ++ [q]); rw [List.length_append] at this; simp at this ⊢; omega
end Go.Tb
namespace Go.Ab
open Go.RowKit
section
variable {P : Program} (T : cd P) {C : Ctx} {n : Nat} {ops : Array Oper} {Q : Exit → St → Prop} {rest : List Oper}
variable {f : List (Nat × A)} {bx : List (Nat × List A)} {lv : List Nat} {gen : Nat} {d : Nat} {op : Op} {ty : TypeId} {pos : String} {af : Array Edge} {a : A} {dst : Option Nat} {c : Code}
theorem fD.same {w : World} {pv : Nat → Nat → Prop} {r : Row} {v v' : Value} {es es' : List (List D)} (h : fD w pv r v es) (h' : fD w pv r v' es') : v = v' := by
  cases r with
  | nil => exact h.1.trans h'.1.symm
  | zero b => exact h.1.trans h'.1.symm
  | blk b len cap sz pub => exact h.1.trans h'.1.symm
  | mp b => exact h.elim
end
end Go.Ab
namespace Go.Ab
open Go.RowKit
mutual
def kk (g : Nat) : A → Bool
  | .ptr g' _ => !Nat.beq g' g
  | .np g' _ _ => !Nat.beq g' g
  | .sb g' _ _ => !Nat.beq g' g
  | .agg l => jZ g l
  | .tup l => jZ g l
  | .row l => jZ g l
  | .clo _ l => jZ g l
  | .bnd _ l => jZ g l
  | _ => true
def jZ (g : Nat) : List A → Bool
  | [] => true
  | a :: l => kk g a && jZ g l
end
theorem gO {g : Nat} : ∀ {l : List A}, jZ g l = true → ∀ a ∈ l, kk g a = true
  | [], _, a, ha => by cases ha
  | b :: l, h, a, ha => by
    simp only [jZ, Bool.and_eq_true] at h
    cases ha with
    | head => exact h.1
    | tail _ ha => exact gO h.2 a ha
theorem aS.forget {E E' : En} {g : Nat} (hw : E.w = E'.w) (hc : ∀ b o u, cellAt E.w b o = some u → ¬ E.pv b o → cellAt E'.w b o = some u ∧ ¬ E'.pv b o) (hold : ∀ b, E.old b → E'.old b) (hb : ∀ g' b, g' ≠ g → E.box g' = some b → E'.box g' = some b) (ho : E'.own = E.own) (hg : E'.gen = E.gen)
    {v : Value} {a : A} (h : aS E v a) (ha : kk g a = true) : aS E' v a := by
  have hne : ∀ {g'}, (!Nat.beq g' g) = true → g' ≠ g := fun h e => by subst e; simp at h
  have hc' : ∀ b o u, cellAt E.w b o = some u → ¬ E.pv b o → cellAt E.w b o = some u ∧ ¬ E'.pv b o := fun b o u h1 h2 => ⟨h1, (hc b o u h1 h2).2⟩
  induction h with
  | any x => exact .any x
  | d hd => exact .d (hd.mono hc)
  | ag vs l hs hd => exact .ag vs l hs (fun i u x h1 h2 => (hd i u x h1 h2).mono hc)
  | own x g' es hd hgg hr => exact .own x g' es (hd.mono hc) (by rw [hg]; exact hgg) (fun r hr' => hr r (by rw [← ho]; exact hr'))
  | agg vs l hs hone _ ih => exact .agg vs l hs hone (fun i u x hu hx => ih i u x hu hx (gO (by simpa [kk] using ha) x (List.mem_of_getElem? hx)))
  | tup vs l hs _ ih => exact .tup vs l hs (fun i u x hu hx => ih i u x hu hx (gO (by simpa [kk] using ha) x (List.mem_of_getElem? hx)))
  | rowd b off l u hcc hd => exact .rowd b off l u (fun j hj => hc _ _ _ (hcc j hj).1 (hcc j hj).2) (fun j x hx => (hd j x hx).mono hc)
  | row b off l u hcc _ ih => exact .row b off l u (fun j hj => ⟨by rw [← hw]; exact (hcc j hj).1, hold _ (hcc j hj).2.1, (hcc j hj).2.2⟩) (fun j x hx => ih j x hx (gO (by simpa [kk] using ha) x (List.mem_of_getElem? hx)))
  | ptr x g' off b hgg hb0 hp => exact .ptr x g' off b (by rw [hg]; exact hgg) (hb g' b (hne (by simpa [kk] using ha)) hb0) hp
  | xs x g' es hgg h1 hx => exact .xs x g' es (by rw [hg]; exact hgg) h1 (fun r hr' => hw ▸ (hx r (by rw [← ho]; exact hr')).iW hc')
  | xp x g' i off l hgg h1 hx => exact .xp x g' i off l (by rw [hg]; exact hgg) h1 (fun r hr' => hw ▸ (hx r (by rw [← ho]; exact hr')).iW hc')
  | mp x g' es hgg h1 hx => exact .mp x g' es (by rw [hg]; exact hgg) h1 (fun r hr' => hw ▸ (hx r (by rw [← ho]; exact hr')).iW hc')
  | ni t x => exact .ni t x
  | fl x es hd hfl => exact .fl x es (hd.mono hc) hfl
  | bf x g' T s hgg h1 hx => exact .bf x g' T s (by rw [hg]; exact hgg) h1 (fun r hr' => hw ▸ hx r (by rw [← ho]; exact hr'))
  | np x g' T b hgg hb0 hT u hp => exact .np x g' T b (by rw [hg]; exact hgg) (hb g' b (hne (by simpa [kk] using ha)) hb0) (hw ▸ hT) u hp
  | sb x g' n c b hgg hb0 hn hp => exact .sb x g' n c b (by rw [hg]; exact hgg) (hb g' b (hne (by simpa [kk] using ha)) hb0) hn hp
  | clo f vs l hs _ ih => exact .clo f vs l hs (fun i u x hu hx => ih i u x hu hx (gO (by simpa [kk] using ha) x (List.mem_of_getElem? hx)))
  | bnd f vs l hs _ ih => exact .bnd f vs l hs (fun i u x hu hx => ih i u x hu hx (gO (by simpa [kk] using ha) x (List.mem_of_getElem? hx)))
def mR (g : Nat) : List Nat → List (Nat × A) → List (Nat × A)
  | _, [] => []
  | seen, (s, a) :: r => bif seen.any (Nat.beq s) then mR g seen r else bif kk g a then (s, a) :: mR g (s :: seen) r else mR g (s :: seen) r
theorem kC {g : Nat} : ∀ {f : List (Nat × A)} {seen : List Nat} {t : Nat} {a : A}, look (mR g seen f) t = some a → look f t = some a ∧ kk g a = true ∧ t ∉ seen
  | [], _, t, a, h => by simp [mR, look] at h
  | (s, b) :: r, seen, t, a, h => by
    simp only [mR] at h
    cases q : seen.any (Nat.beq s) with
    | true =>
      rw [q] at h
      simp only [cond_true] at h
      obtain ⟨h1, h2, h3⟩ := kC h
      have hm : s ∈ seen := by
        obtain ⟨y, hy, hb⟩ := List.any_eq_true.1 q
        rw [Nat.eq_of_beq_eq_true hb]; exact hy
      refine ⟨?_, h2, h3⟩
      rw [bp]
      rw [if_neg (fun e : s = t => h3 (e ▸ hm))]
      exact h1
    | false =>
      rw [q] at h
      simp only [cond_false] at h
      have hm : s ∉ seen := fun hm => by
        have : seen.any (Nat.beq s) = true := List.any_eq_true.2 ⟨s, hm, by simp⟩
        rw [q] at this; cases this
      cases q2 : kk g b with
      | true =>
        rw [q2] at h
        simp only [cond_true] at h
        rw [bp] at h
        split at h
        · rename_i e
          subst e
          cases h
          exact ⟨by rw [bp, if_pos rfl], q2, hm⟩
        · rename_i e
          obtain ⟨h1, h2, h3⟩ := kC h
          exact ⟨by rw [bp, if_neg e]; exact h1, h2, fun hh => h3 (List.mem_cons_of_mem _ hh)⟩
      | false =>
        rw [q2] at h
        simp only [cond_false] at h
        obtain ⟨h1, h2, h3⟩ := kC h
        exact ⟨by rw [bp, if_neg (fun e : s = t => h3 (e ▸ List.mem_cons_self))]; exact h1, h2, fun hh => h3 (List.mem_cons_of_mem _ hh)⟩
def ow (g : Nat) : List Nat → List (Nat × List A) → Option (List (Nat × List A))
  | _, [] => some []
  | seen, (s, c) :: r => bif seen.any (Nat.beq s) then ow g seen r else bif Nat.beq s g then ow g (s :: seen) r else bif jZ g c then (match ow g (s :: seen) r with | some l => some ((s, c) :: l) | none => none) else none
theorem gE {α : Type} {f : List (Nat × α)} {s t : Nat} {a : α} : ax ((s, a) :: f) t = if s = t then some a else ax f t := by
  rw [bQ]
theorem kt {g : Nat} : ∀ {f f' : List (Nat × List A)} {seen : List Nat} {t : Nat} {a : List A}, ow g seen f = some f' → ax f' t = some a → ax f t = some a ∧ jZ g a = true ∧ t ≠ g ∧ t ∉ seen
  | [], f', _, t, a, hc, h => by simp [ow] at hc; subst hc; simp [ax] at h
  | (s, b) :: r, f', seen, t, a, hc, h => by
    simp only [ow] at hc
    cases q : seen.any (Nat.beq s) with
    | true =>
      rw [q] at hc
      simp only [cond_true] at hc
      obtain ⟨h1, h2, h3, h4⟩ := kt hc h
      have hm : s ∈ seen := by
        obtain ⟨y, hy, hb⟩ := List.any_eq_true.1 q
        rw [Nat.eq_of_beq_eq_true hb]; exact hy
      exact ⟨by rw [gE, if_neg (fun e : s = t => h4 (e ▸ hm))]; exact h1, h2, h3, h4⟩
    | false =>
      rw [q] at hc
      simp only [cond_false] at hc
      have hm : s ∉ seen := fun hm => by
        have : seen.any (Nat.beq s) = true := List.any_eq_true.2 ⟨s, hm, by simp⟩
        rw [q] at this; cases this
      cases q1 : Nat.beq s g with
      | true =>
        rw [q1] at hc
        simp only [cond_true] at hc
        obtain ⟨h1, h2, h3, h4⟩ := kt hc h
        exact ⟨by rw [gE, if_neg (fun e : s = t => h4 (e ▸ List.mem_cons_self))]; exact h1, h2, h3, fun hh => h4 (List.mem_cons_of_mem _ hh)⟩
      | false =>
        rw [q1] at hc
        simp only [cond_false] at hc
        cases q2 : jZ g b with
        | false => rw [q2] at hc; cases hc
        | true =>
          rw [q2] at hc
          simp only [cond_true] at hc
          split at hc
          · rename_i l hl
            simp only [Option.some.injEq] at hc
            subst hc
            rw [gE] at h
            split at h
            · rename_i e
              subst e
              cases h
              exact ⟨by rw [gE, if_pos rfl], q2, fun e => by subst e; simp at q1, hm⟩
            · rename_i e
              obtain ⟨h1, h2, h3, h4⟩ := kt hl h
              exact ⟨by rw [gE, if_neg e]; exact h1, h2, h3, fun hh => h4 (List.mem_cons_of_mem _ hh)⟩
          · cases hc
section
variable {P : Program} (T : cd P) {C : Ctx} {n : Nat} {ops : Array Oper} {Q : Exit → St → Prop} {rest : List Oper}
variable {f f' : List (Nat × A)} {bx bx' : List (Nat × List A)} {lv : List Nat} {gen : Nat} {d : Nat} {op : Op} {ty : TypeId} {pos : String} {af : Array Edge} {a : A} {dst : Option Nat} {c : Code}
theorem rS [hnb : NB C 0] (s : Nat) {g m cap sz k : Nat} {es : List (List D)} (hl : look f s = some (.sb g m cap)) (hb : ax bx g = some (a7 es k)) (hsn : Nat.blt s n = true) (hm : es.length = m) (hls : ∀ (x : List D), x ∈ es → x.length = sz) (hf : mR g [] f = f') (hbx : ow g [] bx = some bx')
    (h : W P C n c Q ⟨(s, .d (.sl es)) :: f', bx', lv, gen⟩) : W P C n c Q ⟨f, bx, lv, gen⟩ := by
  subst hf; subst hm
  intro tmps w ⟨G, hs⟩
  obtain ⟨v, hv, hr⟩ := hs.frame _ _ hl
  obtain ⟨b, cs, T', hgb, hw, h3, h4, h5⟩ := hs.box _ _ hb
  cases hr with
  | sb _ _ _ _ b' hgg hb' hn hx =>
  have hb' : G.box g = some b' := hb'
  rw [hgb] at hb'
  cases hb'
  let G' : Gh := ⟨fun x => if x = g then none else G.box x, G.own⟩
  have hpv : ∀ b' o, bC C G' b' o → bC C G b' o := by
    rintro b' o (hp | ⟨g', hp⟩ | hp)
    · exact .inl hp
    · simp only [G'] at hp
      split at hp
      · cases hp
      · exact .inr (.inl ⟨g', hp⟩)
    · exact .inr (.inr hp)
  have hnot : ∀ o, ¬ bC C G' b o := by
    rintro o (hp | ⟨g', hp⟩ | ⟨g', len, cap, sz, pub, hp, _⟩)
    · have := hs.xold b o hp
      rcases (hs.gbox g b hgb).2.2.1 with hm | hm
      · omega
      · exact this.2 hm
    · simp only [G'] at hp
      split at hp
      · cases hp
      · rename_i e; exact e (hs.inj g' g b hp hgb)
    · exact (hs.row g' b len cap sz pub hp).2.1 g hgb
  have hrep : ∀ {v : Value} {a : A}, aS (aB C G gen w) v a → kk g a = true → aS (aB C G' gen w) v a := fun h ha =>
    aS.forget (E := aB C G gen w) (E' := aB C G' gen w) rfl (fun b o u hu hn => ⟨hu, fun hp => hn (hpv b o hp)⟩) (fun b h => h) (fun g' b hne hb => by show (if g' = g then none else G.box g') = some b; rw [if_neg hne]; exact hb) rfl rfl h ha
  have hs' : aP C n ⟨mR g [] f, bx', lv, gen⟩ G' tmps w := by
    refine { size := hs.size, frame := ?_, box := ?_, gbox := ?_, inj := ?_, live := hs.live, gown := hs.gown, row := ?_, mrow := ?_, xold := hs.xold, kold := hs.kold, lent := ?_, fr := hs.fr }
    · intro t a ha
      obtain ⟨h1, h2, _⟩ := kC ha
      obtain ⟨v, hv, hr⟩ := hs.frame t a h1
      exact ⟨v, hv, hrep hr h2⟩
    · intro g' cells hc
      obtain ⟨h1, h2, h6, _⟩ := kt hbx hc
      obtain ⟨b2, cs2, T2, p1, p2, p3, p4, p5⟩ := hs.box g' cells h1
      exact ⟨b2, cs2, T2, by simp only [G']; rw [if_neg h6]; exact p1, p2, p3, p4, fun i u a hu ha => hrep (p5 i u a hu ha) (gO h2 a (List.mem_of_getElem? ha))⟩
    · intro g' b2 hb2
      simp only [G'] at hb2
      split at hb2
      · cases hb2
      · exact hs.gbox g' b2 hb2
    · intro g1 g2 b2 h1 h2
      simp only [G'] at h1 h2
      split at h1
      · cases h1
      · split at h2
        · cases h2
        · exact hs.inj g1 g2 b2 h1 h2
    · intro g' b2 len cap sz pub hr
      obtain ⟨p1, p2, p3⟩ := hs.row g' b2 len cap sz pub hr
      refine ⟨p1, fun g2 h2 => ?_, p3⟩
      simp only [G'] at h2
      split at h2
      · cases h2
      · exact p2 g2 h2
    · intro g' b2 hr
      obtain ⟨p1, p2, p3⟩ := hs.mrow g' b2 hr
      refine ⟨p1, fun g2 h2 => ?_, p3⟩
      simp only [G'] at h2
      split at h2
      · cases h2
      · exact p2 g2 h2
    · intro i b2 hb2
      have := hnb.h
      have hi := (List.getElem?_eq_some_iff.1 hb2).1
      omega
  have hdata : aS (aB C G' gen w) v (.d (.sl es)) := by
    rw [hx]
    have hfl := iO hls
    have hcell : ∀ i j (e : List D) (y : D), es[i]? = some e → e[j]? = some y → ∃ u, cs[i * sz + j]? = some u ∧ bm w (bC C G') u y := fun i j e y hi hj => by
      have hfg := ji hls i j e y hi hj
      have hlt : i * sz + j < es.flatten.length := (List.getElem?_eq_some_iff.1 hfg).1
      have hc : (a7 es k)[i * sz + j]? = some (.d y) := by
        unfold a7
        rw [List.getElem?_append_left (by rw [List.length_map]; exact hlt), List.getElem?_map, hfg]; rfl
      have hj' : i * sz + j < cs.size := by rw [h3]; exact (List.getElem?_eq_some_iff.1 hc).1
      have e1 : cs[i * sz + j]? = some cs[i * sz + j] := by simp [hj']
      have := hrep (h5 _ _ _ e1 hc) rfl
      generalize cs[i * sz + j] = u at this e1
      cases this with | d hd => exact ⟨u, e1, hd⟩
    refine .d ?_
    exact bm.ofRow hw hn.1 hn.2 hls (fun t _ => hnot t) hcell
  refine h tmps w ⟨G', ?_⟩
  have := hs'.set (d := s) (Nat.le_of_ble_eq_true hsn) hdata
  rwa [gP hv] at this
theorem vE {es : List (List D)} {sz i k off : Nat} {e cs : List D} (hl : ∀ (x : List D), x ∈ es → x.length = sz) (he : es[i]? = some e) (hc : off + cs.length ≤ sz) : setAt (a7 es k) (i * sz + off) (cs.map A.d) = a7 (es.set i (gS e off cs)) k := by
  have hel := hl e (List.mem_of_getElem? he)
  have h1 : (gS e off cs).length = sz := by rw [rk (by omega)]; exact hel
  rw [← rr (k := k) hl he h1]
  obtain ⟨r, hr⟩ := qJ (k := k) hl he
  have hp : i * sz ≤ (a7 es k).length := by
    rw [nV hl]
    have hi : i < es.length := (List.getElem?_eq_some_iff.1 he).1
    have : i * sz ≤ es.length * sz := Nat.mul_le_mul_right _ (by omega)
    omega
  have hsplit : a7 es k = (a7 es k).take (i * sz) ++ (e.map A.d ++ r) := by rw [← hr, List.take_append_drop]
  generalize (a7 es k).take (i * sz) = X at hsplit
  have hX : X.length = i * sz := by
    have := congrArg List.length hsplit
    have h2 := congrArg List.length hr
    rw [List.length_drop] at h2
    simp at this h2
    omega
  rw [hsplit]
  unfold setAt gS
  have e1 : (X ++ (e.map A.d ++ r)).take (i * sz + off) = X ++ (e.map A.d).take off := by
    rw [← hX, List.take_append]
    simp
    rw [List.take_append_of_le_length (by simp; omega), List.take_of_length_le (by omega)]
  have e2 : (X ++ (e.map A.d ++ r)).drop (i * sz + off + (cs.map A.d).length) = (e.map A.d).drop (off + cs.length) ++ r := by
    rw [← hX, List.length_map, Nat.add_assoc, List.drop_append]
    simp
    rw [List.drop_append_of_le_length (by simp; omega), List.drop_eq_nil_of_le (by omega), List.nil_append]
  have e3 : (X ++ (e.map A.d ++ r)).take (i * sz) = X := by rw [← hX, List.take_left]
  have e4 : (X ++ (e.map A.d ++ r)).drop (i * sz + ((e.take off ++ cs ++ e.drop (off + cs.length)).map A.d).length) = r := by
    have : ((e.take off ++ cs ++ e.drop (off + cs.length)).map A.d).length = (e.map A.d).length := by simp; omega
    rw [this, ← hX, ← List.drop_drop, List.drop_left, List.drop_left]
  rw [e1, e2, e3, e4]
  simp [List.map_take, List.map_drop]
theorem ry {t : TypeId} {x y : Operand} {g i k p sz off : Nat} {es : List (List D)} {e cs : List D} (hx : av f x = some (.ptr g p)) (hp : p = i * sz + off) (hb : ax bx g = some (a7 es k)) (ha : av f y = some a) (hcs : cellsOf bx a = some (cs.map A.d)) (hl : ∀ (x : List D), x ∈ es → x.length = sz) (he : es[i]? = some e)
    (hc : off + cs.length ≤ sz) (hsz : cn T t = cs.length) (hz : cs.length ≠ 0) {es' : List (List D)} (hes : es.set i (gS e off cs) = es')
    (h : WO P C n ops Q rest ⟨f, (g, a7 es' k) :: bx, lv, gen⟩) : WO P C n ops Q (⟨none, .store t x y, ty, pos, af, none⟩ :: rest) ⟨f, bx, lv, gen⟩ := by
  subst hp
  have hi : i < es.length := (List.getElem?_eq_some_iff.1 he).1
  refine WO.store (st := ⟨f, bx, lv, gen⟩) T rfl rfl rfl hx hb ha hcs (by rw [List.length_map]; exact hsz) (by rw [List.length_map]; exact hz) ?_ ?_
  · apply Nat.ble_eq_true_of_le
    rw [List.length_map, nV hl]
    have : (i + 1) * sz ≤ es.length * sz := Nat.mul_le_mul_right _ hi
    rw [Nat.succ_mul] at this
    omega
  · rw [vE hl he hc, hes]
    exact h
end
end Go.Ab
namespace Go.Tb
open Go.Ab
def dR : Pc → List Pc → List Pc
  | c, [] => [c]
  | c, p :: r => if c.key = p.key ∧ p.fr ≤ c.to then dR (eu c p) r else c :: dR p r
theorem pr (pre : List Pc) (c : Pc) : cz (pre ++ [c]) = c := by
  unfold cz
  exact qY (by simp)
theorem pI (pre : List Pc) (c p : Pc) : dp (pre ++ [c]) p = true ↔ c.key = p.key ∧ p.fr ≤ c.to := by
  unfold dp
  rw [pr]
  simp
theorem vU (pre : List Pc) (c d : Pc) : (pre ++ [c]).set ((pre ++ [c]).length - 1) d = pre ++ [d] := by
  rw [List.length_append, List.length_singleton, Nat.add_sub_cancel, List.set_append_right _ _ (Nat.le_refl _)]
  simp
theorem ln : ∀ (l pre : List Pc) (c : Pc), dn (pre ++ [c]) l = pre ++ dR c l
  | [], _, _ => rfl
  | p :: r, pre, c => by
    simp only [dn, dR]
    by_cases h : c.key = p.key ∧ p.fr ≤ c.to
    · rw [if_pos ((pI pre c p).2 h), if_pos h, vU, pr]
      exact ln r pre _
    · rw [if_neg (fun q => h ((pI pre c p).1 q)), if_neg h, ln r (pre ++ [c]) p]
      simp
theorem oG (p : Pc) (r : List Pc) : dn [] (p :: r) = dR p r := by
  have := ln r [] p
  simp only [dn]
  rw [if_neg (by unfold dp; simp)]
  exact this
structure eN (K : List aD → Prop) (p : Pc) : Prop where
  key : K p.key
  fr : 0 ≤ p.fr
  lt : p.fr < p.to
  fi : l6 p.fr = true
  ti : l6 p.to = true
def kU (a b : Pc) : Prop := kP a b ≤ 0
def r8 (a b : Pc) : Prop := cw a.key b.key ≤ 0 ∧ (a.key = b.key → a.to < b.fr)
def tl (A : List Pc) (q : Pc) : Prop := ∀ x : Int, q.fr ≤ x → x < q.to → ∃ s ∈ A, s.key = q.key ∧ s.fr ≤ x ∧ x < s.to
theorem wR {a b : Int} : cG a b ≤ 0 ↔ a ≤ b := by unfold cG; split <;> (try split) <;> omega
theorem pS {a b : Pc} (h : kU a b) : cw a.key b.key ≤ 0 := by unfold kU kP at h; split at h <;> omega
theorem uE {a b : Pc} (h : kU a b) (e : a.key = b.key) : a.fr ≤ b.fr := by
  unfold kU kP at h
  rw [e, if_neg (by simp [j9.self])] at h
  exact wR.1 h
theorem qz {a b d : Pc} (h : kU a b) (g : kU b d) : kU a d := gD.tr a b d h g
theorem rR {c p : Pc} : c.to ≤ (eu c p).to ∧ p.to ≤ (eu c p).to := by unfold eu; dsimp only; split <;> omega
section
variable {K : List aD → Prop} (hK : ∀ a b, K a → K b → cw a b = 0 → a = b)
theorem pF {c p : Pc} (h : eN K c) (g : eN K p) : eN K (eu c p) :=
  ⟨h.key, h.fr, by have := h.lt; have := (rR (c := c) (p := p)).1; show c.fr < _; omega, h.fi, by unfold eu; dsimp only; split; exact g.ti; exact h.ti⟩
theorem ly : ∀ (l : List Pc) (c : Pc), eN K c → (∀ p ∈ l, eN K p) → ∀ q ∈ dR c l, eN K q
  | [], c, h, _, q, hq => by rw [List.mem_singleton.1 hq]; exact h
  | p :: r, c, h, g, q, hq => by
    have g1 := g p List.mem_cons_self
    have g2 : ∀ p ∈ r, eN K p := fun x hx => g x (List.mem_cons_of_mem _ hx)
    simp only [dR] at hq
    split at hq
    · exact ly r _ (pF h g1) g2 q hq
    · rcases List.mem_cons.1 hq with rfl | hq
      · exact h
      · exact ly r p g1 g2 q hq
theorem nR : ∀ (l : List Pc) (c : Pc), (c :: l).Pairwise kU → ∀ q ∈ dR c l, kU c q
  | [], c, _, q, hq => by rw [List.mem_singleton.1 hq]; exact Int.le_of_eq (gD.self c)
  | p :: r, c, h, q, hq => by
    have h1 := List.pairwise_cons.1 h
    have h2 := List.pairwise_cons.1 h1.2
    simp only [dR] at hq
    split at hq
    · exact nR r (eu c p) (List.pairwise_cons.2 ⟨fun x hx => h1.1 x (List.mem_cons_of_mem _ hx), h2.2⟩) q hq
    · rcases List.mem_cons.1 hq with rfl | hq
      · exact Int.le_of_eq (gD.self _)
      · exact qz (h1.1 p List.mem_cons_self) (nR r p h1.2 q hq)
include hK in
theorem mM : ∀ (l : List Pc) (c : Pc), (c :: l).Pairwise kU → eN K c → (∀ p ∈ l, eN K p) → (dR c l).Pairwise r8
  | [], c, _, _, _ => List.pairwise_singleton _ _
  | p :: r, c, h, hc, g => by
    have h1 := List.pairwise_cons.1 h
    have h2 := List.pairwise_cons.1 h1.2
    have g1 := g p List.mem_cons_self
    have g2 : ∀ p ∈ r, eN K p := fun x hx => g x (List.mem_cons_of_mem _ hx)
    simp only [dR]
    split
    · exact mM r (eu c p) (List.pairwise_cons.2 ⟨fun x hx => h1.1 x (List.mem_cons_of_mem _ hx), h2.2⟩) (pF hc g1) g2
    · rename_i hn
      refine List.pairwise_cons.2 ⟨fun q hq => ?_, mM r p h1.2 g1 g2⟩
      have l1 := h1.1 p List.mem_cons_self
      have l2 := nR r p h1.2 q hq
      refine ⟨pS (qz l1 l2), fun e => ?_⟩
      have e1 : c.key = p.key := hK _ _ hc.key g1.key (by
        have k1 := pS l1
        have k2 := pS l2
        rw [← e, j9.anti] at k2
        omega)
      have k3 : p.fr ≤ q.fr := uE l2 (e1.symm.trans e)
      have k4 : ¬ p.fr ≤ c.to := fun k => hn ⟨e1, k⟩
      omega
theorem kS : ∀ (l : List Pc) (c : Pc), (c :: l).Pairwise kU → ∀ p ∈ c :: l, ∃ q ∈ dR c l, q.key = p.key ∧ q.fr ≤ p.fr ∧ p.to ≤ q.to
  | [], c, _, p, hp => by rw [List.mem_singleton.1 hp]; exact ⟨c, List.mem_cons_self, rfl, Int.le_refl _, Int.le_refl _⟩
  | p :: r, c, h, x, hx => by
    have h1 := List.pairwise_cons.1 h
    have h2 := List.pairwise_cons.1 h1.2
    simp only [dR]
    split
    · rename_i ht
      have ih := kS r (eu c p) (List.pairwise_cons.2 ⟨fun x hx => h1.1 x (List.mem_cons_of_mem _ hx), h2.2⟩)
      have hw := rR (c := c) (p := p)
      rcases List.mem_cons.1 hx with rfl | hx
      · obtain ⟨q, q1, q2, q3, q4⟩ := ih _ List.mem_cons_self
        exact ⟨q, q1, q2, q3, by omega⟩
      · rcases List.mem_cons.1 hx with rfl | hx
        · obtain ⟨q, q1, q2, q3, q4⟩ := ih _ List.mem_cons_self
          have := uE (h1.1 x List.mem_cons_self) ht.1
          have q3' : q.fr ≤ c.fr := q3
          exact ⟨q, q1, q2.trans ht.1, by omega, by omega⟩
        · exact ih x (List.mem_cons_of_mem _ hx)
    · rcases List.mem_cons.1 hx with rfl | hx
      · exact ⟨x, List.mem_cons_self, rfl, Int.le_refl _, Int.le_refl _⟩
      · obtain ⟨q, q1, q2⟩ := kS r p h1.2 x hx
        exact ⟨q, List.mem_cons_of_mem _ q1, q2⟩
theorem mo {A : List Pc} : ∀ (l : List Pc) (c : Pc), tl A c → (∀ p ∈ l, p ∈ A) → ∀ q ∈ dR c l, tl A q
  | [], c, h, _, q, hq => by rw [List.mem_singleton.1 hq]; exact h
  | p :: r, c, h, g, q, hq => by
    have g1 := g p List.mem_cons_self
    have g2 : ∀ p ∈ r, p ∈ A := fun x hx => g x (List.mem_cons_of_mem _ hx)
    have gp : tl A p := fun x h1 h2 => ⟨p, g1, rfl, h1, h2⟩
    simp only [dR] at hq
    split at hq
    · rename_i ht
      refine mo r _ (fun x h1 h2 => ?_) g2 q hq
      by_cases k : x < c.to
      · exact h x h1 k
      · have h2' : x < (if c.to < p.to then p.to else c.to) := h2
        split at h2'
        · obtain ⟨s, s1, s2, s3⟩ := gp x (by omega) h2'
          exact ⟨s, s1, s2.trans ht.1.symm, s3⟩
        · exact absurd h2' k
    · rcases List.mem_cons.1 hq with rfl | hq
      · exact h
      · exact mo r p gp g2 q hq
theorem mi : ∀ (l : List Pc) (c : Pc), (dR c l).length ≤ l.length + 1
  | [], _ => Nat.le_refl _
  | p :: r, c => by
    simp only [dR]
    split
    · have := mi r (eu c p); simp; omega
    · have := mi r p; simp; omega
theorem px : ∀ (l : List Pc) (c : Pc), (c :: l).Pairwise r8 → dR c l = c :: l
  | [], _, _ => rfl
  | p :: r, c, h => by
    have h1 := List.pairwise_cons.1 h
    simp only [dR]
    rw [if_neg (fun q => by have := (h1.1 p List.mem_cons_self).2 q.1; omega), px r p h1.2]
theorem tw : ∀ (l : List Pc), l.Pairwise r8 → dn [] l = l
  | [], _ => rfl
  | p :: r, h => by rw [oG, px r p h]
/-! the sort leaves a strictly increasing list as it is -/
theorem qC : ∀ (J S : List Pc), J.Pairwise (fun a b => bd a b = true) → S.Pairwise kU → S.Perm J → S = J
  | [], S, _, _, h => List.Perm.eq_nil h
  | x :: J, [], _, _, h => by have := h.length_eq; simp at this
  | x :: J, y :: S, hJ, hS, h => by
    have j1 := List.pairwise_cons.1 hJ
    have s1 := List.pairwise_cons.1 hS
    have e : y = x := Classical.byContradiction fun ne => by
      have hy : y ∈ J := by
        rcases List.mem_cons.1 (h.mem_iff.1 List.mem_cons_self) with q | q
        · exact absurd q ne
        · exact q
      have hx : x ∈ S := by
        rcases List.mem_cons.1 (h.mem_iff.2 List.mem_cons_self) with q | q
        · exact absurd q.symm ne
        · exact q
      have l1 := j1.1 y hy
      have l2 : kP y x ≤ 0 := s1.1 x hx
      unfold bd at l1
      simp only [decide_eq_true_eq] at l1
      have := gD.anti x y
      omega
    subst e
    rw [qC J S j1.2 s1.2 ((List.perm_cons y).1 h)]
theorem qR (l : List Pc) : (cm bd l).Pairwise kU := by
  have h := qf bd wZ l
  have hl := (du bd l).len
  refine List.pairwise_iff_getElem.2 fun i j hi hj hij => ?_
  have := h i j (Nat.zero_le _) hij (by omega)
  rw [qY (List.getElem?_eq_getElem hi), qY (List.getElem?_eq_getElem hj)] at this
  have this : ¬ kP _ _ < 0 := of_decide_eq_false this
  have a := gD.anti (cm bd l)[i] (cm bd l)[j]
  show kP _ _ ≤ 0
  omega
theorem uD {l : List Pc} {p : Pc} : p ∈ cm bd l ↔ p ∈ l := (du bd l).perm.mem_iff
structure rX (K : List aD → Prop) (ps J : List Pc) : Prop where
  good : ∀ q ∈ J, eN K q
  sep : J.Pairwise r8
  cover : ∀ p ∈ ps, ∃ q ∈ J, q.key = p.key ∧ q.fr ≤ p.fr ∧ p.to ≤ q.to
  gap : ∀ q ∈ J, tl ps q
  again : dn [] (cm bd J) = J
  len : J.length ≤ ps.length
include hK in
theorem x4 (ps : List Pc) (hg : ∀ p ∈ ps, eN K p) : rX K ps (dn [] (cm bd ps)) := by
  have hpw := qR ps
  have hm : ∀ p, p ∈ cm bd ps ↔ p ∈ ps := fun p => uD
  have hl := (du bd ps).len
  obtain ⟨S, hS⟩ : ∃ s, cm bd ps = s := ⟨_, rfl⟩
  rw [hS] at hpw hl ⊢
  simp only [hS] at hm
  have ag : ∀ J : List Pc, (∀ q ∈ J, eN K q) → J.Pairwise r8 → dn [] (cm bd J) = J := fun J h1 h2 => by
    have h3 : J.Pairwise (fun a b => bd a b = true) := by
      refine List.pairwise_iff_getElem.2 fun i j hi hj hij => ?_
      have hs := List.pairwise_iff_getElem.1 h2 i j hi hj hij
      have g1 := h1 _ (List.getElem_mem hi)
      have g2 := h1 _ (List.getElem_mem hj)
      unfold bd kP
      simp only [decide_eq_true_eq]
      by_cases k : cw J[i].key J[j].key = 0
      · rw [if_neg (by omega)]
        have := hs.2 (hK _ _ g1.key g2.key k)
        have := g1.lt
        unfold cG
        rw [if_pos (by omega)]; decide
      · rw [if_pos k]; have := hs.1; omega
    rw [qC J _ h3 (qR J) (du bd J).perm]
    exact tw J h2
  cases S with
  | nil =>
    show rX K ps []
    exact ⟨(fun q hq => nomatch hq), List.Pairwise.nil, (fun p hp => absurd ((hm p).2 hp) List.not_mem_nil), (fun q hq => nomatch hq), ag _ (fun q hq => nomatch hq) List.Pairwise.nil, Nat.zero_le _⟩
  | cons c l =>
    rw [oG]
    have hc := hg c ((hm c).1 List.mem_cons_self)
    have hl2 : ∀ p ∈ l, eN K p := fun p hp => hg p ((hm p).1 (List.mem_cons_of_mem _ hp))
    have good := ly l c hc hl2
    have sep := mM hK l c hpw hc hl2
    refine ⟨good, sep, fun p hp => kS l c hpw p ((hm p).2 hp), mo l c (fun x h1 h2 => ⟨c, (hm c).1 List.mem_cons_self, rfl, h1, h2⟩) (fun p hp => (hm p).1 (List.mem_cons_of_mem _ hp)), ag _ good sep, ?_⟩
    have := mi l c
    simp at hl; omega
end
end Go.Tb
namespace Go.Tb
open Go.Ab
theorem pO {ab : List Col} (hn : (ab.map Col.name).Nodup) {i : Nat} {c : Col} (hc : ab[i]? = some c) : cP ab c.name = some i := by
  obtain ⟨hi, rfl⟩ := List.getElem?_eq_some_iff.1 hc
  unfold cP
  rw [List.findIdx?_eq_some_iff_getElem]
  refine ⟨hi, by simp, fun j hj => ?_⟩
  have := List.pairwise_iff_getElem.1 hn j i (by simp; omega) (by simpa using hi) hj
  simpa using this
theorem nt {ab : List Col} (hn : (ab.map Col.name).Nodup) {i : Nat} {c : Col} (hc : ab[i]? = some c) : aV ab c.name = some c := by
  obtain ⟨hi, rfl⟩ := List.getElem?_eq_some_iff.1 hc
  unfold aV
  rw [List.find?_eq_some_iff_getElem]
  refine ⟨by simp, i, hi, rfl, fun j hj => ?_⟩
  have := List.pairwise_iff_getElem.1 hn j i (by simp; omega) (by simpa using hi) hj
  simpa using this
def jW (ab : List Col) (s : ByteArray) : Col := (aV ab s).getD ⟨B #[], 0⟩
theorem hY {ab : List Col} {s : ByteArray} {c : Col} (h : aV ab s = some c) : jW ab s = c := by unfold jW; rw [h]; rfl
theorem qN {ab : List Col} : ∀ {l : List ByteArray} {out : List Col}, (bX ab out l).2 = 0 → bX ab out l = (out ++ l.map (jW ab), 0) ∧ ∀ s ∈ l, ∃ c, aV ab s = some c
  | [], out, _ => ⟨by simp [bX], fun s hs => nomatch hs⟩
  | s :: r, out, h => by
    simp only [bX] at h ⊢
    cases hf : aV ab s with
    | none => rw [hf] at h; cases h
    | some c =>
      rw [hf] at h
      have ih := qN h
      refine ⟨?_, fun x hx => ?_⟩
      · dsimp only
        rw [ih.1, List.map_cons, hY hf]; simp
      · rcases List.mem_cons.1 hx with rfl | hx
        · exact ⟨c, hf⟩
        · exact ih.2 x hx
theorem og {ab : List Col} : ∀ {l : List ByteArray} {out : List Col}, (∀ s ∈ l, ∃ c, aV ab s = some c) → bX ab out l = (out ++ l.map (jW ab), 0)
  | [], out, _ => by simp [bX]
  | s :: r, out, h => by
    obtain ⟨c, hf⟩ := h s List.mem_cons_self
    simp only [bX]
    rw [hf]
    dsimp only
    rw [og (fun x hx => h x (List.mem_cons_of_mem _ hx)), List.map_cons, hY hf]; simp
theorem mT : ∀ {l ks : List ByteArray}, dH ks l = 0 → l.Nodup ∧ ∀ s ∈ l, s ∉ ks
  | [], _, _ => ⟨List.nodup_nil, fun s hs => nomatch hs⟩
  | s :: r, ks, h => by
    simp only [dH] at h
    split at h
    · rename_i h1; exact absurd h h1
    · rename_i h1
      have h1 : cO ks s = 0 := by simpa using h1
      have ih := mT h
      have hs : s ∉ ks := by
        unfold cO at h1
        split at h1
        · cases h1
        · split at h1
          · cases h1
          · rename_i h2
            intro hm
            exact h2 (List.any_eq_true.2 ⟨s, hm, by simp⟩)
      refine ⟨List.nodup_cons.2 ⟨fun hm => ih.2 s hm (by simp), ih.1⟩, fun x hx => ?_⟩
      rcases List.mem_cons.1 hx with rfl | hx
      · exact hs
      · exact fun hm => ih.2 x hx (by simp [hm])
structure kX (a : bj) (on : List ByteArray) : Prop where
  ga : bu a = 0
  st : b9 (cN 9 on (B #[])) = 0
  no : (on.any (fun x => decide (aJ = x)) || on.any (fun x => decide (br = x))) = false
  tk : ∀ s ∈ on, ∃ c, aV a.ab s = some c
  fr : cH a.ab aJ = 0
  to : cH a.ab br = 0
theorem xB {a : bj} {on : List ByteArray} : (ep 9 on a).2 = 0 ↔ kX a on := by
  have e : (cN 9 on (B #[])).op = 9 := rfl
  have e2 : (cN 9 on (B #[])).ab = on := rfl
  constructor
  · intro h
    unfold ep at h
    split at h
    · rename_i h1; exact absurd h h1
    · rename_i h1
      unfold eh at h
      split at h
      · rename_i h3; exact absurd h h3
      · rename_i h3
        rw [e, if_neg (by decide), if_neg (by decide), if_neg (by decide), if_neg (by decide)] at h
        try rw [if_pos rfl] at h
        unfold gg at h
        rw [e2] at h
        split at h
        · cases h
        · rename_i h7
          split at h
          · rename_i h4; exact absurd h h4
          · rename_i h4
            split at h
            · rename_i h5; exact absurd h h5
            · rename_i h5
              split at h
              · rename_i h6; exact absurd h h6
              · rename_i h6
                exact ⟨by simpa using h1, by simpa using h3, (Bool.not_eq_true _).mp h7, (qN (by simpa using h4)).2, by simpa using h5, by simpa using h6⟩
  · intro h
    unfold ep
    rw [if_neg (by simp [h.ga])]
    unfold eh
    rw [if_neg (by simp [h.st]), e, if_neg (by decide), if_neg (by decide), if_neg (by decide), if_neg (by decide), if_pos rfl]
    unfold gg
    rw [e2, if_neg (by simp [h.no]), og h.tk, if_neg (by simp), if_neg (by simp [h.fr]), if_neg (by simp [h.to])]
theorem uk {a : bj} {on : List ByteArray} (h : kX a on) : ep 9 on a = (on.map (jW a.ab) ++ [⟨aJ, 2⟩, ⟨br, 2⟩], 0) := by
  have e : (cN 9 on (B #[])).op = 9 := rfl
  have e2 : (cN 9 on (B #[])).ab = on := rfl
  unfold ep
  rw [if_neg (by simp [h.ga])]
  unfold eh
  rw [if_neg (by simp [h.st]), e, if_neg (by decide), if_neg (by decide), if_neg (by decide), if_neg (by decide), if_pos rfl]
  unfold gg
  rw [e2, if_neg (by simp [h.no]), og h.tk, if_neg (by simp), if_neg (by simp [h.fr]), if_neg (by simp [h.to])]
  simp
theorem kX.nd {a : bj} {on : List ByteArray} (h : kX a on) : on.Nodup ∧ on.length ≤ 16 ∧ aJ ∉ on ∧ br ∉ on := by
  have hs := h.st
  have e : (cN 9 on (B #[])).op = 9 := rfl
  have hc : dG on 0 = 0 := by
    unfold b9 at hs
    split at hs
    · cases hs
    · rw [e, if_neg (by decide), if_neg (by decide), if_neg (by decide), if_neg (by decide), if_neg (by decide)] at hs
      try rw [if_pos rfl] at hs
      exact hs
  have hl := iK hc
  have hn : dH [] on = 0 := by
    unfold dG at hc
    split at hc
    · rename_i q; exact absurd hc q
    · exact hc
  have hno := h.no
  simp only [Bool.or_eq_false_iff, List.any_eq_false, decide_eq_true_eq] at hno
  exact ⟨(mT hn).1, hl, fun q => hno.1 _ q rfl, fun q => hno.2 _ q rfl⟩
def cg (a : bj) (on : List ByteArray) : List Col := on.map (jW a.ab)
def rC (cs : List Col) (key : List aD) : Prop := key.length = cs.length ∧ ∀ (i : Nat) (c : Col) (v : aD), cs[i]? = some c → key[i]? = some v → bU c.type v = 0
theorem rE {cs : List Col} : ∀ (a b : List aD), rC cs a → rC cs b → cw a b = 0 → a = b := by
  induction cs with
  | nil =>
    intro a b ha hb _
    rw [List.length_eq_zero_iff.1 ha.1, List.length_eq_zero_iff.1 hb.1]
  | cons c cs ih =>
    intro a b ha hb h
    cases a with
    | nil => have := ha.1; simp at this
    | cons x a =>
      cases b with
      | nil => have := hb.1; simp at this
      | cons y b =>
        simp only [cw] at h
        have h0 : cR x y = 0 := Classical.byContradiction fun q => by rw [if_pos q] at h; exact q h
        rw [if_neg (by simp [h0])] at h
        have hxy := w3 (ha.2 0 c x rfl rfl) (hb.2 0 c y rfl rfl) h0
        rw [hxy, ih a b ⟨by have := ha.1; simpa using this, fun i d v h1 h2 => ha.2 (i + 1) d v (by simpa using h1) (by simpa using h2)⟩ ⟨by have := hb.1; simpa using this, fun i d v h1 h2 => hb.2 (i + 1) d v (by simpa using h1) (by simpa using h2)⟩ h]
theorem sx {a : bj} {on : List ByteArray} (h : kX a on) : (cg a on).map Col.name = on := by
  unfold cg
  rw [List.map_map]
  conv => rhs; rw [← List.map_id on]
  refine List.map_congr_left fun s hs => ?_
  obtain ⟨c, hc⟩ := h.tk s hs
  obtain ⟨i, _, _, h3⟩ := e5 hc
  show (jW a.ab s).name = s
  rw [hY hc]; exact h3
theorem xx {a : bj} {on : List ByteArray} (h : kX a on) : ∀ c ∈ cg a on, c ∈ a.ab := fun c hc => by
  obtain ⟨s, hs, rfl⟩ := List.mem_map.1 hc
  obtain ⟨c, hc⟩ := h.tk s hs
  obtain ⟨i, _, h2, _⟩ := e5 hc
  rw [hY hc]; exact List.mem_of_getElem? h2
theorem qi {a : bj} {on : List ByteArray} (h : kX a on) {z : List aD} (hz : z ∈ a.rows) (hi : cX z (bq a.ab aJ) (bq a.ab br) = true) : eN (rC (cg a on)) (ek (be a on) (bq a.ab aJ) (bq a.ab br) z) := by
  obtain ⟨i0, c0, p0, q0, t0⟩ := eI h.fr
  obtain ⟨i1, c1, p1, q1, t1⟩ := eI h.to
  rw [bY p0, bY p1] at hi ⊢
  have x0 := rn h.ga hz q0
  have x1 := rn h.ga hz q1
  rw [t0] at x0
  rw [t1] at x1
  unfold cX c7 at hi
  simp only [Bool.and_eq_true, decide_eq_true_eq] at hi
  obtain ⟨⟨k0, k1, hlt⟩, h0⟩ := hi
  refine ⟨⟨?_, fun j c v hc hv => ?_⟩, h0, hlt, sM x0.2 k0, sM x1.2 k1⟩
  · show ((on.map (bq a.ab)).map (bb z)).length = (on.map (jW a.ab)).length
    simp
  · have hv : ((on.map (bq a.ab)).map (bb z))[j]? = some v := hv
    have hc : (on.map (jW a.ab))[j]? = some c := hc
    rw [List.getElem?_map, List.getElem?_map] at hv
    rw [List.getElem?_map] at hc
    cases hs : on[j]? with
    | none => rw [hs] at hc; cases hc
    | some s =>
      rw [hs] at hv hc
      simp only [Option.map_some, Option.some.injEq] at hv hc
      obtain ⟨d, hd⟩ := h.tk s (List.mem_of_getElem? hs)
      obtain ⟨i, g1, g2, _⟩ := e5 hd
      rw [hY hd] at hc
      rw [bY g1] at hv
      subst hc; subst hv
      exact (rn h.ga hz g2).2
theorem jK {left : List Nat} {m0 m1 : Nat} : ∀ {l : List (List aD)} {p : Pc}, p ∈ pieces left m0 m1 l ↔ ∃ z ∈ l, cX z m0 m1 = true ∧ p = ek left m0 m1 z
  | [], p => by simp [pieces]
  | z :: r, p => by
    have ih := jK (left := left) (m0 := m0) (m1 := m1) (l := r) (p := p)
    simp only [pieces, List.mem_cons, exists_eq_or_imp]
    split
    · rename_i h
      rw [List.mem_cons, ih]
      exact ⟨fun q => q.elim (fun e => .inl ⟨h, e⟩) .inr, fun q => q.elim (fun e => .inl e.2) .inr⟩
    · rename_i h
      rw [ih]
      exact ⟨.inr, fun q => q.elim (fun e => absurd e.1 h) id⟩
structure lI (a : bj) (on : List ByteArray) (J : List Pc) : Prop where
  co : kX a on
  eq : aX a on = (⟨cg a on ++ [⟨aJ, 2⟩, ⟨br, 2⟩], J.map c9⟩, 0)
  jo : rX (rC (cg a on)) (pieces (be a on) (bq a.ab aJ) (bq a.ab br) a.rows) J
theorem xb {a : bj} {on : List ByteArray} (h : (aX a on).2 = 0) : lI a on (kY a on) := by
  have h1 : (ep 9 on a).2 = 0 := by
    unfold aX at h
    split at h
    · rename_i q; exact absurd h q
    · rename_i q; simpa using q
  have hc := xB.1 h1
  refine ⟨hc, ?_, x4 rE _ fun p hp => ?_⟩
  · unfold aX
    rw [if_neg (by simp [h1]), uk hc]; rfl
  · obtain ⟨z, hz, hi, rfl⟩ := jK.1 hp
    exact qi hc hz hi
/-! the result's own pieces -/
theorem wg {p : Pc} {n : Nat} (h : p.key.length = n) : bA (c9 p) (List.range n) = p.key := by
  subst h
  unfold bA
  refine List.ext_getElem (by simp) fun i h1 h2 => ?_
  rw [List.getElem_map, List.getElem_range]
  unfold bb c9
  rw [List.getD_eq_getElem?_getD, List.getElem?_append_left h2, List.getElem?_eq_getElem h2]; rfl
theorem s6 {p : Pc} {n : Nat} (h : p.key.length = n) : bb (c9 p) n = ⟨2, p.fr, B #[]⟩ := by
  subst h
  unfold bb c9
  rw [List.getD_eq_getElem?_getD, List.getElem?_append_right (Nat.le_refl _), Nat.sub_self]; rfl
theorem sQ {p : Pc} {n : Nat} (h : p.key.length = n) : bb (c9 p) (n + 1) = ⟨2, p.to, B #[]⟩ := by
  subst h
  unfold bb c9
  rw [List.getD_eq_getElem?_getD, List.getElem?_append_right (Nat.le_succ _), show p.key.length + 1 - p.key.length = 1 by omega]; rfl
theorem sD {p : Pc} {n : Nat} (h : p.key.length = n) (h0 : 0 ≤ p.fr) (h1 : p.fr < p.to) : cX (c9 p) n (n + 1) = true := by
  unfold cX c7
  rw [s6 h, sQ h]
  simp [h0, h1]
theorem s9 {p : Pc} {n : Nat} (h : p.key.length = n) : ek (List.range n) n (n + 1) (c9 p) = p := by
  unfold ek
  rw [s6 h, sQ h, wg h]
theorem nL {n : Nat} : ∀ {J : List Pc}, (∀ p ∈ J, p.key.length = n ∧ 0 ≤ p.fr ∧ p.fr < p.to) → pieces (List.range n) n (n + 1) (J.map c9) = J
  | [], _ => rfl
  | p :: r, h => by
    have h1 := h p List.mem_cons_self
    rw [List.map_cons]
    simp only [pieces]
    rw [if_pos (sD h1.1 h1.2.1 h1.2.2), s9 h1.1, nL fun q hq => h q (List.mem_cons_of_mem _ hq)]
theorem nX : ec aJ = 0 ∧ ec br = 0 ∧ aJ ≠ br := by decide
theorem lI.yT {a : bj} {on : List ByteArray} {J : List Pc} (h : lI a on J) : bu (aX a on).1 = 0 := by
  have hnd := h.co.nd
  have hcs := r7 h.co.ga
  have hsm := dw h.co.ga
  have hln : (cg a on).length = on.length := List.length_map _
  rw [h.eq]
  refine xv (by rw [List.length_append, hln]; simp; omega) (by
    rw [List.length_map]
    have := h.jo.len
    have := oT (be a on) (bq a.ab aJ) (bq a.ab br) a.rows
    omega) (fun c hc => ?_) ?_ fun x hx => ?_
  · rcases List.mem_append.1 hc with hc | hc
    · exact hcs.1 c (xx h.co c hc)
    · rcases List.mem_cons.1 hc with rfl | hc
      · exact ⟨nX.1, .inr (.inl rfl)⟩
      · rw [List.mem_singleton.1 hc]; exact ⟨nX.2.1, .inr (.inl rfl)⟩
  · rw [List.map_append, sx h.co]
    refine List.nodup_append.2 ⟨hnd.1, ?_, fun x hx y hy => ?_⟩
    · exact List.nodup_cons.2 ⟨fun q => nX.2.2 (List.mem_singleton.1 q), List.nodup_cons.2 ⟨List.not_mem_nil, List.nodup_nil⟩⟩
    · rintro rfl
      rcases List.mem_cons.1 hy with q | q
      · rw [q] at hx; exact hnd.2.2.1 hx
      · rw [List.mem_singleton.1 q] at hx; exact hnd.2.2.2 hx
  · obtain ⟨p, hp, rfl⟩ := List.mem_map.1 hx
    have g := h.jo.good p hp
    refine ⟨?_, ?_⟩
    · show (p.key ++ _).length = (cg a on ++ _).length
      rw [List.length_append, List.length_append, g.key.1]; rfl
    · refine oP g.key.1 g.key.2 fun i c v hc hv => ?_
      have ok : ∀ n, l6 n = true → bU 2 ⟨2, n, B #[]⟩ = 0 := fun n hn => by unfold bU; simp [hn]
      match i, hc, hv with
      | 0, hc, hv => simp only [List.getElem?_cons_zero, Option.some.injEq] at hc hv; subst hc; subst hv; exact ok _ g.fi
      | 1, hc, hv => simp only [List.getElem?_cons_succ, List.getElem?_cons_zero, Option.some.injEq] at hc hv; subst hc; subst hv; exact ok _ g.ti
      | i + 2, hc, hv => simp at hc
theorem lI.ab {a : bj} {on : List ByteArray} {J : List Pc} (h : lI a on J) : kX (aX a on).1 on ∧ cg (aX a on).1 on = cg a on ∧ be (aX a on).1 on = List.range on.length ∧
    bq (aX a on).1.ab aJ = on.length ∧ bq (aX a on).1.ab br = on.length + 1 := by
  have ht := h.yT
  have hnd := (r7 ht).2
  have hln : (cg a on).length = on.length := List.length_map _
  have hnm := sx h.co
  rw [h.eq] at ht hnd ⊢
  dsimp only at hnd ⊢
  have hF : (cg a on ++ [⟨aJ, 2⟩, ⟨br, 2⟩] : List Col)[on.length]? = some ⟨aJ, 2⟩ := by rw [List.getElem?_append_right (by omega), hln, Nat.sub_self]; rfl
  have hT : (cg a on ++ [⟨aJ, 2⟩, ⟨br, 2⟩] : List Col)[on.length + 1]? = some ⟨br, 2⟩ := by rw [List.getElem?_append_right (by omega), hln, Nat.add_sub_cancel_left]; rfl
  have hC : ∀ (i : Nat) (s : ByteArray), on[i]? = some s → ∃ c, (cg a on)[i]? = some c ∧ c.name = s ∧ (cg a on ++ [⟨aJ, 2⟩, ⟨br, 2⟩] : List Col)[i]? = some c := by
    intro i s hs
    have h1 : ((cg a on).map Col.name)[i]? = some s := by rw [hnm]; exact hs
    rw [List.getElem?_map] at h1
    cases hc : (cg a on)[i]? with
    | none => rw [hc] at h1; cases h1
    | some c =>
      rw [hc] at h1
      simp only [Option.map_some, Option.some.injEq] at h1
      exact ⟨c, rfl, h1, by rw [List.getElem?_append_left (List.getElem?_eq_some_iff.1 hc).1]; exact hc⟩
  have iF := nt hnd hF
  have iT := nt hnd hT
  have nF := pO hnd hF
  have nT := pO hnd hT
  refine ⟨⟨ht, h.co.st, h.co.no, fun s hs => ?_, ?_, ?_⟩, ?_, ?_, bY nF, bY nT⟩
  · obtain ⟨i, hi⟩ := List.mem_iff_getElem?.1 hs
    obtain ⟨c, _, c2, c3⟩ := hC i s hi
    exact ⟨c, by rw [← c2]; exact nt hnd c3⟩
  · show cH _ aJ = 0
    unfold cH
    have iF : aV (cg a on ++ [⟨aJ, 2⟩, ⟨br, 2⟩]) aJ = _ := iF
    rw [iF]; rfl
  · show cH _ br = 0
    unfold cH
    have iT : aV (cg a on ++ [⟨aJ, 2⟩, ⟨br, 2⟩]) br = _ := iT
    rw [iT]; rfl
  · show on.map (jW _) = cg a on
    refine List.ext_getElem? fun i => ?_
    rw [List.getElem?_map]
    cases hs : on[i]? with
    | none =>
      have : (cg a on)[i]? = none := by rw [List.getElem?_eq_none_iff] at hs ⊢; omega
      rw [this]; rfl
    | some s =>
      obtain ⟨c, c1, c2, c3⟩ := hC i s hs
      rw [c1, Option.map_some, ← c2, hY (nt hnd c3)]
  · show on.map (bq _) = List.range on.length
    refine List.ext_getElem? fun i => ?_
    rw [List.getElem?_map]
    cases hs : on[i]? with
    | none =>
      rw [List.getElem?_eq_none_iff] at hs
      rw [List.getElem?_eq_none (by simpa using hs)]; rfl
    | some s =>
      obtain ⟨c, c1, c2, c3⟩ := hC i s hs
      have hi := (List.getElem?_eq_some_iff.1 hs).1
      rw [Option.map_some, ← c2, bY (pO hnd c3), List.getElem?_range hi]
theorem lI.again {a : bj} {on : List ByteArray} {J : List Pc} (h : lI a on J) : aX (aX a on).1 on = ((aX a on).1, 0) := by
  obtain ⟨h1, h2, h3, h4, h5⟩ := h.ab
  have hln : (cg a on).length = on.length := List.length_map _
  have hr : (aX a on).1.rows = J.map c9 := by rw [h.eq]
  have hc : (aX a on).1.ab = cg a on ++ [⟨aJ, 2⟩, ⟨br, 2⟩] := by rw [h.eq]
  have hj : kY (aX a on).1 on = J := by
    unfold kY
    rw [h3, h4, h5, hr, nL fun p hp => ?_]
    · exact h.jo.again
    · have g := h.jo.good p hp
      exact ⟨by rw [g.key.1, hln], g.fr, g.lt⟩
  obtain ⟨t, ht⟩ : ∃ t, (aX a on).1 = t := ⟨_, rfl⟩
  rw [ht] at h1 h2 hj hr hc ⊢
  unfold aX
  rw [if_neg (by rw [uk h1]; simp), uk h1, hj]
  have : on.map (jW t.ab) = cg a on := h2
  rw [this, ← hc, ← hr]
end Go.Tb
namespace Go.Tb
open Go.Ab
def fc : List aD → List aD → Int
  | [], _ => 0
  | _ :: _, [] => 0
  | x :: r, y :: s => if cR x y ≠ 0 then cR x y else fc r s
theorem nj : ∀ {a b : List aD}, a.length = b.length → fc a b = cw a b
  | [], [], _ => rfl
  | [], _ :: _, h => by simp at h
  | _ :: _, [], h => by simp at h
  | x :: r, y :: s, h => by
    simp only [fc, cw]
    rw [nj (by simpa using h)]
def cW (left : List Nat) (m0 m1 : Nat) (z : List aD) : List aD := if cX z m0 m1 = true then bA z left else []
def fm (m0 m1 : Nat) (z : List aD) : Int := if cX z m0 m1 = true then (bb z m0).n else 0
def dM (m0 m1 : Nat) (z : List aD) : Int := if cX z m0 m1 = true then (bb z m1).n else 0
def bh (t : bj) : Nat := bq t.ab aJ
def bk (t : bj) : Nat := bq t.ab br
def gv (t : bj) (on : List ByteArray) (key z : List aD) (p : Int) : Bool :=
  cX z (bh t) (bk t) && (decide (fc key (cW (be t on) (bh t) (bk t) z) = 0) && (decide (fm (bh t) (bk t) z ≤ p) && decide (p < dM (bh t) (bk t) z)))
def qn (a t : bj) (on : List ByteArray) (z w : List aD) : Bool :=
  cX w (bh t) (bk t) && (decide (fc (cW (be a on) (bh a) (bk a) z) (cW (be t on) (bh t) (bk t) w) = 0) && (decide (fm (bh t) (bk t) w ≤ fm (bh a) (bk a) z) && decide (dM (bh a) (bk a) z ≤ dM (bh t) (bk t) w)))
theorem pg {left : List Nat} {m0 m1 : Nat} {z : List aD} (h : cX z m0 m1 = true) : cW left m0 m1 z = (ek left m0 m1 z).key ∧ fm m0 m1 z = (ek left m0 m1 z).fr ∧ dM m0 m1 z = (ek left m0 m1 z).to := by
  unfold cW fm dM
  rw [if_pos h, if_pos h, if_pos h]
  exact ⟨rfl, rfl, rfl⟩
structure yS (a t : bj) (on : List ByteArray) : Prop where
  ca : kX a on
  ct : kX t on
  again : aX t on = (t, 0)
  cover : ∀ z ∈ a.rows, cX z (bh a) (bk a) = true → ∃ w ∈ t.rows, qn a t on z w = true
  isIn : ∀ w ∈ t.rows, cX w (bh t) (bk t) = true
  le : ∀ w ∈ t.rows, fm (bh t) (bk t) w ≤ dM (bh t) (bk t) w
  up : ∀ w ∈ t.rows, ∀ z ∈ a.rows, ∀ p, fm (bh t) (bk t) w ≤ p → p ≤ dM (bh t) (bk t) w → gv a on (cW (be t on) (bh t) (bk t) w) z p = true → dM (bh a) (bk a) z ≤ dM (bh t) (bk t) w
  gap : ∀ w ∈ t.rows, ∀ p, fm (bh t) (bk t) w ≤ p → p < dM (bh t) (bk t) w → ∃ z ∈ a.rows, gv a on (cW (be t on) (bh t) (bk t) w) z p = true
  sep : ∀ (k : Nat) (v w : List aD), t.rows[k]? = some v → t.rows[k + 1]? = some w → fc (cW (be t on) (bh t) (bk t) v) (cW (be t on) (bh t) (bk t) w) ≤ 0 ∧
    (fc (cW (be t on) (bh t) (bk t) v) (cW (be t on) (bh t) (bk t) w) = 0 → dM (bh t) (bk t) v < fm (bh t) (bk t) w)
theorem lI.yR {a : bj} {on : List ByteArray} {J : List Pc} (h : lI a on J) : yS a (aX a on).1 on := by
  obtain ⟨h1, h2, h3, h4, h5⟩ := h.ab
  have hag := h.again
  have hln : (cg a on).length = on.length := List.length_map _
  have hr : (aX a on).1.rows = J.map c9 := by rw [h.eq]
  obtain ⟨t, ht⟩ : ∃ t, (aX a on).1 = t := ⟨_, rfl⟩
  rw [ht] at h1 h2 h3 h4 h5 hag hr ⊢
  have hkl : ∀ q ∈ J, q.key.length = on.length := fun q hq => by rw [(h.jo.good q hq).key.1, hln]
  have hw : ∀ q ∈ J, cX (c9 q) (bh t) (bk t) = true ∧ cW (be t on) (bh t) (bk t) (c9 q) = q.key ∧ fm (bh t) (bk t) (c9 q) = q.fr ∧ dM (bh t) (bk t) (c9 q) = q.to := fun q hq => by
    have g := h.jo.good q hq
    have hk := hkl q hq
    have hi : cX (c9 q) (bh t) (bk t) = true := by
      show cX _ (bq t.ab aJ) (bq t.ab br) = true
      rw [h4, h5]; exact sD hk g.fr g.lt
    have hp : ek (be t on) (bh t) (bk t) (c9 q) = q := by
      show ek _ (bq t.ab aJ) (bq t.ab br) _ = q
      rw [h3, h4, h5]; exact s9 hk
    have := pg (left := be t on) hi
    rw [hp] at this
    exact ⟨hi, this⟩
  have hJ : ∀ w ∈ t.rows, ∃ q ∈ J, w = c9 q := fun w hw => by
    rw [hr] at hw
    obtain ⟨q, hq, rfl⟩ := List.mem_map.1 hw
    exact ⟨q, hq, rfl⟩
  have hz : ∀ z ∈ a.rows, cX z (bh a) (bk a) = true → ek (be a on) (bh a) (bk a) z ∈ pieces (be a on) (bq a.ab aJ) (bq a.ab br) a.rows ∧ eN (rC (cg a on)) (ek (be a on) (bh a) (bk a) z) := fun z hz hi =>
    ⟨jK.2 ⟨z, hz, hi, rfl⟩, qi h.co hz hi⟩
  have hself : ∀ k : List aD, fc k k = 0 := fun k => by rw [nj rfl, j9.self]
  have hsame : ∀ q ∈ J, ∀ z ∈ a.rows, cX z (bh a) (bk a) = true → fc q.key (ek (be a on) (bh a) (bk a) z).key = 0 → q.key = (ek (be a on) (bh a) (bk a) z).key := fun q hq z hz1 hi hc => by
    have g := (h.jo.good q hq).key
    have g2 := (hz z hz1 hi).2.key
    exact rE _ _ g g2 (by rw [← nj (by rw [g.1, g2.1])]; exact hc)
  refine ⟨h.co, h1, hag, fun z hz1 hi => ?_, fun w hw1 => ?_, fun w hw1 => ?_, fun w hw1 z hz1 p l1 l2 hh => ?_, fun w hw1 p l1 l2 => ?_, fun k v w hv hw1 => ?_⟩
  · obtain ⟨q, q1, q2, q3, q4⟩ := h.jo.cover _ (hz z hz1 hi).1
    obtain ⟨e1, e2, e3, e4⟩ := hw q q1
    refine ⟨c9 q, by rw [hr]; exact List.mem_map_of_mem q1, ?_⟩
    obtain ⟨f1, f2, f3⟩ := pg (left := be a on) hi
    unfold qn
    rw [e1, e2, e3, e4, f1, f2, f3, q2, hself]
    simp [q3, q4]
  · obtain ⟨q, hq, rfl⟩ := hJ w hw1
    exact (hw q hq).1
  · obtain ⟨q, hq, rfl⟩ := hJ w hw1
    have := (h.jo.good q hq).lt
    rw [(hw q hq).2.2.1, (hw q hq).2.2.2]; omega
  · obtain ⟨q, hq, rfl⟩ := hJ w hw1
    obtain ⟨e1, e2, e3, e4⟩ := hw q hq
    rw [e3] at l1
    rw [e4] at l2 ⊢
    rw [e2] at hh
    unfold gv at hh
    simp only [Bool.and_eq_true, decide_eq_true_eq] at hh
    obtain ⟨hi, hc, k1, k2⟩ := hh
    obtain ⟨f1, f2, f3⟩ := pg (left := be a on) hi
    rw [f1] at hc
    rw [f2] at k1
    rw [f3] at k2 ⊢
    have hkey := hsame q hq z hz1 hi hc
    obtain ⟨q', p1, p2, p3, p4⟩ := h.jo.cover _ (hz z hz1 hi).1
    obtain ⟨i, hi1⟩ := List.mem_iff_getElem?.1 hq
    obtain ⟨j, hj1⟩ := List.mem_iff_getElem?.1 p1
    obtain ⟨il, ie⟩ := List.getElem?_eq_some_iff.1 hi1
    obtain ⟨jl, je⟩ := List.getElem?_eq_some_iff.1 hj1
    have hkk : q.key = q'.key := hkey.trans p2.symm
    rcases Nat.lt_trichotomy i j with hij | hij | hij
    · have := (List.pairwise_iff_getElem.1 h.jo.sep i j il jl hij).2
      rw [ie, je] at this
      have := this hkk
      omega
    · subst hij
      rw [hi1] at hj1
      simp only [Option.some.injEq] at hj1
      subst hj1
      exact p4
    · have := (List.pairwise_iff_getElem.1 h.jo.sep j i jl il hij).2
      rw [ie, je] at this
      have := this hkk.symm
      omega
  · obtain ⟨q, hq, rfl⟩ := hJ w hw1
    obtain ⟨e1, e2, e3, e4⟩ := hw q hq
    rw [e3] at l1
    rw [e4] at l2
    rw [e2]
    obtain ⟨s, s1, s2, s3, s4⟩ := h.jo.gap q hq p l1 l2
    obtain ⟨z, hz1, hi, rfl⟩ := jK.1 s1
    refine ⟨z, hz1, ?_⟩
    have hi : cX z (bh a) (bk a) = true := hi
    obtain ⟨f1, f2, f3⟩ := pg (left := be a on) hi
    unfold gv
    have s2 : (ek (be a on) (bh a) (bk a) z).key = q.key := s2
    have s3 : (ek (be a on) (bh a) (bk a) z).fr ≤ p := s3
    have s4 : p < (ek (be a on) (bh a) (bk a) z).to := s4
    rw [hi, f1, f2, f3, s2, hself]
    simp [s3, s4]
  · rw [hr, List.getElem?_map] at hv hw1
    cases hq : J[k]? with
    | none => rw [hq] at hv; cases hv
    | some q =>
      cases hq2 : J[k + 1]? with
      | none => rw [hq2] at hw1; cases hw1
      | some q2 =>
        rw [hq] at hv
        rw [hq2] at hw1
        simp only [Option.map_some, Option.some.injEq] at hv hw1
        subst hv; subst hw1
        obtain ⟨il, ie⟩ := List.getElem?_eq_some_iff.1 hq
        obtain ⟨jl, je⟩ := List.getElem?_eq_some_iff.1 hq2
        have hs := List.pairwise_iff_getElem.1 h.jo.sep k (k + 1) il jl (by omega)
        rw [ie, je] at hs
        have m1 := List.mem_of_getElem? hq
        have m2 := List.mem_of_getElem? hq2
        obtain ⟨e1, e2, e3, e4⟩ := hw q m1
        obtain ⟨g1, g2, g3, g4⟩ := hw q2 m2
        rw [e2, g2, e4, g3, nj (by rw [hkl q m1, hkl q2 m2])]
        exact ⟨hs.1, fun e => hs.2 (rE _ _ (h.jo.good q m1).key (h.jo.good q2 m2).key e)⟩
end Go.Tb
