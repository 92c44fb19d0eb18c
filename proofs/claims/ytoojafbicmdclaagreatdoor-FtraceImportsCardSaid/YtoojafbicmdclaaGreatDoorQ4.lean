import Derived.Test.YtoojafbicmdclaaGreatDoorQ3
import Derived.RowKit
namespace Go.Ab
open Go.RowKit Go.MapKept
theorem lO {α β : Type} [DecidableEq α] {l : List (α × β)} {i : Nat} {a : α} {v : β} (hn : (l.map (·.1)).Nodup) (h : l[i]? = some (a, v)) : cH l a = some v := by
  induction l generalizing i with
  | nil => simp at h
  | cons p r ih =>
    rw [List.map_cons, List.nodup_cons] at hn
    rw [cb]
    cases i with
    | zero =>
      simp only [List.getElem?_cons_zero, Option.some.injEq] at h
      subst h
      rw [if_pos rfl]
    | succ i =>
      simp only [List.getElem?_cons_succ] at h
      have : p.1 ≠ a := fun e => hn.1 (by rw [e]; exact List.mem_map.2 ⟨_, List.mem_of_getElem? h, rfl⟩)
      rw [if_neg this]
      exact ih hn.2 h
section
variable {P : Program} (T : bm P) {C : Ctx} {n : Nat} {ops : Array Oper} {Q : Exit → St → Prop} {rest : List Oper}
variable {f f' : List (Nat × A)} {bx bx' : List (Nat × List A)} {lv : List Nat} {gen : Nat} {d : Nat} {ty : TypeId} {pos : String} {af : Array Edge} {dst : Option Nat} {c : Code}
variable {α : Type} [DecidableEq α] {kf : α → Value}
theorem vC (s i : Nat) {mt k e : Nat} {td ed : bo} {m kx : Operand} {g : Nat} {l : List (α × Option (List D))} {a : α} {y : List D} {zx : Value} (hd : Nat.blt d n = true) (hm : av f m = some (.mq g (e7 kf l))) (hl : look f s = some (.mq g (e7 kf l))) (hk : av f kx = some (.d (.v (kf a)))) (hy : Nat.blt 0 y.length = true)
    (ht : ak T.l mt = some td) (htk : td.k = .map k e) (he : ak T.l e = some ed) (hkt : fI P k kf) (hgl : (lv.any fun h => Nat.beq h g) = true) (hzc : ed.z = [zx]) (hzk : iS ed.k = true) (hzo : bK zx = true) (hsn : Nat.blt s n = true) (hn : (l.map (·.1)).Nodup) (hi : l[i]? = some (a, some y))
    {es' : List (Value × Option (List D))} (hes : e7 kf (l.set i (a, none)) = es') {lv' : List Nat} (hlv : gen :: bg lv g = lv')
    (h : WO P C n ops Q rest ⟨(d, .tup [.ptr (gen + 2) 0, .d (.v (.bool true))]) :: (s, .mq gen es') :: f, (gen + 2, y.map .d) :: bx, lv', gen + 3⟩) : WO P C n ops Q (⟨some d, .lookup mt m kx true, ty, pos, af, none⟩ :: rest) ⟨f, bx, lv, gen⟩ := by
  subst hes; subst hlv
  refine WO.step (st := ⟨f, bx, lv, gen⟩) rfl fun tmps w ⟨G, hs⟩ => ?_
  have hrm := hs.av hm
  have hrk := hs.av hk
  obtain ⟨vs, hvs, hrs⟩ := hs.frame s _ hl
  generalize hv : Act.eval ⟨tmps, []⟩ m = v at hrm
  generalize hvk : Act.eval ⟨tmps, []⟩ kx = vk at hrk
  obtain ⟨b, bs, me, clock, ps, l2, hgb, rfl, hmq⟩ := hs.sg hrm (cC hgl)
  obtain ⟨b2, bs2, _, _, _, _, hgb2, rfl, _⟩ := hs.sg hrs (cC hgl)
  obtain ⟨rfl, rfl⟩ : b2 = b ∧ bs2 = bs := by have := hgb2.symm.trans hgb; simpa using this
  cases hrk with | d hrk => cases hrk with | v _ hok =>
  have hpos := Nat.le_of_ble_eq_true hy
  have hkeys : l2.map (·.1) = l.map (·.1) := by
    refine List.ext_getElem? fun i => ?_
    rw [List.getElem?_map, List.getElem?_map]
    rcases Nat.lt_or_ge i l2.length with hi | hi
    · have h1 : l2[i]? = some l2[i] := by simp [hi]
      have hi' : i < l.length := by rw [← hmq.ln]; exact hi
      have h2 : l[i]? = some l[i] := by simp [hi']
      rw [h1, h2]
      simp only [Option.map_some, hmq.ks i _ _ h1 h2]
    · rw [List.getElem?_eq_none hi, List.getElem?_eq_none (by rw [← hmq.ln]; exact hi)]
      rfl
  have hil := (List.getElem?_eq_some_iff.1 hi).1
  have hil2 : i < l2.length := by rw [hmq.ln]; exact hil
  have hime : i < me.size := by rw [hmq.mi.1]; exact hil2
  have hmei : me[i]? = some me[i] := by simp [hime]
  have hl2i : l2[i]? = some l2[i] := by simp [hil2]
  obtain ⟨r1, r2, cur, T1, r3, r4, r5, r6⟩ := hmq.at_ i me[i] a y hmei hi
  obtain ⟨q1, q2, q3⟩ := hmq.mi.2 i me[i] l2[i] hmei hl2i
  have hk1 : l2[i].1 = a := hmq.ks i _ _ hl2i hi
  have hval : l2[i].2 = .pointer (some ⟨ps (kf a), 0, none⟩) := by
    rw [← r1]
    generalize me[i].val = z at q3
    generalize l2[i].2 = z2 at q3
    cases q3; rfl
  have hget : cH l2 a = some (.pointer (some ⟨ps (kf a), 0, none⟩)) := lO (i := i) (by rw [hkeys]; exact hn) (by rw [hl2i, ← hval, ← hk1])
  obtain ⟨u, h1, h2⟩ := mj (P := P) (vf := D.v) (z := zx) T ht htk he hkt hzc hzk (.v _ hzo) hmq.hb hmq.mi (by rw [hkeys]; exact hn) a true
  rw [hget] at h1 h2
  simp only [Option.getD_some] at h2
  have hu : u = .pointer (some ⟨ps (kf a), 0, none⟩) := by cases h2; rfl
  subst hu
  generalize hcc : ps (kf a) = c at *
  have h0 : (execOp (Act.eval ⟨tmps, []⟩) ⟨some d, .lookup mt m kx true, ty, pos, af, none⟩).run P w = .ok (.value (.tuple #[.pointer (some ⟨c, 0, none⟩), .bool true])) w := by
    unfold execOp
    show Sem.run P _ w = .ok _ _
    simp only [hv, hvk, Sem.run_bind, h1, Result.andThen_ok, Sem.run_pure]
    rfl
  obtain ⟨G1, hGb, ho1, ho2, hle, hs1⟩ := hs.split hgb (bs' := bs2.filter fun q => !Nat.beq q.1 c) (fun q hq => (List.mem_filter.1 hq).1) (.blk c 1 1 y.length 0) (fun _ _ h => by cases h) (fun c' len cap sz pub h => by
    simp only [Row.blk.injEq] at h
    obtain ⟨rfl, rfl, rfl, rfl, rfl⟩ := h
    exact ⟨r2, fun q hq e => by have := (List.mem_filter.1 hq).2; rw [e] at this; simp at this, cur, T1, r3, by rw [r4]; simp, Nat.le_refl _, by simp [maxLen], hpos, by decide, Nat.zero_le _, r5⟩) (bg lv g) (fun g' hg' => bR hg')
  have hat : ∀ {a' : α} {x : List D}, (a', some x) ∈ l.set i (a, none) → (a', some x) ∈ l ∧ a' ≠ a := fun {a' x} hm => by
    obtain ⟨j, hj⟩ := List.mem_iff_getElem?.1 hm
    rw [List.getElem?_set] at hj
    split at hj
    · simp at hj
    · rename_i hne
      refine ⟨List.mem_of_getElem? hj, fun e => hne ?_⟩
      have hpw := List.pairwise_iff_getElem.1 hn
      have h6 : (l.map (·.1))[i]? = some a := by simp [hi]
      have h7 : (l.map (·.1))[j]? = some a := by simp [hj, e]
      obtain ⟨hj1, hj2⟩ := List.getElem?_eq_some_iff.1 h6
      obtain ⟨hi1, hi2⟩ := List.getElem?_eq_some_iff.1 h7
      rcases Nat.lt_trichotomy i j with hlt | heq | hgt
      · exact absurd (hj2.trans hi2.symm) (hpw i j hj1 hi1 hlt)
      · exact heq
      · exact absurd (hi2.trans hj2.symm) (hpw j i hi1 hj1 hgt)
  have hmq' : kP w (aN C G1) b2 (bs2.filter fun q => !Nat.beq q.1 c) kf (l.set i (a, none)) me clock ps l2 := by
    refine ⟨hmq.hb, hmq.st, hmq.mi.mono fun b o u hu hp => hle.cell b o u hu hp, by rw [hmq.ln]; simp, fun j p q hp hq => ?_, fun a1 a2 x1 x2 m1 m2 m3 => hmq.inj a1 a2 x1 x2 (hat m1).1 (hat m2).1 m3, fun j mm a1 x1 hmm hp => ?_⟩
    · rw [List.getElem?_set] at hq
      split at hq
      · rename_i e
        subst e
        simp only [Option.some.injEq] at hq
        subst hq
        rw [hl2i] at hp
        cases hp
        exact hk1
      · exact hmq.ks j p q hp hq
    · have hp' := hat (List.mem_of_getElem? hp)
      have hp2 : l[j]? = some (a1, some x1) := by
        rw [List.getElem?_set] at hp
        split at hp
        · simp at hp
        · exact hp
      obtain ⟨t1, t2, cur2, T2, t3, t4, t5, t6⟩ := hmq.at_ j mm a1 x1 hmm hp2
      refine ⟨t1, List.mem_filter.2 ⟨t2, ?_⟩, cur2, T2, t3, t4, t5, fun j u d hu hd => (t6 j u d hu hd).mono fun b o u hu hp => hle.cell b o u hu hp⟩
      cases hq : Nat.beq (ps (kf a1)) c with
      | false => rfl
      | true =>
        have e := Nat.eq_of_beq_eq_true hq
        exact absurd (hkt.inj _ _ (hmq.inj a1 a x1 y hp'.1 (List.mem_of_getElem? hi) (by rw [e, hcc]))) hp'.2
  have hs2 := hs1.set (d := s) (Nat.le_of_ble_eq_true hsn) (v := .map (some b2)) (a := .mq gen (e7 kf (l.set i (a, none)))) (.mq _ _ _ (by simp [ao]) rfl (fun r hr => by
    have : G1.own gen = some r := hr
    rw [ho1] at this
    cases this
    exact hmq'.to))
  rw [dC hvs] at hs2
  have hlive1 : ∀ g' ∈ gen :: bg lv g, g' ∈ gen :: (gen + 1) :: bg lv g ∧ g' ≠ gen + 1 := fun g' hg' => by
    rcases List.mem_cons.1 hg' with rfl | hg'
    · exact ⟨List.mem_cons_self, by omega⟩
    · obtain ⟨t1, t2⟩ := bR hg'
      obtain ⟨r, hr⟩ := hs.live g' t1
      have := hs.gown g' r hr
      simp only at this
      exact ⟨List.mem_cons_of_mem _ (List.mem_cons_of_mem _ hg'), by omega⟩
  obtain ⟨G2, hs3, hr3⟩ := hs2.uf (g := gen + 1) (b := c) (len := 1) (cap := 1) (sz := y.length) ho2 (es := [y]) (v := .slice (some ⟨c, 0, none⟩) 1 1) ⟨rfl, rfl, rfl, by simp, fun i j e d he hd => by
    cases i with
    | zero =>
      simp only [List.getElem?_cons_zero, Option.some.injEq] at he
      subst he
      have hjl : j < cur.size := by rw [r4]; exact (List.getElem?_eq_some_iff.1 hd).1
      have hcj : cur[j]? = some cur[j] := by simp [hjl]
      refine ⟨cur[j], ?_, (r6 j _ d hcj hd).mono fun b o u hu hp => hle.cell b o u hu hp⟩
      rw [Nat.zero_mul, Nat.zero_add, bj r3, hcj]
    | succ i => simp at he⟩ (gen :: bg lv g) hlive1
  have hbe : jW [y] (1 * y.length - 1 * y.length) = y.map .d := by simp [jW]
  rw [hbe] at hs3
  refine cd h0 ⟨_, ⟨G2, hs3.put (dst := some d) (bL (dst := some d) hd) (.tup _ _ rfl (fun j u x hu hx => ?_))⟩, h⟩
  match j with
  | 0 =>
    simp at hu hx
    subst hu; subst hx
    cases hr3 with
    | sb _ _ _ _ b0 hgg hb0 hnn hp =>
    simp only [Value.slice.injEq, Option.some.injEq, Addr.mk.injEq] at hp
    refine .ptr _ _ _ c (by show gen + 2 < gen + 3; omega) ?_ rfl
    have hb0 : G2.box (gen + 2) = some b0 := hb0
    show G2.box (gen + 2) = some c
    rw [hb0, hp.1.1]
  | 1 => simp at hu hx; subst hu; subst hx; exact .d (.v _ rfl)
  | j + 2 => simp at hx
end
end Go.Ab
namespace Go.Tb
open Go.Ab
structure bz where
  id : Int
  name : ByteArray
deriving DecidableEq
@[reducible] def bz.c (t : bz) : List D := [ci t.id, cs t.name, ci 0]
def bk (p : Int × Int) : List D := [ci p.1, ci p.2]
def bM : List (Int × Int) := [(0, 0)]
@[reducible] def dD (ts : List bz) : List D := [.sl (ts.map bz.c), .sl (bM.map bk), .sl []]
def rh (ts : List bz) : Prop := (∀ t ∈ ts, 0 ≤ t.id ∧ t.id ≤ 1000000000000000 ∧ be t.name = 0) ∧ (ts.map bz.id).Nodup
def cR (ts : List bz) : Int := if ts = [] then 8 else if 64 < ts.length then 7 else 0
structure aK where
  thread : Int
  serial : Int
  lost : Int
  evs : List Ev
@[reducible] def aK.c (p : aK) : List D := [ci p.thread, ci p.serial, ci p.lost, .sl (p.evs.map Ev.c)]
theorem gU {α β : Type} {f : α → β} {l : List α} (h : (l.map f).Nodup) (k : Nat) : ((l.take k).map f).Nodup := by
  rw [List.map_take]
  exact h.sublist (List.take_sublist _ _)
theorem eu {α β : Type} {f : α → β} {l : List α} (h : (l.map f).Nodup) {k : Nat} {x : α} (hx : l[k]? = some x) : f x ∉ (l.take k).map f := by
  intro hm
  obtain ⟨y, hy, e⟩ := List.mem_map.1 hm
  obtain ⟨i, hi⟩ := List.mem_iff_getElem?.1 hy
  have hik : i < k := by
    have := (List.getElem?_eq_some_iff.1 hi).1
    simp at this
    omega
  rw [List.getElem?_take_of_lt hik] at hi
  have hpw := List.pairwise_iff_getElem.1 h
  have h6 : (l.map f)[i]? = some (f y) := by simp [hi]
  have h7 : (l.map f)[k]? = some (f x) := by simp [hx]
  obtain ⟨hj1, hj2⟩ := List.getElem?_eq_some_iff.1 h6
  obtain ⟨hi1, hi2⟩ := List.getElem?_eq_some_iff.1 h7
  exact hpw i k hj1 hi1 hik (by rw [hj2, hi2, e])
abbrev tP (b : Bool) : D := .v (.bool b)
def gr {α : Type} (l : List (α)) (f : α → Int) : List (Int × Bool) := l.map fun t => (f t, true)
theorem hP {α : Type} (l : List α) (f : α → Int) : (gr l f).map (·.1) = l.map f := by unfold gr; rw [List.map_map]; rfl
theorem tR {α : Type} {f : α → Int} {l : List α} (h : (l.map f).Nodup) {k : Nat} {x : α} (hx : l[k]? = some x) : (cH (gr (l.take k) f) (f x)).getD false = false := by
  rw [mc]; rfl
  intro p hp e
  have := eu h hx
  rw [← hP] at this
  exact this (List.mem_map.2 ⟨p, hp, e⟩)
theorem uL {α : Type} {f : α → Int} {l : List α} (h : (l.map f).Nodup) {k : Nat} {x : α} (hx : l[k]? = some x) : bT (gr (l.take k) f) (f x) true = gr (l.take (k + 1)) f := by
  rw [ga]
  · unfold gr
    rw [List.take_add_one, hx, List.map_append]; rfl
  · intro p hp e
    have := eu h hx
    rw [← hP] at this
    exact this (List.mem_map.2 ⟨p, hp, e⟩)
end Go.Tb
namespace Go.Tb
open Go.Ab
@[reducible] def z2 : List D := [ci 0, ci 0]
def tq (ids : List Int) (k : Nat) : List (Int × Option (List D)) := (ids.take k).map (fun a => (a, none)) ++ (ids.drop k).map (fun a => (a, some z2))
def kt (ids : List Int) (k : Nat) : List (Int × Option (List D)) := (ids.take k).map (fun a => (a, some z2))
theorem pz (ids : List Int) (k : Nat) : (kt ids k).map (·.1) = ids.take k := by unfold kt; rw [List.map_map]; exact List.map_id _
theorem xw (ids : List Int) (k : Nat) : (tq ids k).map (·.1) = ids := by
  unfold tq
  rw [List.map_append, List.map_map, List.map_map]
  show List.map id _ ++ List.map id _ = _
  rw [List.map_id, List.map_id, List.take_append_drop]
theorem we {ids : List Int} {k : Nat} {a : Int} (h : ids[k]? = some a) : kt ids k ++ [(a, some z2)] = kt ids (k + 1) := by
  unfold kt
  rw [List.take_add_one, h, List.map_append]; rfl
theorem xo {ids : List Int} {k : Nat} (h : k = ids.length) : kt ids k = tq ids 0 := by
  subst h
  unfold kt tq
  rw [List.take_length, List.take_zero, List.drop_zero]; rfl
theorem xP {ids : List Int} {k : Nat} {a : Int} (h : ids[k]? = some a) : (tq ids k)[k]? = some (a, some z2) := by
  have hk := (List.getElem?_eq_some_iff.1 h).1
  unfold tq
  rw [List.getElem?_append_right (by simp; omega)]
  have : k - ((ids.take k).map (fun a => (a, (none : Option (List D))))).length = 0 := by simp; omega
  rw [this, List.getElem?_map, List.getElem?_drop, Nat.add_zero, h]; rfl
theorem xR {ids : List Int} {k : Nat} {a : Int} (h : ids[k]? = some a) : (tq ids k).set k (a, none) = tq ids (k + 1) := by
  have hk := (List.getElem?_eq_some_iff.1 h).1
  have hd : ids.drop k = a :: ids.drop (k + 1) := by
    rw [List.drop_eq_getElem_cons hk]
    congr 1
    exact (List.getElem?_eq_some_iff.1 h).2
  unfold tq
  rw [List.set_append_right _ _ (by simp; omega)]
  have : k - ((ids.take k).map (fun a => (a, (none : Option (List D))))).length = 0 := by simp; omega
  rw [this, hd, List.take_add_one, h]
  simp
theorem tS {l : List Int} (h : l.Nodup) {k : Nat} {x : Int} (hx : l[k]? = some x) : x ∉ l.take k := by
  have := eu (f := id) (by rw [List.map_id]; exact h) hx
  rwa [List.map_id] at this
end Go.Tb
namespace Go.Ab
open Go.RowKit
section
variable {P : Program} {C : Ctx} {n : Nat} {f : List (Nat × A)} {bx : List (Nat × List A)} {lv : List Nat} {gen : Nat} {ty : TypeId} {pos : String} {af : Array Edge} {dst : Option Nat}
theorem sB {x : Operand} {g j off : Nat} {l : List D} (hx : av f x = some (.xp g j off l)) (hgl : (lv.any fun h => Nat.beq h g) = true) :
    Pu P C n ⟨f, bx, lv, gen⟩ ⟨dst, .nilCheck x, ty, pos, af, none⟩ (.xp g j off l) := by
  refine cA.pu fun G tmps w hs => ?_
  have hr := hs.av hx
  obtain ⟨r, hgr⟩ := hs.live g (cC hgl)
  generalize hv : Act.eval ⟨tmps, []⟩ x = v at hr
  have hr0 := hr
  cases hr with
  | xp _ _ _ _ _ hgg h1 hrow =>
  have hx0 := hrow r hgr
  cases r with
  | nil => exact hx0.elim
  | zero b => exact hx0.elim
  | mp b bs => exact hx0.elim
  | blk b len cap sz pub =>
    obtain ⟨rfl, h2, h3, h4⟩ := hx0
    refine ⟨.pointer (some ⟨b, j * sz + off, none⟩), ?_, hr0⟩
    unfold execOp
    show Sem.run P _ w = .ok _ w
    simp only [hv, Sem.run_bind, Result.andThen_ok, Sem.run_pure]
end
end Go.Ab
namespace Go.Tb
open Go.Ab
def wE (l : List Ev) : Nat → List Ev | 0 => l | _ => []
def zd (l : List Ev) : Nat → D | 0 => .v (.slice none 0 0) | _ => .sl (l.map Ev.c)
def mS (last : Option Int) (t : Int) : Bool := match last with | some u => decide (t < u) | none => false
def dH : List Ev → Option Int → Int
  | [], _ => 0
  | e :: r, last => if cK e ≠ 0 then cK e else if mS last e.time = true then 11 else dH r (some e.time)
def cX : List aK → Int
  | [] => 0
  | p :: r => if dH p.evs none ≠ 0 then dH p.evs none else cX r
def wH (ts : List bz) (ps : List aK) : Prop := ps.map aK.thread = ts.map bz.id ∧ (∀ p ∈ ps, p.serial = 0 ∧ p.lost = 0 ∧ 0 < p.evs.length ∧ p.evs.length ≤ 1000) ∧ (ps.map fun p => p.evs.length).sum ≤ 20000
structure la where
  ts : List bz
  ds : List (Int × Int)
  ps : List aK
@[reducible] def la.c (l : la) : List D := [.sl (l.ts.map bz.c), .sl (l.ds.map bk), .sl [], .sl (l.ps.map aK.c)]
def eQ : la := ⟨[], [], []⟩
end Go.Tb
namespace Go.Tb
open Go.Ab
theorem lW (s : ByteArray) (c : UInt8) : ((aH s c).map ByteArray.size).sum + (aH s c).length = s.size + 1 := by
  have key : ∀ l : List UInt8, ((cB c l).map List.length).sum + (cB c l).length = l.length + 1 := by
    intro l
    induction l with
    | nil => simp [cB]
    | cons b r ih =>
      obtain ⟨h, t, e⟩ := iZ c r
      simp only [cB]
      split
      · simp only [List.map_cons, List.sum_cons, List.length_cons, List.length_nil]; omega
      · rw [e] at ih ⊢
        simp only [List.headD_cons, List.tail_cons, List.map_cons, List.sum_cons, List.length_cons] at ih ⊢
        omega
  have h1 := key s.data.toList
  have h2 : s.data.toList.length = s.size := Array.length_toList
  have h3 : (aH s c).map ByteArray.size = (cB c s.data.toList).map List.length := by
    unfold aH
    rw [List.map_map]
    apply List.map_congr_left
    intro x _
    show (gL x).size = x.length
    exact List.size_toArray
  rw [h3, ← h2, ← h1]
  unfold aH
  rw [List.length_map]
def b6 : List ByteArray → Nat → List (Int × Ev) → Nat × List (Int × Ev)
  | [], _, acc => (0, acc)
  | w :: r, i, acc => if w = B #[] then b6 r (i + 1) acc else if (bc w).e ≠ 0 then (i + 1, []) else b6 r (i + 1) (acc ++ ca (bc w))
def dW : List ByteArray → Nat
  | [] => 0
  | w :: r => (if w = B #[] ∨ (bc w).e ≠ 0 then 0 else (ca (bc w)).length) + dW r
def cS (id : Int) : bz := ⟨id, B #[116] ++ br id⟩
def eT (p : Int × List Ev) : aK := ⟨p.1, 0, 0, p.2⟩
def dK (ts : List bz) (ps : List aK) : la × Int := if cR ts ≠ 0 then (eQ, cR ts) else if cX ps ≠ 0 then (eQ, cX ps) else (⟨ts, bM, ps⟩, 0)
def gT (l : List (Int × Ev)) : la × Int := dK ((cn ([], []) l).1.map cS) ((cn ([], []) l).2.map eT)
structure xJ where
  l : la
  n : Nat
  e : Int
def cT (s : ByteArray) : xJ :=
  if 65536 < s.size then ⟨eQ, 0, 7⟩
  else if (b6 (aH s 10) 0 []).1 ≠ 0 then ⟨eQ, (b6 (aH s 10) 0 []).1, 10⟩
  else ⟨(gT (b6 (aH s 10) 0 []).2).1, 0, (gT (b6 (aH s 10) 0 []).2).2⟩
/-! what a line that is accepted holds -/
def qZ (x : eW) : Prop := (x.word = ey ∧ x.l.length = 2) ∨ (x.word = b8 ∧ x.l.length = 3) ∨ (x.word = fA ∧ x.l.length = 3)
theorem pn : ∀ (l : List ByteArray) (b : Bool), eF l b = true → b = true ∧ ∀ w ∈ l, 0 ≤ nv w ∧ nv w ≤ 1000000000000000
  | [], b, h => ⟨h, by simp⟩
  | w :: r, b, h => by
    simp only [eF] at h
    obtain ⟨h1, h2⟩ := pn r _ h
    simp only [Bool.and_eq_true] at h1
    refine ⟨h1.1, fun x hx => ?_⟩
    rcases List.mem_cons.1 hx with rfl | hx
    · have := h1.2
      unfold aZ at this
      simp only [Bool.and_eq_true, decide_eq_true_eq] at this
      unfold nv aZ
      exact ⟨this.1.2, this.2⟩
    · exact h2 x hx
theorem uX {w : List ByteArray} (h : (eh w).e = 0) : ∃ a b k r, w = a :: b :: k :: r ∧ (r.length : Int) = cntF k ∧ cntF k ≠ 0 ∧ (∀ x ∈ r, 0 ≤ nv x ∧ nv x ≤ 1000000000000000) ∧ eh w = ⟨(aZ a 1000000000000).1, (aZ b 63).1, k, r.map nv, 0⟩ := by
  match w, h with
  | [], h => cases h
  | [_], h => cases h
  | [_, _], h => cases h
  | a :: b :: k :: r, h =>
    simp only [eh] at h
    split at h
    · cases h
    · rename_i h1
      split at h
      · cases h
      · rename_i h2
        refine ⟨a, b, k, r, rfl, Decidable.byContradiction fun q => h1 (.inr q), fun q => h1 (.inl q), ?_, ?_⟩
        · refine (pn r (aZ a 1000000000000).2 ?_).2
          cases q : eF r (aZ a 1000000000000).2 with
          | true => rfl
          | false => exact absurd (.inl q) h2
        · simp only [eh]
          rw [if_neg h1, if_neg h2]
theorem jU {s : ByteArray} (h : (bc s).e = 0) : qZ (bc s) ∧ (∀ x ∈ (bc s).l, 0 ≤ x ∧ x ≤ 1000000000000000) ∧ 4 ≤ s.size := by
  obtain ⟨a, b, k, r, h1, h2, h3, h4, h5⟩ := uX (w := aH s 32) h
  have h5 : bc s = ⟨(aZ a 1000000000000).1, (aZ b 63).1, k, r.map nv, 0⟩ := h5
  rw [h5]
  have hk : (k = ey ∧ r.length = 2) ∨ (k = b8 ∧ r.length = 3) ∨ (k = fA ∧ r.length = 3) := by
    rcases ig k with ⟨q, e⟩ | ⟨q, e⟩ | ⟨q, e⟩ | ⟨_, _, _, e⟩
    · exact .inr (.inl ⟨q, by omega⟩)
    · exact .inr (.inr ⟨q, by omega⟩)
    · exact .inl ⟨q, by omega⟩
    · exact absurd e h3
  refine ⟨?_, fun x hx => ?_, ?_⟩
  · simpa [qZ] using hk
  · obtain ⟨y, hy, rfl⟩ := List.mem_map.1 hx
    exact h4 y hy
  · have := lW s 32
    rw [h1] at this
    simp only [List.map_cons, List.sum_cons] at this
    simp only [List.length_cons] at this
    rcases hk with ⟨_, e⟩ | ⟨_, e⟩ | ⟨_, e⟩ <;> omega
theorem ld (x : eW) : (ca x).length ≤ 2 := by
  unfold ca
  split <;> simp
theorem uk {x : eW} (h : qZ x) (h2 : ∀ y ∈ x.l, 0 ≤ y ∧ y ≤ 1000000000000000) : ∀ p ∈ ca x, 0 ≤ p.1 ∧ p.1 ≤ 1000000000000000 := by
  have hg : ∀ i : Nat, 0 ≤ x.l[i]?.getD 0 ∧ x.l[i]?.getD 0 ≤ 1000000000000000 := fun i => by
    cases q : x.l[i]? with
    | none => simp
    | some y => exact h2 y (List.mem_of_getElem? q)
  intro p hp
  unfold ca at hp
  split at hp
  · simp only [List.mem_singleton] at hp
    subst hp
    exact hg 0
  · simp only [List.mem_cons, List.not_mem_nil, or_false] at hp
    rcases hp with rfl | rfl
    · exact hg 0
    · exact hg 2
theorem oh : ∀ l : List ByteArray, 5 * dW l ≤ 2 * ((l.map ByteArray.size).sum + l.length)
  | [] => by simp [dW]
  | w :: r => by
    have ih := oh r
    simp only [dW, List.map_cons, List.sum_cons, List.length_cons]
    split
    · omega
    · rename_i h
      have h4 := (jU (s := w) (Decidable.byContradiction fun q => h (.inr q))).2.2
      have := ld (bc w)
      omega
theorem js {s : ByteArray} (h : s.size ≤ 2000) : dW (aH s 10) ≤ 1000 := by
  have h1 := oh (aH s 10)
  rw [lW] at h1
  omega
theorem gI : ∀ (l : List ByteArray) (i : Nat) (acc : List (Int × Ev)), (∀ p ∈ acc, 0 ≤ p.1 ∧ p.1 ≤ 1000000000000000) →
    (∀ p ∈ (b6 l i acc).2, 0 ≤ p.1 ∧ p.1 ≤ 1000000000000000) ∧ (b6 l i acc).2.length ≤ acc.length + dW l
  | [], i, acc, h => ⟨h, by simp [b6, dW]⟩
  | w :: r, i, acc, h => by
    simp only [b6, dW]
    split
    · rename_i q
      rw [if_pos (.inl q), Nat.zero_add]
      exact gI r _ acc h
    · rename_i q
      split
      · exact ⟨by simp, by simp⟩
      · rename_i q2
        have q2 : (bc w).e = 0 := Decidable.byContradiction q2
        obtain ⟨h1, h2, _⟩ := jU q2
        rw [if_neg (by rintro (a | a); exact q a; exact a q2)]
        obtain ⟨t1, t2⟩ := gI r (i + 1) (acc ++ ca (bc w)) (fun p hp => (List.mem_append.1 hp).elim (h p) (uk h1 h2 p))
        refine ⟨t1, ?_⟩
        rw [List.length_append] at t2
        omega
/-! the events thread by thread -/
def dG (x : e8) : Prop := x.2.map (·.1) = x.1 ∧ x.1.Nodup ∧ ∀ p ∈ x.2, p.2 ≠ []
theorem vE {l : List (Int × List Ev)} {a : Int} {y : List Ev} {p : Int × List Ev} (hp : p ∈ bT l a y) : p = (a, y) ∨ p ∈ l := by
  induction l with
  | nil => simp [bT] at hp; exact .inl hp
  | cons q r ih =>
    simp only [bT] at hp
    split at hp
    · rcases List.mem_cons.1 hp with h | h
      · exact .inl h
      · exact .inr (List.mem_cons_of_mem _ h)
    · rcases List.mem_cons.1 hp with h | h
      · exact .inr (h ▸ List.mem_cons_self)
      · exact (ih h).imp id (List.mem_cons_of_mem _)
theorem vz {l : List (Int × List Ev)} {a : Int} {y : List Ev} : (bT l a y).map (·.1) = if a ∈ l.map (·.1) then l.map (·.1) else l.map (·.1) ++ [a] := by
  induction l with
  | nil => simp [bT]
  | cons p r ih =>
    simp only [bT]
    by_cases h : p.1 = a
    · rw [if_pos h, if_pos (by simp [h])]
      simp [h]
    · rw [if_neg h, List.map_cons, ih]
      by_cases q : a ∈ r.map (·.1)
      · rw [if_pos q, if_pos (by rw [List.map_cons]; exact List.mem_cons_of_mem _ q)]; rfl
      · rw [if_neg q, if_neg (by rw [List.map_cons, List.mem_cons]; rintro (e | e); exact h e.symm; exact q e)]; rfl
theorem sd {l : List (Int × List Ev)} (h : ∀ p ∈ l, p.2 ≠ []) (a : Int) : (cH l a).getD [] = [] ↔ a ∉ l.map (·.1) := by
  induction l with
  | nil => simp [lV]
  | cons p r ih =>
    rw [cb, List.map_cons, List.mem_cons]
    by_cases q : p.1 = a
    · rw [if_pos q]
      have := h p List.mem_cons_self
      simp [this, q]
    · rw [if_neg q, ih (fun p hp => h p (List.mem_cons_of_mem _ hp))]
      constructor
      · rintro h1 (e | e)
        · exact q e.symm
        · exact h1 e
      · exact fun h1 e => h1 (.inr e)
theorem dG.add {x : e8} (h : dG x) (th : Int) (e : Ev) : dG (dv x th e) := by
  obtain ⟨h1, h2, h3⟩ := h
  unfold dv
  split
  · exact ⟨h1, h2, h3⟩
  · have hm := sd h3 th
    refine ⟨?_, ?_, fun p hp => ?_⟩
    · simp only
      rw [vz, h1]
      by_cases q : (cH x.2 th).getD [] = []
      · rw [if_neg (by rw [← h1]; exact hm.1 q), if_pos q]
      · rw [if_pos (Decidable.byContradiction fun q2 => q (hm.2 (by rw [h1]; exact q2))), if_neg q]
    · simp only
      split
      · rename_i q
        have := hm.1 q
        rw [h1] at this
        rw [List.nodup_append]
        exact ⟨h2, by simp, fun a ha b hb => by simp at hb; subst hb; rintro rfl; exact this ha⟩
      · exact h2
    · rcases vE hp with rfl | hp
      · simp
      · exact h3 p hp
theorem dG.lM : ∀ (l : List (Int × Ev)) {x : e8}, dG x → dG (cn x l)
  | [], _, h => h
  | p :: r, _, h => dG.lM r (h.add p.1 p.2)
theorem rW : dG ([], []) := ⟨rfl, List.nodup_nil, by simp⟩
def dq (m : List (Int × List Ev)) : Nat := (m.map fun p => p.2.length).sum
theorem p9 : ∀ (m : List (Int × List Ev)) (a : Int) (e : Ev), dq (bT m a ((cH m a).getD [] ++ [e])) = dq m + 1
  | [], a, e => by simp [bT, dq, lV]
  | p :: r, a, e => by
    have ih := p9 r a e
    simp only [bT, cb]
    by_cases h : p.1 = a
    · rw [if_pos h, if_pos h]
      simp only [dq, List.map_cons, List.sum_cons, Option.getD_some, List.length_append, List.length_singleton]
      omega
    · rw [if_neg h, if_neg h]
      simp only [dq, List.map_cons, List.sum_cons] at ih ⊢
      omega
theorem uS (x : e8) (th : Int) (e : Ev) : dq (dv x th e).2 ≤ dq x.2 + 1 := by
  unfold dv
  split
  · omega
  · simp only
    rw [p9]
    exact Nat.le_refl _
theorem gM : ∀ (l : List (Int × Ev)) (x : e8), dq (cn x l).2 ≤ dq x.2 + l.length
  | [], x => Nat.le_refl _
  | p :: r, x => by
    have h1 := gM r (dv x p.1 p.2)
    have h2 := uS x p.1 p.2
    show dq (cn (dv x p.1 p.2) r).2 ≤ _
    simp only [List.length_cons]
    omega
theorem jY {m : List (Int × List Ev)} {p : Int × List Ev} (h : p ∈ m) : p.2.length ≤ dq m := by
  induction m with
  | nil => simp at h
  | cons q r ih =>
    simp only [dq, List.map_cons, List.sum_cons] at ih ⊢
    rcases List.mem_cons.1 h with rfl | h
    · omega
    · have := ih h
      omega
theorem iq {m : List (Int × List Ev)} (h : ∀ p ∈ m, p.2 ≠ []) : m.length ≤ dq m := by
  induction m with
  | nil => simp [dq]
  | cons q r ih =>
    have h1 := ih fun p hp => h p (List.mem_cons_of_mem _ hp)
    have h2 := List.length_pos_iff.2 (h q List.mem_cons_self)
    simp only [dq, List.map_cons, List.sum_cons, List.length_cons] at h1 ⊢
    omega
theorem nY (x : e8) (a b : List (Int × Ev)) : cn x (a ++ b) = cn (cn x a) b := List.foldl_append
theorem kL : ∀ (l : List (Int × Ev)) (x : e8), (∀ p ∈ l, 0 ≤ p.1 ∧ p.1 ≤ 1000000000000000) → (∀ a ∈ x.1, 0 ≤ a ∧ a ≤ 1000000000000000) → ∀ a ∈ (cn x l).1, 0 ≤ a ∧ a ≤ 1000000000000000
  | [], _, _, h => h
  | p :: r, x, h1, h => by
    refine kL r (dv x p.1 p.2) (fun q hq => h1 q (List.mem_cons_of_mem _ hq)) fun a ha => ?_
    unfold dv at ha
    split at ha
    · exact h a ha
    · simp only at ha
      split at ha
      · rcases List.mem_append.1 ha with ha | ha
        · exact h a ha
        · simp only [List.mem_singleton] at ha
          subst ha
          exact h1 p List.mem_cons_self
      · exact h a ha
theorem fv.lM {x : e8} (h : dG x) {n : Nat} (ht : dq x.2 ≤ n) : fv n x := by
  obtain ⟨h1, h2, h3⟩ := h
  refine ⟨by rw [h1]; exact h2, ?_, fun p hp => Nat.le_trans (jY hp) ht⟩
  have := iq h3
  have e := congrArg List.length h1
  rw [List.length_map] at e
  omega
theorem yc {id : Int} (h0 : 0 ≤ id) (h1 : id ≤ 1000000000000000) : be (B #[116] ++ br id) = 0 := by
  have hb : aQ (B #[116] ++ br id) = 116 :: bO id.toNat := by
    show (B #[116] ++ br id).data.toList = _
    rw [ByteArray.data_append, Array.toList_append]
    show [116] ++ Lib.itoa id = _
    rw [dP h0]; rfl
  have hsz : (B #[116] ++ br id).size = (bO id.toNat).length + 1 := by
    have : (B #[116] ++ br id).size = (aQ (B #[116] ++ br id)).length := Array.length_toList.symm
    rw [this, hb, List.length_cons]
  have hd := kj id.toNat 19 (by have : (10 : Nat) ^ (19 + 1) = 100000000000000000000 := (by decide); omega)
  unfold be
  rw [if_neg]
  rintro (e | e | e)
  · rw [e] at hsz
    have h0 : (B #[]).size = 0 := rfl
    omega
  · omega
  · rw [hb, List.all_cons] at e
    have : (bO id.toNat).all dd = true := List.all_eq_true.2 fun b hb => by
      have := er _ b hb
      unfold bH at this
      simp only [Bool.and_eq_true, decide_eq_true_eq] at this
      unfold dd
      simp [this]
    rw [this] at e
    exact absurd e (by decide)
theorem uh {x : e8} (h : dG x) (h2 : ∀ a ∈ x.1, 0 ≤ a ∧ a ≤ 1000000000000000) : rh (x.1.map cS) := by
  refine ⟨fun t ht => ?_, ?_⟩
  · obtain ⟨a, ha, rfl⟩ := List.mem_map.1 ht
    exact ⟨(h2 a ha).1, (h2 a ha).2, yc (h2 a ha).1 (h2 a ha).2⟩
  · rw [List.map_map]
    show (x.1.map id).Nodup
    rw [List.map_id]
    exact h.2.1
theorem tg {x : e8} (h : dG x) (ht : dq x.2 ≤ 1000) : wH (x.1.map cS) (x.2.map eT) := by
  refine ⟨?_, fun p hp => ?_, ?_⟩
  · rw [List.map_map, List.map_map]
    show x.2.map (·.1) = x.1.map id
    rw [List.map_id]
    exact h.1
  · obtain ⟨q, hq, rfl⟩ := List.mem_map.1 hp
    exact ⟨rfl, rfl, List.length_pos_iff.2 (h.2.2 q hq), Nat.le_trans (jY hq) ht⟩
  · rw [List.map_map]
    show dq x.2 ≤ 20000
    omega
end Go.Tb
namespace Go.Ab
open Go.RowKit
section
variable {P : Program} [Met P] {C : Ctx} {n : Nat} {Q : Exit → St → Prop} {c : Code}
variable {f : List (Nat × A)} {bx : List (Nat × List A)} {lv lv' : List Nat} {gen gen' : Nat}
omit [Met P] in
theorem Wd.aW {nb : Nat} [hnb : NB C nb] {ι : Type} (V : ι → List (Nat × A)) (fi : List (Nat × A)) (B : ι → List (Nat × List A)) (bi : List (Nat × List A)) (lv' : List Nat) (gen' : Nat) (μ : ι → Nat) (order : List Nat) (i : ι) (ho : fV order gen' nb = true)
    (hf : jk order f (V i)) (hfi : jb f fi) (hb : eZ order bx (B i)) (hbi : gA order bx bi) (hl : lB order lv lv' = true)
    (hr : ∀ i, Wd P C n c (wx C n (fun i => ⟨V i ++ fi, B i ++ bi, lv', gen'⟩) μ (μ i) Q) ⟨V i ++ fi, B i ++ bi, lv', gen'⟩) : Wd P C n (.loop c) Q ⟨f, bx, lv, gen⟩ :=
  Wd.conv (st' := ⟨V i ++ fi, B i ++ bi, lv', gen'⟩) (fun _ _ h => dE.aY order ho hf hfi hb hbi hl h) (Wd.loop (fun i => ⟨V i ++ fi, B i ++ bi, lv', gen'⟩) μ hr i)
theorem Wd.bb {nb : Nat} [hnb : NB C nb] {ι : Type} {V : ι → List (Nat × A)} {fi : List (Nat × A)} {B : ι → List (Nat × List A)} {bi : List (Nat × List A)} {μ : ι → Nat} {m : Nat} (order : List Nat) (i : ι) (hm : μ i < m) (ho : fV order gen' nb = true)
    (hf : jk order f (V i)) (hfi : jb f fi) (hb : eZ order bx (B i)) (hbi : gA order bx bi) (hl : lB order lv lv' = true) :
    wx C n (fun i => ⟨V i ++ fi, B i ++ bi, lv', gen'⟩) μ m Q .normal ⟨f, bx, lv, gen⟩ := ⟨i, hm, fun _ _ h => dE.aY order ho hf hfi hb hbi hl h⟩
variable {st : St} {y : Code} {id : Nat}
omit [Met P] in
theorem iM (hno : im st = true) (h : Wd P C n y Q st) : QN (qt P C n y Q) .normal st := ⟨hno, h⟩
theorem zz (hno : im st = true) (h : Q .normal st) : QN Q .normal st := ⟨hno, h⟩
theorem rV (hno : im st = true) (h : Q .ret st) : QN Q .ret st := ⟨hno, h⟩
theorem xK (hno : im st = true) (h : Q (.exit id) st) : QN Q (.exit id) st := ⟨hno, h⟩
omit [Met P] in
theorem y5 (h : Wd P C n y Q st) : qt P C n y Q .normal st := h
omit [Met P] in
theorem tz (h : Q .ret st) : qt P C n y Q .ret st := h
omit [Met P] in
theorem xy (h : Q (.exit id) st) : qt P C n y Q (.exit id) st := h
theorem wT {ι : Type} {S : ι → St} {μ : ι → Nat} {m : Nat} (h : Q (.exit id) st) : wx C n S μ m Q (.exit id) st := h
def tj (f : List (Nat × A)) (bx : List (Nat × List A)) (gs os : List Nat) : List (Nat × A) → Prop
  | [] => True
  | (t, a') :: r => (∃ a, look f t = some a ∧ cM bx gs os 5 a = a') ∧ tj f bx gs os r
theorem tj.look {gs os : List Nat} : ∀ {V : List (Nat × A)}, tj f bx gs os V → ∀ t a', look V t = some a' → ∃ a, Ab.look f t = some a ∧ cM bx gs os 5 a = a'
  | [], _, t, a', h => by simp [Ab.look] at h
  | (s, b) :: r, ⟨h1, h2⟩, t, a', h => by
    rw [aR] at h
    split at h
    · rename_i e
      subst e
      simp only [Option.some.injEq] at h
      subst h
      exact h1
    · exact tj.look h2 t a' h
def uu (bx : List (Nat × List A)) (o : List Nat) : Nat → List (List A) → Prop
  | _, [] => True
  | i, c :: r => (∃ c0, ak bx i = some c0 ∧ dk o c0 = c) ∧ uu bx o (i + 1) r
theorem uu.get {o : List Nat} : ∀ {b : List (List A)} {j : Nat}, uu bx o j b → ∀ (i : Nat) (c : List A), b[i]? = some c → ∃ c0, ak bx (j + i) = some c0 ∧ dk o c0 = c
  | [], _, _, i, c, h => by simp at h
  | c1 :: r, j, ⟨h1, h2⟩, i, c, h => by
    cases i with
    | zero =>
      simp only [List.getElem?_cons_zero, Option.some.injEq] at h
      subst h
      exact h1
    | succ i =>
      simp only [List.getElem?_cons_succ] at h
      have := uu.get h2 i c h
      rwa [show j + 1 + i = j + (i + 1) by omega] at this
theorem QR.mk' {b1 : List (List A)} {k : Nat} (order : List Nat) (hk : order.length = k) (hnd : nodupB (cN b1.length order) = true) (hov : (order.all fun g => lv.any fun h => Nat.beq h g) = true)
    (hb : uu bx (cN b1.length order) 0 b1) : QR b1 k ⟨f, bx, lv, gen⟩ :=
  QR.mk order hk hnd hov fun i c h => by
    have := hb.get i c h
    rwa [Nat.zero_add] at this
end
end Go.Ab
namespace Go.Tb
open Go.Ab
def cW (s : ByteArray) (most : Int) : Int :=
  if s = B #[] ∨ 16 < s.size ∨ (1 < s.size ∧ (aQ s).head? = some 48) then -1
  else if (aQ s).all bH = false then -1
  else if most < (b7 0 (aQ s) : Int) then -1 else (b7 0 (aQ s) : Int)
theorem rD {s : ByteArray} {most : Int} (hm : most ≤ 1000000000000000) : cW s most = if (aZ s most).2 = true then (aZ s most).1 else -1 := by
  have hp : (10 : Nat) ^ 16 = 10000000000000000 := by decide
  by_cases h : (aZ s most).2 = true
  · rw [if_pos h]
    unfold aZ at h ⊢
    simp only [Bool.and_eq_true, decide_eq_true_eq] at h
    obtain ⟨⟨h1, h2⟩, h3⟩ := h
    obtain ⟨hi, hs⟩ := sY (s := s) (v := (du s).1) (by rw [← h1])
    generalize (du s).1 = v at hs hi h2 h3 ⊢
    have hb : aQ s = bO v.toNat := by rw [hs]; show Lib.itoa v = _; exact dP h2
    have hl := kj v.toNat 15 (by omega)
    have hsz : s.size = (bO v.toNat).length := by rw [← hb]; exact Array.length_toList.symm
    have hacc : (b7 0 (aQ s) : Int) = v := by rw [hb, ua]; omega
    have hne : s ≠ B #[] := fun e => by
      rw [e] at hb
      exact eb _ hb.symm
    have hlead : ¬ (1 < s.size ∧ (aQ s).head? = some 48) := by
      rintro ⟨q1, q2⟩
      have hz : v.toNat = 0 := by
        rw [hb] at q2
        revert q2 
        generalize v.toNat = u
        refine gl (p := fun u => (bO u).head? = some 48 → u = 0) (fun u h hz => ?_) (fun u h ih hz => ?_) u
        · rw [b5 h] at hz
          simp only [List.head?_cons, Option.some.injEq] at hz
          have := gm h
          rw [hz] at this
          have e : (48 : UInt8).toNat = 48 := rfl
          omega
        · rw [dO h] at hz
          have : (bO (u / 10)).head? = some 48 := by
            cases hd : bO (u / 10) with
            | nil => exact absurd hd (eb _)
            | cons a r => rw [hd] at hz; exact hz
          have := ih this
          omega
      rw [hz, b5 (by decide)] at hsz
      simp at hsz
      omega
    unfold cW
    rw [if_neg (by rintro (q | q | q); exact hne q; omega; exact hlead q), if_neg, if_neg (by omega), hacc]
    rw [hb]
    have := List.all_eq_true.2 (er v.toNat)
    rw [this]
    decide
  · rw [if_neg h]
    unfold cW
    split
    · rfl
    · rename_i h1
      split
      · rfl
      · rename_i h2
        split
        · rfl
        · rename_i h3
          exfalso
          apply h
          have hne : aQ s ≠ [] := fun e => h1 (.inl (by
            have : s = ⟨(aQ s).toArray⟩ := by cases s; rfl
            rw [this, e]))
          have hd : ∀ b ∈ aQ s, bH b = true := by
            have : (aQ s).all bH = true := by cases q : (aQ s).all bH with
              | true => rfl
              | false => exact absurd q h2
            exact List.all_eq_true.1 this
          have hbl : (aQ s).length = s.size := Array.length_toList
          have hdig := (wh _ (aQ s) rfl hne hd (fun q e => h1 (.inr (.inr ⟨by omega, e⟩)))).1
          have hs : s = br (b7 0 (aQ s) : Int) := by
            show s = ⟨(Lib.itoa (b7 0 (aQ s) : Int)).toArray⟩
            rw [jM, hdig]
            cases s; rfl
          have hin : fb (b7 0 (aQ s) : Int) = true := by
            simp only [fb, Bool.and_eq_true, decide_eq_true_eq]
            omega
          have hn : du s = ((b7 0 (aQ s) : Int), true) := by
            conv => lhs; rw [hs]
            exact mg hin
          unfold aZ
          rw [hn]
          simp only [Bool.and_eq_true, decide_eq_true_eq, true_and]
          omega
theorem gh {s : ByteArray} {most : Int} (hm : most ≤ 1000000000000000) : decide (0 ≤ cW s most) = (aZ s most).2 := by
  rw [rD hm]
  cases h : (aZ s most).2 with
  | true =>
    have : 0 ≤ (aZ s most).1 := by
      unfold aZ at h ⊢
      simp only [Bool.and_eq_true, decide_eq_true_eq] at h
      exact h.1.2
    simp [this]
  | false => simp
theorem iA {s : ByteArray} {most : Int} (hm : most ≤ 1000000000000000) (h : (aZ s most).2 = true) : cW s most = (aZ s most).1 := by rw [rD hm, if_pos h]
theorem iQ : ∀ (l : List ByteArray) (b : Bool), eF l b = (b && l.all fun w => (aZ w 1000000000000000).2)
  | [], b => by simp [eF]
  | w :: r, b => by rw [eF, iQ r, List.all_cons, Bool.and_assoc]
def lU (k : ByteArray) : Int := if k = b8 ∨ k = fA then 3 else if k = ey then 2 else -1
theorem qq (k : ByteArray) : lU k = if cntF k = 0 then -1 else cntF k := by
  unfold lU
  rcases ig k with ⟨q, e⟩ | ⟨q, e⟩ | ⟨q, e⟩ | ⟨q1, q2, q3, e⟩
  · rw [if_pos (.inl q), e]; rfl
  · rw [if_pos (.inr q), e]; rfl
  · rw [if_neg (by rw [q]; decide), if_pos q, e]; rfl
  · rw [if_neg (by rintro (h | h); exact q1 h; exact q2 h), if_neg q3, e]; rfl
end Go.Tb
namespace Go.Tb
open Go.Ab
abbrev nq (w : ByteArray) : Int := cW w 1000000000000000
abbrev nl (w : ByteArray) : Bool := (aZ w 1000000000000000).2
theorem oT : ∀ {r : List ByteArray}, r.all nl = true → r.map nv = r.map nq
  | [], _ => rfl
  | w :: r, h => by
    rw [List.all_cons, Bool.and_eq_true] at h
    rw [List.map_cons, List.map_cons, oT h.2, show nq w = nv w from iA (by decide) h.1]
theorem xY (r : List ByteArray) : (r.all fun w => decide (0 ≤ nq w)) = r.all nl := by
  induction r with
  | nil => rfl
  | cons w r ih => rw [List.all_cons, List.all_cons, ih, show decide (0 ≤ nq w) = nl w from gh (by decide)]
def mF (w : List ByteArray) : eW :=
  match w with
  | a :: b :: k :: r =>
    if cntF k = 0 ∨ (r.length : Int) ≠ cntF k then cQ
    else if (decide (0 ≤ cW a 1000000000000) && decide (0 ≤ cW b 63) && r.all fun w => decide (0 ≤ nq w)) = true ∧ ¬ (k = b8 ∧ ¬ ((r.map nq)[1]?.getD 0 ∈ [(0 : Int), 1, 3])) then ⟨cW a 1000000000000, cW b 63, k, r.map nq, 0⟩
    else cQ
  | _ => cQ
theorem xG (w : List ByteArray) : eh w = mF w := by
  match w with
  | [] => rfl
  | [_] => rfl
  | [_, _] => rfl
  | a :: b :: k :: r =>
    simp only [eh, mF]
    by_cases h1 : cntF k = 0 ∨ (r.length : Int) ≠ cntF k
    · rw [if_pos h1, if_pos h1]
    · rw [if_neg h1, if_neg h1, gh (by decide), gh (by decide), xY, iQ]
      cases ha : (aZ a 1000000000000).2 with
      | false => rw [if_pos (.inl rfl), if_neg (by simp)]
      | true =>
        cases hb : (aZ b 63).2 with
        | false => rw [if_pos (.inr (.inl rfl)), if_neg (by simp)]
        | true =>
          cases hr : r.all nl with
          | false => rw [if_pos (.inl rfl), if_neg (by simp)]
          | true =>
            have hm : (r.map fun w => (aZ w 1000000000000000).1) = r.map nq := oT hr
            rw [hm, iA (by decide) ha, iA (by decide) hb]
            by_cases hk : k = b8 ∧ ¬ ((r.map nq)[1]?.getD 0 ∈ [(0 : Int), 1, 3])
            · rw [if_pos (.inr (.inr hk)), if_neg (fun h => h.2 hk)]
            · rw [if_neg, if_pos ⟨rfl, hk⟩]
              rintro (e | e | e)
              · cases e
              · cases e
              · exact hk e
theorem q9 (s : ByteArray) : bc s = mF (aH s 32) := xG _
def mn : List ByteArray → Nat → List (Int × Ev) → Nat × List (Int × Ev)
  | [], _, acc => (0, acc)
  | w :: r, i, acc => if w = B #[] then mn r (i + 1) acc else if (mF (aH w 32)).e ≠ 0 then (i + 1, []) else mn r (i + 1) (acc ++ ca (mF (aH w 32)))
theorem jZ : ∀ (l : List ByteArray) (i : Nat) (acc : List (Int × Ev)), b6 l i acc = mn l i acc
  | [], _, _ => rfl
  | w :: r, i, acc => by
    simp only [b6, mn]
    rw [jZ r, jZ r, q9]
abbrev sa : ByteArray := B #[53, 32, 48, 32, 115, 119, 105, 116, 99, 104, 32, 48, 32, 48, 32, 55]
abbrev wv : ByteArray := B #[53, 32, 48, 32, 119, 97, 107, 101, 32, 55, 32, 56]
abbrev rS : ByteArray := B #[49, 32, 48, 32, 119, 97, 107, 101, 32, 55, 32, 56, 10, 10, 120]
theorem uc : cT sa = ⟨⟨[cS 7], bM, [⟨7, 0, 0, [gK 5 0]⟩]⟩, 0, 0⟩ := by
  have h : b6 (aH sa 10) 0 [] = (0, [(0, iY 5 0 0), (7, gK 5 0)]) := by rw [jZ]; kernel_rfl
  unfold cT
  rw [if_neg (by decide), h]
  show (⟨(gT [(0, iY 5 0 0), (7, gK 5 0)]).1, 0, (gT [(0, iY 5 0 0), (7, gK 5 0)]).2⟩ : xJ) = _
  have e : gT [(0, iY 5 0 0), (7, gK 5 0)] = (⟨[cS 7], bM, [⟨7, 0, 0, [gK 5 0]⟩]⟩, 0) := by kernel_rfl
  rw [e]
theorem sn : bc wv = ⟨5, 0, ey, [7, 8], 0⟩ := by rw [q9]; kernel_rfl
theorem tY : cT rS = ⟨eQ, 3, 10⟩ := by
  have h : b6 (aH rS 10) 0 [] = (3, []) := by rw [jZ]; kernel_rfl
  unfold cT
  rw [if_neg (by decide), h]; rfl
theorem yP : (cS 7).name = B #[116, 55] := by
  have : br 7 = B #[55] := by
    show (⟨(Lib.itoa 7).toArray⟩ : ByteArray) = _
    rw [dP (by decide), show (7 : Int).toNat = 7 from rfl, b5 (by decide)]; rfl
  show B #[116] ++ br 7 = _
  rw [this]; decide
end Go.Tb
namespace Go.Tb
open Go.Ab
def cJ (l : List Int) : List Int := l.foldl (fun acc x => if x ∈ acc then acc else acc ++ [x]) []
theorem gO (l : List Int) (x : Int) : cJ (l ++ [x]) = if x ∈ cJ l then cJ l else cJ l ++ [x] := by unfold cJ; rw [List.foldl_append]; rfl
theorem ll {α : Type} {p : List α → Prop} (h0 : p []) (h1 : ∀ l a, p l → p (l ++ [a])) : ∀ l, p l := fun l => by
  have : ∀ l : List α, p l.reverse := fun l => by
    induction l with
    | nil => exact h0
    | cons a r ih => rw [List.reverse_cons]; exact h1 _ _ ih
  have h := this l.reverse
  rwa [List.reverse_reverse] at h
theorem pF (l : List Int) : ∀ x, x ∈ cJ l ↔ x ∈ l := by
  refine ll (p := fun l => ∀ x, x ∈ cJ l ↔ x ∈ l) (by simp [cJ]) (fun l a ih x => ?_) l
  rw [gO]
  split
  · rename_i h
    rw [List.mem_append, ih]
    constructor
    · exact .inl
    · rintro (h1 | h1)
      · exact h1
      · simp only [List.mem_singleton] at h1
        subst h1
        exact (ih x).1 h
  · rw [List.mem_append, List.mem_append, ih]
theorem sE (l : List Int) : (cJ l).Nodup := by
  refine ll (p := fun l => (cJ l).Nodup) List.nodup_nil (fun l a ih => ?_) l
  rw [gO]
  split
  · exact ih
  · rename_i h
    rw [List.nodup_append]
    exact ⟨ih, by simp, fun x hx y hy => by simp at hy; subst hy; rintro rfl; exact h hx⟩
theorem pM {F : Int → List Ev} : ∀ (keys : List Int) (a : Int), cH (keys.map fun k => (k, F k)) a = if a ∈ keys then some (F a) else none
  | [], a => by simp [lV]
  | k :: r, a => by
    rw [List.map_cons, cb, pM r a]
    by_cases h : k = a
    · subst h; simp
    · have : a ≠ k := fun e => h e.symm
      simp [h, this]
theorem ql {F : Int → List Ev} : ∀ (keys : List Int) (a : Int) (y : List Ev), keys.Nodup →
    bT (keys.map fun k => (k, F k)) a y = if a ∈ keys then keys.map (fun k => (k, if k = a then y else F k)) else keys.map (fun k => (k, F k)) ++ [(a, y)]
  | [], a, y, _ => by simp [bT]
  | k :: r, a, y, hn => by
    rw [List.nodup_cons] at hn
    have ih := ql (F := F) r a y hn.2
    rw [List.map_cons, bT]
    by_cases h : k = a
    · subst h
      simp only [if_true, List.mem_cons, true_or, List.map_cons, List.cons.injEq, true_and]
      refine List.map_congr_left fun x hx => ?_
      have : x ≠ k := fun e => hn.1 (e ▸ hx)
      simp [this]
    · have h2 : a ≠ k := fun e => h e.symm
      simp only [h, if_false, ih, List.mem_cons, h2, false_or, List.map_cons]
      split
      · rfl
      · rfl
def bE (l : List (Int × Ev)) : List (Int × Ev) := l.filter fun p => decide (p.1 ≠ 0)
def dZ (l : List (Int × Ev)) (k : Int) : List Ev := (l.filter fun p => decide (p.1 = k)).map (·.2)
theorem ir (l : List (Int × Ev)) (p : Int × Ev) (k : Int) : dZ (l ++ [p]) k = if k = p.1 then dZ l k ++ [p.2] else dZ l k := by
  unfold dZ
  rw [List.filter_append, List.map_append]
  by_cases h : k = p.1
  · subst h; simp
  · have : p.1 ≠ k := fun e => h e.symm
    simp [h, this]
theorem vM {l : List (Int × Ev)} {k : Int} (h : k ∉ l.map (·.1)) : dZ l k = [] := by
  unfold dZ
  rw [List.filter_eq_nil_iff.2]; rfl
  intro p hp
  simp only [decide_eq_true_eq]
  exact fun e => h (List.mem_map.2 ⟨p, hp, e⟩)
theorem vI {l : List (Int × Ev)} {k : Int} (h : k ∈ l.map (·.1)) : dZ l k ≠ [] := by
  obtain ⟨p, hp, rfl⟩ := List.mem_map.1 h
  unfold dZ
  intro e
  have : p.2 ∈ (l.filter fun q => decide (q.1 = p.1)).map (·.2) := List.mem_map.2 ⟨p, List.mem_filter.2 ⟨hp, by simp⟩, rfl⟩
  rw [e] at this
  simp at this
theorem nH {l : List (Int × Ev)} {k : Int} : dZ l k = [] ↔ k ∉ cJ (l.map (·.1)) := by
  rw [pF]
  constructor
  · exact fun h h2 => vI h2 h
  · exact vM
theorem group (l : List (Int × Ev)) : (cn ([], []) l).1 = cJ ((bE l).map (·.1)) ∧ (cn ([], []) l).2 = (cJ ((bE l).map (·.1))).map fun k => (k, dZ (bE l) k) := by
  refine ll (p := fun l => (cn ([], []) l).1 = cJ ((bE l).map (·.1)) ∧ (cn ([], []) l).2 = (cJ ((bE l).map (·.1))).map fun k => (k, dZ (bE l) k)) ⟨rfl, rfl⟩ (fun l p ih => ?_) l
  obtain ⟨h1, h2⟩ := ih
  rw [nY]
  show (dv (cn ([], []) l) p.1 p.2).1 = _ ∧ (dv (cn ([], []) l) p.1 p.2).2 = _
  unfold dv
  by_cases h0 : p.1 = 0
  · have e : bE (l ++ [p]) = bE l := by unfold bE; rw [List.filter_append]; simp [h0]
    rw [if_pos h0, e]
    exact ⟨h1, h2⟩
  · have e : bE (l ++ [p]) = bE l ++ [p] := by unfold bE; rw [List.filter_append]; simp [h0]
    rw [if_neg h0, e, List.map_append]
    show _ = cJ ((bE l).map (·.1) ++ [p.1]) ∧ _ = (cJ ((bE l).map (·.1) ++ [p.1])).map _
    rw [gO]
    simp only
    rw [h1, h2, pM, ql _ _ _ (sE _)]
    by_cases q : p.1 ∈ cJ ((bE l).map (·.1))
    · have hne : dZ (bE l) p.1 ≠ [] := fun e => nH.1 e q
      rw [if_pos q, if_pos q, if_pos q]
      simp only [Option.getD_some]
      rw [if_neg hne]
      refine ⟨rfl, List.map_congr_left fun k _ => ?_⟩
      rw [ir]
      by_cases hk : k = p.1
      · subst hk; simp
      · simp [hk]
    · rw [if_neg q, if_neg q, if_neg q]
      simp only [Option.getD_none, if_true, List.nil_append, true_and]
      rw [List.map_append]
      congr 1
      · refine List.map_congr_left fun k hk => ?_
        have : k ≠ p.1 := fun e => q (e ▸ hk)
        rw [ir, if_neg this]
      · simp only [List.map_cons, List.map_nil, List.cons.injEq, and_true, Prod.mk.injEq, true_and]
        rw [ir, if_pos rfl, nH.2 q]; rfl
end Go.Tb
namespace Go.Tb
open Go.Ab
theorem xe {s : ByteArray} {k : Nat} (hs : s.size ≤ 65536) (h : b6 (aH s 10) 0 [] = (k + 1, [])) : cT s = ⟨eQ, k + 1, 10⟩ := by
  unfold cT
  rw [if_neg (by omega), h, if_pos (by simp)]
theorem uR {s : ByteArray} {acc : List (Int × Ev)} (hs : s.size ≤ 65536) (h : b6 (aH s 10) 0 [] = (0, acc)) : cT s = ⟨(gT acc).1, 0, (gT acc).2⟩ := by
  unfold cT
  rw [if_neg (by omega), h, if_neg (by simp)]
end Go.Tb
namespace Go.Tb
open Go.Ab
theorem rA {ts : List bz} {ps : List aK} (h : (dK ts ps).2 ≠ 0) : (dK ts ps).1 = eQ := by
  unfold dK at h ⊢
  split
  · rfl
  · split
    · rfl
    · rename_i h1 h2
      rw [if_neg h1, if_neg h2] at h
      exact absurd rfl h
theorem xH {ts : List bz} {ps : List aK} (h : (dK ts ps).2 = 0) : (dK ts ps).1 = ⟨ts, bM, ps⟩ := by
  unfold dK at h ⊢
  split
  · rename_i h1
    rw [if_pos h1] at h
    exact absurd h h1
  · rename_i h1
    rw [if_neg h1] at h
    split
    · rename_i h2
      rw [if_pos h2] at h
      exact absurd h h2
    · rfl
theorem pq (a b : List (Int × Ev)) : bE (a ++ b) = bE a ++ bE b := by unfold bE; rw [List.filter_append]
theorem pO {α : Type} {f : α → Nat} {l : List α} {k : Nat} {x : α} (hx : l[k]? = some x) : ((l.take (k + 1)).map f).sum = ((l.take k).map f).sum + f x := by
  rw [List.take_add_one, hx, List.map_append]
  simp
theorem qG {α : Type} {f : α → Nat} (l : List α) (k : Nat) : ((l.take k).map f).sum ≤ (l.map f).sum := by
  have h := congrArg (fun x => (x.map f).sum) (List.take_append_drop k l)
  simp only [List.map_append, List.sum_append] at h
  omega
end Go.Tb
namespace Go.Ab
open Go.RowKit
section
variable {P : Program} {C : Ctx} {n : Nat} {Q : Exit → St → Prop} {c : Code}
variable {f : List (Nat × A)} {bx : List (Nat × List A)} {lv : List Nat} {gen : Nat}
theorem rz (g j : Nat) {cells cells' : List A} {g2 : Nat} {es : List (List D)} (hb : ak bx g = some cells) (hj : cells[j]? = some (.own g2 es)) (hc : cells.set j (.d (.sl es)) = cells') (h : W P C n c Q ⟨f, (g, cells') :: bx, lv, gen⟩) : W P C n c Q ⟨f, bx, lv, gen⟩ := by
  subst hc
  intro tmps w ⟨G, hs⟩
  refine h tmps w ⟨G, hs.nf hb (by simp) fun b cs T h1 h2 h3 i x a hx ha => ?_⟩
  by_cases e : j = i
  · subst e
    have hlt : j < cells.length := (List.getElem?_eq_some_iff.1 hj).1
    rw [List.getElem?_set_self hlt] at ha
    simp only [Option.some.injEq] at ha
    subst ha
    have := h3 j x _ hx hj
    cases this with | own _ _ _ hd _ _ => exact .d hd
  · rw [List.getElem?_set_ne e] at ha
    exact h3 i x a hx ha
end
theorem ub (o : List Nat) (k : Nat) : dk o (List.replicate k A.any) = List.replicate k A.any := by
  rw [dA, List.map_replicate]; rfl
end Go.Ab
namespace Go.Tb
open Go.Ab
def mh (th : Int) (g : Nat) (E : List Ev) (k : Nat) : List A := .d (ci th) :: .d (ci 0) :: .d (ci 0) :: .own g (E.map Ev.c) :: List.replicate k .any
theorem w7 {o : List Nat} {th : Int} {g i : Nat} {E : List Ev} {k : Nat} (h : pos o g = some i) : dk o (mh th g E k) = mh th i E k := by
  unfold mh
  simp only [dk, ub, Ab.aY, h]
theorem jC {o : List Nat} {bx : List (Nat × List A)} {q i j g g2 : Nat} {th : Int} {E : List Ev} {k : Nat} (ho : o[q]? = some j) (hb : ak bx j = some (mh th g E k)) (hp : pos o g = some g2) (hi : i = q) : eZ o bx [(i, mh th g2 E k)] := by
  subst hi
  refine ⟨?_, trivial⟩
  rw [ho]
  simp only
  rw [hb]
  simp only
  rw [w7 hp]
def tX (th : Int) (E : List Ev) : List aK := match E with | [] => [] | _ :: _ => [⟨th, 0, 0, E⟩]
theorem rb {th : Int} {E : List Ev} (h : E ≠ []) : tX th E = [⟨th, 0, 0, E⟩] := by
  cases E with
  | nil => exact absurd rfl h
  | cons e r => rfl
end Go.Tb
namespace Go.Ab
open Go.RowKit
section
variable {P : Program} {C : Ctx} {n : Nat} {Q : Exit → St → Prop} {c : Code} {ops : Array Oper} {rest : List Oper} {o : Oper}
variable {f f' : List (Nat × A)} {bx : List (Nat × List A)} {lv : List Nat} {gen : Nat}
theorem x3 (s2 : Nat) (hsn2 : Nat.blt s2 n = true)
    (h : W P C n c Q ⟨(s2, .ow gen [] (.slice none 0 0)) :: f, bx, gen :: lv, gen + 1⟩) : W P C n c Q ⟨f, bx, lv, gen⟩ := by
  intro tmps w ⟨G, hs⟩
  obtain ⟨⟨G', _, hs', hv'⟩⟩ := hs.jy false lv (fun _ h => h)
  refine h tmps w ⟨G', ?_⟩
  have hlt : s2 < tmps.size := by rw [hs.size]; exact Nat.le_of_ble_eq_true hsn2
  have hv2 : tmps[s2]? = some tmps[s2] := by simp [hlt]
  have hv' : aA (ao C G' (gen + 1) w) (.slice none 0 0) (.own gen []) := hv'
  cases hv' with
  | own _ _ _ hd hg hrow =>
  have h1 := hs'.set (d := s2) (Nat.le_of_ble_eq_true hsn2) (v := tmps[s2]) (a := .ow gen [] (.slice none 0 0)) (.ow _ _ gen [] hd hg hrow)
  rwa [dC hv2] at h1
end
end Go.Ab
namespace Go.Ab
theorem lq {P : Program} {C : Ctx} {n : Nat} {st : St} {o : Oper} {a a' : A} (h : Pu P C n st o a) (ha : Ab.eD a = a') : Pu P C n st o a' := by
  subst ha
  intro G tmps w hs
  exact (h G tmps w hs).mono fun v' w' ⟨h1, h2⟩ => ⟨h1, h2.eD⟩
end Go.Ab
