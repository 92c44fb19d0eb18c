import Derived.Test.YtpkfchdnpdcenaaDoorQ2
import Derived.Lib.AppendStr
import Derived.Lib.Builder
import Derived.Lib.UnsafeStr
import Derived.Laws.Slices
/- Bytes being gathered: named, appended to, asked for their number. -/
namespace Go.Ab
open Go.RowKit

def bd (c : UInt8) : List D := [.v (.int .u8 c.toNat)]
def bds (s : ByteArray) : List (List D) := s.data.toList.map bd
theorem bds_len (s : ByteArray) : (bds s).length = s.size := by rw [bds, List.length_map, Array.length_toList]; rfl
theorem bds_one {s : ByteArray} : ∀ (e : List D), e ∈ bds s → e.length = 1 := by
  intro e he
  obtain ⟨c, _, rfl⟩ := List.mem_map.1 he
  rfl
theorem bds_hr {arr : Array Value} {s : ByteArray} {w : World} {pv : Nat → Nat → Prop} (h : ∀ (i : Nat) (c : UInt8), s.data[i]? = some c → arr[i]? = some (.int .u8 c.toNat)) :
    ∀ (i j : Nat) (e : List D) (d : D), (bds s)[i]? = some e → e[j]? = some d → ∃ u, arr[i * 1 + j]? = some u ∧ RepD w pv u d := by
  intro i j e d hi hj
  simp only [bds, List.getElem?_map, Option.map_eq_some_iff] at hi
  obtain ⟨c, hc, rfl⟩ := hi
  match j with
  | 0 =>
    simp [bd] at hj
    subst hj
    refine ⟨_, by rw [Nat.mul_one, Nat.add_zero]; exact h i c (by simpa using hc), .v _ ?_⟩
    have := c.toNat_lt
    simp [okc, IntKind.min, IntKind.max, IntKind.signed, IntKind.bits]
    omega
  | j + 1 => simp [bd] at hj
theorem strCells_get {s : ByteArray} {i : Nat} {c : UInt8} (h : s.data[i]? = some c) : (Lib.strCells s)[i]? = some (.int .u8 c.toNat) := by
  simp only [Lib.strCells, List.getElem?_map, Array.getElem?_toList, h, Option.map_some]
theorem strCells_cat (a b : ByteArray) : Lib.strCells (a ++ b) = Lib.strCells a ++ Lib.strCells b := by simp [Lib.strCells]
theorem size_cat (a b : ByteArray) : (a ++ b).size = a.size + b.size := by simp [ByteArray.size_append]

/-- gathered bytes as an exclusive slice -/
theorem RowB.toX {w : World} {pv : Nat → Nat → Prop} {r : Row} {v : Value} {T : Nat} {s : ByteArray} (h : RowB w r v T s) : RowX w pv r v (bds s) := by
  cases r with
  | nil => exact ⟨h.1, List.eq_nil_of_length_eq_zero (by rw [bds_len]; exact h.2)⟩
  | zero b => exact h.elim
  | mp b => exact h.elim
  | blk b len cap sz pub =>
    obtain ⟨h1, h2, h3, h4, _, h6⟩ := h
    subst h3
    refine ⟨h1, by rw [bds_len]; exact h2, h4, bds_one, fun i j e d hi hj => ?_⟩
    obtain ⟨u, hu, hd⟩ := bds_hr (arr := ⟨Lib.strCells s⟩) (w := w) (pv := pv) (fun i c hc => by simpa using strCells_get hc) i j e d hi hj
    simp only [bds, List.getElem?_map, Option.map_eq_some_iff] at hi
    obtain ⟨c, hc, rfl⟩ := hi
    match j with
    | 0 =>
      have e1 : (Lib.strCells s)[i]? = some (.int .u8 c.toNat) := strCells_get (by simpa using hc)
      have e2 : u = .int .u8 c.toNat := by
        have : (Lib.strCells s)[i]? = some u := by simpa using hu
        rw [e1] at this
        exact (Option.some.inj this).symm
      subst e2
      refine ⟨_, ?_, hd⟩
      rw [Nat.mul_one, Nat.add_zero]
      exact h6 i c (by simpa using hc)
    | j + 1 => simp [bd] at hj

theorem xs_bf {E : En} {v : Value} {g T : Nat} {s : ByteArray} (h : Rep E v (.xs g (bds s))) (hT : v = .slice none 0 0 ∨ ∃ b n c cs f, v = .slice (some ⟨b, 0, none⟩) n c ∧ 0 < n ∧ E.w.heap[b]? = some (.cells cs T f)) : Rep E v (.bf g T s) := by
  cases h with
  | xs _ _ _ hg h1 h =>
  refine .bf v g T s hg h1 fun r hr => ?_
  have hx := h r hr
  cases r with
  | nil => exact ⟨hx.1, by rw [← bds_len, hx.2]; rfl⟩
  | zero b =>
    obtain ⟨h2, h3⟩ := hx
    rcases hT with hT | ⟨b', n, c, cs, f, hT, hn, _⟩
    · rw [hT] at h2; cases h2
    · rw [hT] at h2; simp only [Value.slice.injEq] at h2; omega
  | mp b => exact hx.elim
  | blk b len cap sz pub =>
    obtain ⟨h2, h3, h4, h5, h6⟩ := hx
    rcases hT with hT | ⟨b', n, c, cs, f, hT, hn, hT2⟩
    · rw [hT] at h2; cases h2
    · rw [hT] at h2
      simp only [Value.slice.injEq, Option.some.injEq, Addr.mk.injEq, and_true] at h2
      obtain ⟨rfl, rfl, rfl⟩ := h2
      have hsz : sz = 1 := by
        have h0 : 0 < (bds s).length := by omega
        rw [← h5 _ (List.getElem_mem h0), bds_one _ (List.getElem_mem h0)]
      subst hsz
      refine ⟨hT, by rw [← bds_len]; exact h3, rfl, h4, ⟨cs, f, hT2⟩, fun i c' hc => ?_⟩
      obtain ⟨u, h7, h8⟩ := h6 i 0 (bd c') (.v (.int .u8 c'.toNat)) (by simp only [bds, List.getElem?_map, Array.getElem?_toList, hc, Option.map_some]) rfl
      cases h8
      rw [Nat.mul_one, Nat.add_zero] at h7
      exact h7

/-- what the runs of an append of bytes are -/
structure AppB (P : Program) (w : World) (A : Array TypeId) (ty : TypeId) (x2 : Value) (m : ByteArray) (T : TypeId) : Prop where
  emp : m.size = 0 → (Builtin.append_ A ty #[.slice none 0 0, x2]).run P w = .ok (.slice none 0 0) w
  new : 0 < m.size → (Builtin.append_ A ty #[.slice none 0 0, x2]).run P w = .ok (.slice (some ⟨w.heap.size, 0, none⟩) m.size (grownCap w m.size 0 T))
    (w.drew.alloc (.cells ((Lib.strCells m).toArray ++ Builtin.zeroCells (Value.int .u8 0).cells (grownCap w m.size 0 T - m.size)) T))
  room : ∀ (b n cap : Nat) (cur : Array Value), w.heap[b]? = some (.cells cur T (0, 0)) → n + m.size ≤ cap → n + m.size ≤ cur.size →
    (Builtin.append_ A ty #[.slice (some ⟨b, 0, none⟩) n cap, x2]).run P w = .ok (.slice (some ⟨b, 0, none⟩) (n + m.size) cap) (w.setRow b (cur.toList.take n ++ Lib.strCells m ++ cur.toList.drop (n + m.size)).toArray)
  grow : ∀ (b n cap : Nat) (olds : List Value), olds.length = n → (∀ j u, olds[j]? = some u → w.cell? ((⟨b, 0, none⟩ : Addr).add j) = some u) → cap < n + m.size → n + m.size ≤ 140737488355328 →
    (Builtin.append_ A ty #[.slice (some ⟨b, 0, none⟩) n cap, x2]).run P w = .ok (.slice (some ⟨w.heap.size, 0, none⟩) (n + m.size) (grownCap w (n + m.size) cap T))
      (w.drew.alloc (.cells (olds.toArray ++ (Lib.strCells m).toArray ++ Builtin.zeroCells (Value.int .u8 0).cells (grownCap w (n + m.size) cap T - (n + m.size))) T))

theorem AppB.string {P : Program} {w : World} {t u ty T : TypeId} {i : TypeInfo} (ht : P.underlying t = some (.slice T)) (hu : P.underlying u = some .string) (hi : P.info? T = some i) (hz : i.zero = some (.int .u8 0)) (hs : i.size = 1) (hb : i.bytes = 1) {m : ByteArray} (hm : m.size ≤ 140737488355328) :
    AppB P w #[t, u] ty (.string m) m T := by
  refine ⟨fun h0 => ?_, fun h0 => ?_, fun b n cap cur hc h1 h2 => Lib.run_append_room_string (P := P) w t u ty T i ht hu hi hs b n cap cur hc m h1 h2, fun b n cap olds ho hcell h1 h2 => ?_⟩
  · have hf := Lib.run_firstCells_string (P := P) w 1 m
    rw [h0] at hf
    simp [Builtin.append_, run_underlying ht, run_underlying hu, sizeOf, typeInfo, hi, hs, Builtin.lenOf, h0, hf]
  · have hr := run_append_nil_string (P := P) w t u ty T i (.int .u8 0) ht hu hi hz m h0 (by omega) (by rw [hb]; omega)
    have e1 : (m.data.map fun b => Value.int .u8 b.toNat) = (Lib.strCells m).toArray := by apply Array.ext'; simp [Lib.strCells]
    rw [e1] at hr
    exact hr
  · exact Lib.run_append_grow_string (P := P) w t u ty T i (.int .u8 0) ht hu hi hz ⟨b, 0, none⟩ n cap olds (by rw [hs]; omega) hcell m h1 (by omega) (by rw [hb]; exact growslice_fits (by omega) (by omega))

theorem AppB.one {P : Program} {w : World} {t ty T : TypeId} {i : TypeInfo} (ht : P.underlying t = some (.slice T)) (hi : P.info? T = some i) (hz : i.zero = some (.int .u8 0)) (hs : i.size = 1) (hb : i.bytes = 1) {a : Addr} {c : Nat} {m : ByteArray} (hm : 0 < m.size) (hm2 : m.size ≤ 140737488355328)
    (hcell : ∀ j u, (Lib.strCells m)[j]? = some u → w.cell? (a.add j) = some u) : AppB P w #[t, t] ty (.slice (some a) m.size c) m T := by
  have hl : (Lib.strCells m).length = m.size * i.size := by rw [Lib.strCells_length, hs, Nat.mul_one]
  refine ⟨fun h0 => by omega, fun h0 => ?_, fun b n cap cur hc h1 h2 => ?_, fun b n cap olds ho hcell2 h1 h2 => ?_⟩
  · have hr := run_append_nil (P := P) w t ty T i (.int .u8 0) ht hi hz a m.size c (Lib.strCells m) hl hcell h0 (by omega) (by rw [hb]; omega)
    exact hr
  · have hr := run_append_room (P := P) w t ty T i ht hi b n cap cur hc a m.size c (Lib.strCells m) hl hcell (Lib.strCells_oneCell m) h1 (by rw [hs, Nat.mul_one, Lib.strCells_length]; exact h2)
    rw [hs, Nat.mul_one, Lib.strCells_length] at hr
    exact hr
  · exact run_append_grow (P := P) w t ty T i (.int .u8 0) ht hi hz ⟨b, 0, none⟩ n cap olds (by rw [hs]; omega) hcell2 a m.size c (Lib.strCells m) hl hcell h1 (by omega) (growslice_fits (by omega) (by rw [hb]; omega))

section
variable {P : Program} {C : Ctx} {n : Nat} {st : St} {G : Gh} {tmps : Array Value} {w : World}

theorem bytes_core (h : SimG C n st G tmps w) {g : Nat} {r : Row} (hg : G.own g = some r) {v : Value} {T : Nat} {s : ByteArray} (hv : v.oneCell' = true) (hx : RowB w r v T s) {A : Array TypeId} {ty : TypeId} {x2 : Value} {m : ByteArray} (ha : AppB P w A ty x2 m T)
    (hb : s.size + m.size ≤ 140737488355328) :
    ∃ v' w', (Builtin.append_ A ty #[v, x2]).run P w = .ok v' w' ∧ ∃ G' : Gh, G'.box = G.box ∧ SimG C n { st with lv := st.gen :: dropId st.lv g, gen := st.gen + 1 } G' tmps w' ∧ Rep (enOf C G' (st.gen + 1) w') v' (.bf st.gen T (s ++ m)) := by
  have hlen : (bds (s ++ m)).length = s.size + m.size := by rw [bds_len, size_cat]
  have hmx : s.size + m.size ≤ maxLen := by simp only [maxLen]; omega
  have hlv : ∀ g' ∈ dropId st.lv g, g' ∈ st.lv ∧ g' ≠ g := fun g' hg' => dropId_mem hg'
  have newB : ∀ (cap : Nat) (arr : Array Value), arr.size = cap → s.size + m.size ≤ cap → cap ≤ maxLen → 0 < s.size + m.size → (∃ rest, arr.toList = Lib.strCells (s ++ m) ++ rest) →
      ∃ G' : Gh, G'.box = G.box ∧ SimG C n { st with lv := st.gen :: dropId st.lv g, gen := st.gen + 1 } G' tmps (w.drew.alloc (.cells arr T)) ∧
        Rep (enOf C G' (st.gen + 1) (w.drew.alloc (.cells arr T))) (.slice (some ⟨w.heap.size, 0, none⟩) (s.size + m.size) cap) (.bf st.gen T (s ++ m)) := by
    intro cap arr h1 h2 h3 h4 ⟨rest, h5⟩
    have hb' : Below w.heap.size w (w.drew.alloc (.cells arr T)) := ((Below.refl _ w).drew).alloc (Nat.le_refl _) _
    have hblk : (w.drew.alloc (.cells arr T)).heap[w.heap.size]? = some (.cells arr T (0, 0)) := heap_alloc_new w.drew _
    obtain ⟨G', hG, hs', hr'⟩ := (h.newRow true hb' hblk (cap := cap) (sz := 1) (es := bds (s ++ m)) (by rw [h1, Nat.mul_one]) (by rw [hlen]; exact h2) h3 Nat.one_pos (by rw [hlen]; exact h4) bds_one
      (bds_hr fun i c hc => by
        have := strCells_get hc
        rw [← Array.getElem?_toList, h5, List.getElem?_append_left (by rw [List.getElem?_eq_some_iff] at this; exact this.1)]
        exact this) (fun x => x = g) (dropId st.lv g) hlv).sim
    rw [hlen] at hr'
    exact ⟨G', hG, hs', xs_bf hr' (.inr ⟨_, _, _, arr, (0, 0), rfl, h4, hblk⟩)⟩
  cases r with
  | zero b => exact hx.elim
  | mp b => exact hx.elim
  | nil =>
    obtain ⟨rfl, hs0⟩ := hx
    have e0 : s ++ m = m := by
      have : s = ByteArray.empty := by
        apply ByteArray.ext
        exact Array.eq_empty_of_size_eq_zero hs0
      rw [this]; simp
    by_cases hm : m.size = 0
    · refine ⟨_, w, ha.emp hm, ?_⟩
      obtain ⟨G', hG, hs', hr'⟩ := (h.renameRow (m := true) hg (es := bds (s ++ m)) (v := .slice none 0 0) ⟨rfl, rfl, List.eq_nil_of_length_eq_zero (by rw [hlen]; omega)⟩ (dropId st.lv g) hlv).sim
      exact ⟨G', hG, hs', xs_bf hr' (.inl rfl)⟩
    · have hge := grownCap_ge w m.size 0 T
      have hcm := grownCap_le_maxLen w m.size 0 T (by omega)
      refine ⟨_, _, ha.new (by omega), ?_⟩
      have := newB (grownCap w m.size 0 T) ((Lib.strCells m).toArray ++ Builtin.zeroCells (Value.int .u8 0).cells (grownCap w m.size 0 T - m.size)) (by
        have hz1 : (Value.int IntKind.u8 0).cells.size = 1 := rfl
        simp only [Array.size_append, List.size_toArray, size_zeroCells, hz1, Lib.strCells_length]
        omega) (by omega) hcm (by omega) ⟨_, by rw [e0]; simp; rfl⟩
      rw [show s.size + m.size = m.size by omega] at this
      exact this
  | blk b len cap sz pub =>
    obtain ⟨rfl, h2, rfl, rfl, ⟨cs, f, hT⟩, h6⟩ := hx
    obtain ⟨hmine, hnb, huniq, cur, T', hcur, hcs, hlc, hcm, _, hpos, _⟩ := h.row g b len cap 1 0 hg
    rw [hcur] at hT
    simp only [Option.some.injEq, Obj.cells.injEq] at hT
    obtain ⟨rfl, rfl, rfl⟩ := hT
    subst h2
    have htk : cur.toList.take s.size = Lib.strCells s := by
      apply List.ext_getElem?
      intro t
      rw [List.getElem?_take]
      split
      · rename_i hlt
        have hc : s.data[t]? = some (s.data[t]'hlt) := Array.getElem?_eq_getElem hlt
        have h7 := h6 t _ hc
        rw [cellAt_row hcur] at h7
        rw [strCells_get hc]
        simpa using h7
      · rename_i hge
        rw [List.getElem?_eq_none (by rw [Lib.strCells_length]; omega)]
    by_cases hroom : s.size + m.size ≤ cap
    · have hfit : s.size + m.size ≤ cur.size := by omega
      refine ⟨_, _, ha.room b s.size cap cur hcur hroom hfit, ?_⟩
      obtain ⟨G', hG, hs', hr'⟩ := (h.growRow true (g := g) (b := b) (len := s.size) (cap := cap) (sz := 1) (arr := (cur.toList.take s.size ++ Lib.strCells m ++ cur.toList.drop (s.size + m.size)).toArray) (es := bds (s ++ m)) (by simpa [pubOf] using hg) hcur (by simp [Lib.strCells_length]; omega) (fun t ht => by simp [pubOf] at ht) (by omega) (by omega) bds_one
        (bds_hr fun i c hc => by
          have := strCells_get hc
          rw [List.getElem?_toArray, htk, ← strCells_cat, List.getElem?_append_left (by rw [List.getElem?_eq_some_iff] at this; exact this.1)]
          exact this) (dropId st.lv g) hlv).sim
      rw [hlen] at hr'
      exact ⟨G', hG, hs', xs_bf hr' (.inr ⟨b, _, _, _, (0, 0), rfl, by omega, setRow_heap w b cur _ _ (0, 0) hcur⟩)⟩
    · have hge := grownCap_ge w (s.size + m.size) cap T'
      have hcm' := grownCap_le_maxLen w (s.size + m.size) cap T' (by omega)
      refine ⟨_, _, ha.grow b s.size cap (Lib.strCells s) (Lib.strCells_length s) (fun j u hj => ?_) (by omega) hb, ?_⟩
      · have hj' : j < s.data.size := by have := (List.getElem?_eq_some_iff.1 hj).1; rw [Lib.strCells_length] at this; exact this
        have hc : s.data[j]? = some s.data[j] := by simp [hj']
        rw [strCells_get hc] at hj
        have h7 := h6 j _ hc
        rw [Option.some.inj hj] at h7
        unfold Addr.add
        split
        · rename_i e; subst e; simpa [cellAt] using h7
        · simpa [cellAt] using h7
      · exact newB (grownCap w (s.size + m.size) cap T') _ (by
          have hz1 : (Value.int IntKind.u8 0).cells.size = 1 := rfl
          simp only [Array.size_append, List.size_toArray, size_zeroCells, hz1, Lib.strCells_length]
          omega) (by omega) hcm' (by omega) ⟨_, by rw [strCells_cat]; simp [List.append_assoc]; rfl⟩
end
end Go.Ab
/- strings.Builder: made, checked, read out. -/
namespace Go.Ab
open Go.RowKit

section
variable {P : Program} (T : Tab P) {C : Ctx} {n : Nat} {ops : Array Oper} {Q : Exit → St → Prop} {rest : List Oper}
variable {f : List (Nat × A)} {bx : List (Nat × List A)} {lv : List Nat} {gen : Nat} {d : Nat} {ty : TypeId} {pos : String} {af : Array Edge} {dst : Option Nat}

theorem exec_app {o : Oper} {act : Act} {x y : Operand} {t u : Nat} (ho : o.op = .call ⟨.builtin .append, #[x, y], #[t, u]⟩) {w w' : World} {v' : Value}
    (h : (Builtin.append_ #[t, u] o.type #[act.eval x, act.eval y]).run P w = .ok v' w') : (execOp act.eval o).run P w = .ok (.value v') w' := by
  unfold execOp
  rw [ho]
  show Sem.run P (do let d ← resolve act.eval ⟨.builtin .append, #[x, y], #[t, u]⟩ o.type; invoke d.target d.args) w = _
  simp only [resolve, invoke, builtin, Sem.run_bind, Sem.run_pure, Result.andThen_ok, List.map_toArray, List.map_cons, List.map_nil, h]

/-- what the table says of bytes -/
def byteT (d : TyD) : Bool := (Nat.beq d.n 1 && Nat.beq d.b 1 && vsEq d.z [.int .u8 0]) && (match d.k with | .int _ => true | _ => false)
theorem Tab.byte {e : Nat} {d : TyD} (h : look' T.l e = some d) (hb : byteT d = true) : ∃ i, P.info? e = some i ∧ i.zero = some (.int .u8 0) ∧ i.size = 1 ∧ i.bytes = 1 := by
  simp only [byteT, Bool.and_eq_true] at hb
  obtain ⟨i, z, hi, h1, h2, hz, hzc, _, _, hk⟩ := T.info h
  have e1 := Nat.eq_of_beq_eq_true hb.1.1.1
  have e2 := Nat.eq_of_beq_eq_true hb.1.1.2
  have e3 := vsEq_eq hb.1.2
  have e4 := hb.2
  refine ⟨i, hi, ?_, by omega, by omega⟩
  rw [hz]
  rw [e3] at hzc
  cases hkd : d.k <;> rw [hkd] at e4 hk <;> first | (cases e4; done) | skip
  cases z <;> simp_all [Value.cells]

theorem appendStrB {x y : Operand} {t u e : Nat} {td ud ed : TyD} {g : Nat} {s m : ByteArray} (hx : av f x = some (.bf g e s)) (hy : av f y = some (.d (.v (.string m)))) (ht : look' T.l t = some td) (hk : td.k = .slice e) (hu : look' T.l u = some ud) (huk : ud.k = .str) (he : look' T.l e = some ed) (heb : byteT ed = true)
    (hgl : (lv.any fun h => Nat.beq h g) = true) (hd : Nat.blt d n = true) (hb : s.size + m.size ≤ 140737488355328) {r : ByteArray} (hr : s ++ m = r) {lv' : List Nat} (hlv : gen :: dropId lv g = lv')
    (h : WO P C n ops Q rest ⟨(d, .bf gen e r) :: f, bx, lv', gen + 1⟩) : WO P C n ops Q (⟨some d, .call ⟨.builtin .append, #[x, y], #[t, u]⟩, ty, pos, af, none⟩ :: rest) ⟨f, bx, lv, gen⟩ := by
  subst hr; subst hlv
  refine WO.step (st := ⟨f, bx, lv, gen⟩) rfl fun tmps w ⟨G, hs⟩ => ?_
  have hr := hs.av hx
  have hr2 := hs.av hy
  obtain ⟨r, hgr⟩ := hs.live g (memAny hgl)
  generalize hv : Act.eval ⟨tmps, []⟩ x = v at hr
  generalize hv2 : Act.eval ⟨tmps, []⟩ y = v2 at hr2
  cases hr with
  | bf _ _ _ _ hgg h1 hrow =>
  cases hr2 with | d hr2 => cases hr2 with | v _ _ =>
  obtain ⟨i, hi, hz, hs1, hb1⟩ := T.byte he heb
  have hus : P.underlying u = some .string := T.u_str hu huk
  obtain ⟨v', w', hrun, G', _, hs', hv'⟩ := bytes_core (ty := ty) hs hgr h1 (hrow r hgr) (AppB.string (P := P) (w := w) (ty := ty) (T.u_slice ht hk) hus hi hz hs1 hb1 (m := m) (by omega)) hb
  rw [← hv, ← hv2] at hrun
  exact gives_value (exec_app rfl hrun) ⟨_, ⟨G', hs'.put (dst := some d) (dstOK_lt (dst := some d) hd) hv'⟩, h⟩

theorem appendByteB {x y : Operand} {t e : Nat} {td ed : TyD} {g : Nat} {s : ByteArray} {c : Int} (hx : av f x = some (.bf g e s)) (hy : av f y = some (.d (.sl [[.v (.int .u8 c)]]))) (ht : look' T.l t = some td) (hk : td.k = .slice e) (he : look' T.l e = some ed) (heb : byteT ed = true)
    (hgl : (lv.any fun h => Nat.beq h g) = true) (hd : Nat.blt d n = true) (m : ByteArray) (hm : m.size = 1) (hm0 : ∀ b, m.data[0]? = some b → (b.toNat : Int) = c) (hb : s.size + 1 ≤ 140737488355328) {r : ByteArray} (hr : s ++ m = r) {lv' : List Nat} (hlv : gen :: dropId lv g = lv')
    (h : WO P C n ops Q rest ⟨(d, .bf gen e r) :: f, bx, lv', gen + 1⟩) : WO P C n ops Q (⟨some d, .call ⟨.builtin .append, #[x, y], #[t, t]⟩, ty, pos, af, none⟩ :: rest) ⟨f, bx, lv, gen⟩ := by
  subst hr; subst hlv
  refine WO.step (st := ⟨f, bx, lv, gen⟩) rfl fun tmps w ⟨G, hs⟩ => ?_
  have hr := hs.av hx
  have hr2 := hs.av hy
  obtain ⟨r, hgr⟩ := hs.live g (memAny hgl)
  generalize hv : Act.eval ⟨tmps, []⟩ x = v at hr
  generalize hv2 : Act.eval ⟨tmps, []⟩ y = v2 at hr2
  cases hr with
  | bf _ _ _ _ hgg h1 hrow =>
  cases hr2 with | d hr2 => cases hr2 with
  | sl b2 off2 len2 cap2 sz2 _ u2 hl2 hc2 hm2 hs2 hu2 hr2 =>
  simp only [List.length_cons, List.length_nil, Nat.zero_add] at hl2
  subst hl2
  have hsz2 : sz2 = 1 := by have := hs2 0 _ rfl; simpa using this.symm
  subst hsz2
  have hc0 := (hu2 0 0 (by omega) (by omega)).1
  have hd0 := hr2 0 0 _ _ rfl rfl
  obtain ⟨b0, hb0⟩ : ∃ b0, m.data[0]? = some b0 := ⟨m.data[0]'(by have : m.data.size = 1 := hm; omega), by have : m.data.size = 1 := hm; simp [this]⟩
  have hcell : ∀ j q, (Lib.strCells m)[j]? = some q → w.cell? ((⟨b2, off2, none⟩ : Addr).add j) = some q := by
    intro j q hq
    have hj : j = 0 := by
      have := (List.getElem?_eq_some_iff.1 hq).1
      rw [Lib.strCells_length, hm] at this
      omega
    subst hj
    rw [strCells_get hb0, hm0 b0 hb0] at hq
    generalize u2 0 0 = z at hc0 hd0
    cases hd0
    cases hq
    have hc1 : w.cell? ⟨b2, off2 + 0 * 1 + 0, none⟩ = some (.int .u8 c) := hc0
    simpa [Addr.add] using hc1
  obtain ⟨i, hi, hz, hs1, hb1⟩ := T.byte he heb
  have hap := AppB.one (P := P) (w := w) (ty := ty) (c := cap2) (T.u_slice ht hk) hi hz hs1 hb1 (a := ⟨b2, off2, none⟩) (m := m) (by omega) (by omega) hcell
  rw [hm] at hap
  obtain ⟨v', w', hrun, G', _, hs', hv'⟩ := bytes_core (ty := ty) hs hgr h1 (hrow r hgr) hap (by rw [hm]; exact hb)
  rw [← hv, ← hv2] at hrun
  exact gives_value (exec_app rfl hrun) ⟨_, ⟨G', hs'.put (dst := some d) (dstOK_lt (dst := some d) hd) hv'⟩, h⟩

theorem lenB {x : Operand} {t e g k : Nat} {td : TyD} {s : ByteArray} (hx : av f x = some (.bf g k s)) (ht : look' T.l t = some td) (hk : td.k = .slice e) (hgl : (lv.any fun h => Nat.beq h g) = true) :
    Pu P C n ⟨f, bx, lv, gen⟩ ⟨dst, .call ⟨.builtin .len, #[x], #[t]⟩, ty, pos, af, none⟩ (.d (.v (.int .i64 s.size))) := by
  refine PuOK.pu fun G tmps w hs => ?_
  have hr := hs.av hx
  obtain ⟨r, hgr⟩ := hs.live g (memAny hgl)
  generalize hv : Act.eval ⟨tmps, []⟩ x = v at hr
  cases hr with
  | bf _ _ _ _ hgg h1 hrow =>
  have hx0 := (hrow r hgr).toX (pv := pvOf C G)
  obtain ⟨a, cap, h2, _, hlen⟩ := RowX.len hs hgr hx0
  rw [bds_len] at h2 hlen
  refine ⟨.int .i64 s.size, ?_, .d (.v _ ?_)⟩
  · unfold execOp
    show Sem.run P (do let d ← resolve (Act.eval ⟨tmps, []⟩) ⟨.builtin .len, #[x], #[t]⟩ ty; invoke d.target d.args) w = _
    simp only [resolve, List.map_toArray, List.map_cons, List.map_nil, hv, h2, Sem.run_bind, Sem.run_pure, Result.andThen_ok, invoke, builtin, Builtin.len_]
    simp [run_underlying (T.u_slice ht hk), goInt]
    rfl
  · simp only [maxLen] at hlen
    simp [okc, IntKind.min, IntKind.max, IntKind.signed, IntKind.bits]
    omega

/-- a builder is made -/
theorem allocB (k : Nat) {e : TypeId} {ed : TyD} (he : look' T.l e = some ed) (hz : vsEq ed.z [.pointer none, .slice none 0 0] = true) (hd : Nat.blt d n = true)
    (h : WO P C n ops Q rest ⟨(d, .ptr gen 0) :: f, (gen, [.np gen e false, .bf (gen + 1) k .empty]) :: bx, (gen + 1) :: lv, gen + 2⟩) : WO P C n ops Q (⟨some d, .alloc e, ty, pos, af, none⟩ :: rest) ⟨f, bx, lv, gen⟩ := by
  refine WO.step (st := ⟨f, bx, lv, gen⟩) rfl fun tmps w ⟨G, hs⟩ => ?_
  obtain ⟨i, z, hi, _, _, hzz, hzc, _, _, _⟩ := T.info he
  rw [vsEq_eq hz] at hzc
  have hza : z.cells = #[.pointer none, .slice none 0 0] := by apply Array.ext'; simpa using hzc
  obtain ⟨G1, hle, hs1, hr1⟩ := hs.mkBox z.cells e [.any, .any] (by rw [hza]; rfl) (fun i u hu => by
    rw [hza] at hu
    match i with
    | 0 => simp at hu; subst hu; rfl
    | 1 => simp at hu; subst hu; rfl
    | i + 2 => simp at hu) (fun i u a hu ha => by
    match i with
    | 0 => simp at ha; subst ha; exact .any _
    | 1 => simp at ha; subst ha; exact .any _
    | i + 2 => simp at ha)
  have hnew : (w.alloc (.cells z.cells e)).heap[w.heap.size]? = some (.cells z.cells e (0, 0)) := heap_alloc_new w _
  have hbx : G1.box gen = some w.heap.size := by
    cases hr1 with
    | ptr _ _ _ b hg hb hx =>
      simp only [Value.pointer.injEq, Option.some.injEq, Addr.mk.injEq, and_true] at hx
      rw [hx]; exact hb
  obtain ⟨G2, hG2, hs2, hr2⟩ := (hs1.nameNil true (gen :: lv |>.tail) (fun _ h => h)).sim
  have hbx2 : G2.box gen = some w.heap.size := by rw [hG2]; exact hbx
  have hbf := xs_bf (T := k) (s := .empty) (g := gen + 1) hr2 (.inl rfl)
  have hs3 := SimG.boxCell (i := 1) (a' := .bf (gen + 1) k .empty) hs2 hs2 rfl rfl (cells := [.any, .any]) (g0 := gen) (by simp [look']) (v := .slice none 0 0) (fun b cs T' hb hh => by
    rw [hbx2] at hb; cases hb
    rw [hnew] at hh
    simp only [Option.some.injEq, Obj.cells.injEq] at hh
    rw [← hh.1, hza]; rfl) (fun _ _ => rfl) hbf
  have hs4 := SimG.boxCell (i := 0) (a' := .np gen e false) hs3 hs3 rfl rfl (cells := [.any, .bf (gen + 1) k .empty]) (g0 := gen) (by simp [look']) (v := .pointer none) (fun b cs T' hb hh => by
    rw [hbx2] at hb; cases hb
    rw [hnew] at hh
    simp only [Option.some.injEq, Obj.cells.injEq] at hh
    rw [← hh.1, hza]; rfl) (fun _ _ => rfl) (.np _ gen e w.heap.size (by simp [enOf]; omega) hbx2 ⟨_, _, hnew⟩ false rfl)
  have hs5 : SimG C n ⟨f, (gen, [.np gen e false, .bf (gen + 1) k .empty]) :: bx, (gen + 1) :: lv, gen + 2⟩ G2 tmps (w.alloc (.cells z.cells e)) := by
    refine { hs4 with box := fun g' c hc => ?_ }
    refine hs4.box g' c ?_
    simp only [look'_cons] at hc ⊢
    split
    · rename_i e1; rw [if_pos e1] at hc; exact hc
    · rename_i e1; rw [if_neg e1] at hc; exact hc
  refine gives_value (v := .pointer (some ⟨w.heap.size, 0, none⟩)) (w' := w.alloc (.cells z.cells e)) ?_ ⟨_, ⟨G2, hs5.put (dst := some d) (dstOK_lt (dst := some d) hd) (.ptr _ gen 0 w.heap.size (by simp [enOf]) hbx2 rfl)⟩, h⟩
  unfold execOp
  show Sem.run P _ w = _
  simp only [Instr.alloc, zeroValue, typeInfo, hi, hzz, newVar, newRow, Sem.run_bind, run_program, run_newObj, Result.andThen_ok, Sem.run_pure]
  rfl
end

/-- what (*strings.Builder).copyCheck does -/
structure CopyChecks (P : Program) (e : TypeId) (f : FuncId) : Prop where
  used : ∀ (b : Nat) (w : World), w.cell? ⟨b, 0, none⟩ = some (.pointer (some ⟨b, 0, none⟩)) → Calls P f #[.pointer (some ⟨b, 0, none⟩)] w fun e w' => e = .returned (.tuple #[]) ∧ w' = w
  fresh : ∀ (b : Nat) (w : World), w.cell? ⟨b, 0, none⟩ = some (.pointer none) → w.shape? b = some (e, 2) → w.frozen? ⟨b, 0, none⟩ = false →
    Calls P f #[.pointer (some ⟨b, 0, none⟩)] w fun e w' => e = .returned (.tuple #[]) ∧ w' = w.setCell ⟨b, 0, none⟩ (.pointer (some ⟨b, 0, none⟩))

theorem setCell_row {w : World} {b o : Nat} {cs : Array Value} {T : TypeId} {fr : Nat × Nat} (h : w.heap[b]? = some (.cells cs T fr)) (v : Value) : w.setCell ⟨b, o, none⟩ v = w.setRow b (cs.setIfInBounds o v) := by
  have hlt := (Array.getElem?_eq_some_iff.1 h).1
  have e : w.heap.modify b (fun | .cells c elem frozen => Obj.cells (c.setIfInBounds o v) elem frozen | o => o) = w.heap.modify b (fun | .cells _ elem frozen => Obj.cells (cs.setIfInBounds o v) elem frozen | o => o) := by
    apply Array.ext_getElem?
    intro k
    simp only [Array.getElem?_modify]
    by_cases hk : b = k
    · subst hk; simp only [if_pos rfl, h, Option.map_some]
    · simp only [if_neg hk]
  exact congrArg (fun h => ({ w with heap := h } : World)) e

theorem CopyChecks.does {P : Program} [Met P] {e : TypeId} {f : FuncId} (hok : FnOK P f) (h : CopyChecks P e f) (u : Bool) (a : A) (m : Nat) : DoesB P f [.ptr 0 0] [[.np 0 e u, a]] m (.tup []) [[.np 0 e true, a]] m := by
  refine ⟨hok, rfl, fun C G vals w hG hw hnb hs hsz hrep => ?_⟩
  obtain ⟨b, cs, T', h1, h2, h3, h4, h5⟩ := hs.box 0 [.np 0 e u, a] (by simp [bxs, look'])
  have hv : vals = #[.pointer (some ⟨b, 0, none⟩)] := by
    apply Array.ext_getElem?
    intro i
    match i with
    | 0 =>
      have h0 : vals[0]? = some (vals[0]'(by simp at hsz; omega)) := by simp at hsz; simp [hsz]
      have := hrep 0 _ _ h0 rfl
      rw [h0]
      generalize vals[0]'(by simp at hsz; omega) = z at this
      cases this with
      | ptr _ _ _ b0 hg hb hx =>
        have e1 : b0 = b := by have := (hb : G.box 0 = some b0).symm.trans h1; simpa using this
        subst e1; rw [hx]; rfl
    | i + 1 => simp at hsz; simp [hsz]
  have hc0 : cs[0]? = some (cs[0]'(by simp at h3; omega)) := by simp at h3; simp [h3]
  have hr0 := h5 0 _ _ hc0 rfl
  have hcell : w.cell? ⟨b, 0, none⟩ = some (cs[0]'(by simp at h3; omega)) := by
    have := cellAt_row h2 0
    rw [hc0] at this
    exact this
  have hrt : Rep (enOf C G (1 + m) w) (.pointer (some ⟨b, 0, none⟩)) (.np 0 e true) ∧ ((u = true ∧ cs[0]'(by simp at h3; omega) = .pointer (some ⟨b, 0, none⟩)) ∨ (u = false ∧ cs[0]'(by simp at h3; omega) = .pointer none ∧ T' = e)) := by
    generalize cs[0]'(by simp at h3; omega) = z at hr0
    cases hr0 with
    | np _ _ _ b0 hg hb hT _ hx =>
      have e1 : b0 = b := by have := (hb : G.box 0 = some b0).symm.trans h1; simpa using this
      subst e1
      refine ⟨.np _ 0 e b0 hg hb hT true rfl, ?_⟩
      obtain ⟨cs', f', hT⟩ := hT
      have hT' : w.heap[b0]? = some (.cells cs' e f') := hT
      rw [h2] at hT'
      simp only [Option.some.injEq, Obj.cells.injEq] at hT'
      cases u with
      | true => exact .inl ⟨rfl, hx⟩
      | false => exact .inr ⟨rfl, hx, hT'.2.1⟩
  obtain ⟨hnp, hcase⟩ := hrt
  subst hv
  rcases hcase with ⟨rfl, hz⟩ | ⟨rfl, hz, rfl⟩
  · rw [hz] at hcell
    refine (h.used b w hcell).mono ?_
    rintro e' w' ⟨rfl, rfl⟩
    exact ⟨_, G, rfl, hs, .tup #[] [] rfl (by simp)⟩
  · rw [hz] at hcell
    refine (h.fresh b w hcell (by simp only [World.shape?, h2]; simp at h3; rw [h3]) (by simp [World.frozen?, h2])).mono ?_
    rintro e' w' ⟨rfl, rfl⟩
    rw [setCell_row h2]
    have hst := hs.store (g := 0) (b := b) (cs := cs) (cs' := cs.setIfInBounds 0 (.pointer (some ⟨b, 0, none⟩))) (T := T') (cells := [.np 0 T' false, a]) (cells' := [.np 0 T' true, a]) (by simp [bxs, look']) h1 h2 ⟨by simpa using h3, fun i u hu => by
      rw [Array.getElem?_setIfInBounds] at hu
      split at hu
      · split at hu
        · simp only [Option.some.injEq] at hu; subst hu; rfl
        · cases hu
      · exact h4 i u hu, fun i u y hu hy => by
      rw [Array.getElem?_setIfInBounds] at hu
      match i with
      | 0 =>
        simp at hy; subst hy
        simp at h3
        simp [h3] at hu
        subst hu
        exact hnp
      | 1 =>
        simp at hy; subst hy
        simp at hu
        exact h5 1 u _ hu rfl
      | i + 2 => simp at hy⟩
    refine ⟨_, G, rfl, ?_, .tup #[] [] rfl (by simp)⟩
    refine { hst with box := fun g' c hc => ?_ }
    refine hst.box g' c ?_
    simp only [bxs, look'_cons] at hc ⊢
    split
    · rename_i e1; rw [if_pos e1] at hc; exact hc
    · rename_i e1; rw [if_neg e1] at hc; simp [look'] at hc

/-- what stays of a slot when all the memory that the body made may change -/
def scal : A → A
  | .d (.v x) => .d (.v x)
  | _ => .any
def scalF (f : List (Nat × A)) : List (Nat × A) := f.map fun p => (p.1, scal p.2)
theorem scalF_look : ∀ (f : List (Nat × A)) (t : Nat), look (scalF f) t = (look f t).map scal
  | [], t => rfl
  | (s, a) :: r, t => by
    simp only [scalF, List.map_cons]
    rw [look_cons, look_cons]
    split
    · rfl
    · exact scalF_look r t

theorem SimG.end_ {C : Ctx} [hN : NB C 0] {n : Nat} {st : St} {G : Gh} {tmps : Array Value} {w w' : World} (h : SimG C n st G tmps w) (hb : Below C.w0.heap.size w w') (hsz : w.heap.size ≤ w'.heap.size) : SimG C n ⟨scalF st.f, [], [], st.gen⟩ G0 tmps w' where
  size := h.size
  frame := fun t a ha => by
    rw [scalF_look] at ha
    obtain ⟨a', ha', rfl⟩ := Option.map_eq_some_iff.1 ha
    obtain ⟨v, hv, hr⟩ := h.frame t a' ha'
    refine ⟨v, hv, ?_⟩
    unfold scal
    split
    · cases hr with | d hr => cases hr with | v _ hx => exact .d (.v _ hx)
    · exact .any _
  box := fun g cells hc => by simp [look'] at hc
  gbox := fun g b hb => by simp [G0] at hb
  inj := fun g g' b hb => by simp [G0] at hb
  live := fun g hg => by simp at hg
  gown := fun g r hr => by simp [G0] at hr
  row := fun g b len cap sz pub hr => by simp [G0] at hr
  mrow := fun g b hr => by simp [G0] at hr
  xold := h.xold
  kold := h.kold
  lent := fun i b hb => by have := hN.h; rw [List.length_eq_zero_iff.1 this] at hb; simp at hb
  fr := ⟨hb.os.trans h.fr.os, hb.tape.trans h.fr.tape, hb.output.trans h.fr.output, Nat.le_trans h.fr.size hsz, fun b h1 h2 => (hb.block b h1).trans (h.fr.block b h1 h2), fun b o u h1 h2 => by
    have hlt := cellAt_lt h2
    rw [cellAt_same (hb.block b hlt)]; exact h.fr.cells b o u h1 h2, fun b cs T f h1 => by
    have hlt := (Array.getElem?_eq_some_iff.1 h1).1
    rw [hb.block b hlt]; exact h.fr.ty b cs T f h1⟩

/-- what (*strings.Builder).String gives -/
def StrGives (P : Program) (T e : TypeId) (f : FuncId) : Prop :=
  ∀ (B b : Nat) (l : List UInt8) (w : World), Lib.IsBuilder T e B b (Lib.byteCells l) w → B ≤ w.heap.size → Calls P f #[.pointer (some ⟨b, 0, none⟩)] w fun q w' => q = .returned (.string ⟨l.toArray⟩) ∧ Below B w w'

section
variable {P : Program} {C : Ctx} {n : Nat} {ops : Array Oper} {Q : Exit → St → Prop} {rest : List Oper}
variable {f : List (Nat × A)} {bx : List (Nat × List A)} {lv : List Nat} {gen : Nat} {d : Nat} {ty : TypeId} {pos : String} {af : Array Edge}

/-- the builder's text is read; nothing else that the body made is used behind it -/
theorem strEnd [NB C 0] (hfp : ∀ b, ¬ C.fp b) {x y : Operand} {tys : Array TypeId} {fid : FuncId} {g g2 : Nat} {T e : TypeId} {u : Bool} {s : ByteArray} (hx : av f x = some (.clo fid [])) (hy : av f y = some (.ptr g 0)) (hb : look' bx g = some [.np g T u, .bf g2 e s])
    (hgl : (lv.any fun h => Nat.beq h g2) = true) (hok : FnOK P fid) (hstr : StrGives P T e fid) (hss : s.size ≤ maxLen) (hd : Nat.blt d n = true)
    (h : WO P C n ops Q rest ⟨(d, .d (.v (.string s))) :: scalF f, [], [], gen⟩) : WO P C n ops Q (⟨some d, .call ⟨.value x, #[y], tys⟩, ty, pos, af, none⟩ :: rest) ⟨f, bx, lv, gen⟩ := by
  refine WO.step (st := ⟨f, bx, lv, gen⟩) rfl fun tmps w ⟨G, hs⟩ => ?_
  obtain ⟨fn, hfn, hname, hbody⟩ := hok
  have hrx := hs.av hx
  generalize hv : Act.eval ⟨tmps, []⟩ x = v at hrx
  cases hrx with
  | clo _ vs _ hsz hdd =>
  have hvs : vs = #[] := Array.eq_empty_of_size_eq_zero (by simpa using hsz)
  subst hvs
  have hry := hs.av hy
  generalize hvy : Act.eval ⟨tmps, []⟩ y = vy at hry
  obtain ⟨b, cs, T', h1, h2, h3, h4, h5⟩ := hs.box g _ hb
  have evy : vy = .pointer (some ⟨b, 0, none⟩) := by
    cases hry with
    | ptr _ _ _ b0 hg hb0 hx0 => exact ptr_at hb0 hx0 b h1
  subst evy
  have hrun : (execOp (Act.eval ⟨tmps, []⟩) ⟨some d, .call ⟨.value x, #[y], tys⟩, ty, pos, af, none⟩).run P w = .ok (.enter fid #[.pointer (some ⟨b, 0, none⟩)]) w := by
    unfold execOp
    show Sem.run P (do let d ← resolve (Act.eval ⟨tmps, []⟩) ⟨.value x, #[y], tys⟩ ty; invoke d.target d.args) w = _
    simp only [resolve, hv, hvy, Deferred.ofValue, Sem.run_bind, Sem.run_pure, Result.andThen_ok, invoke, callFunc, run_program, hfn, hname, hbody, Bool.false_eq_true, if_false, Array.empty_append, Array.append_empty, List.map_toArray, List.map_cons, List.map_nil]
  simp at h3
  obtain ⟨p, q, hcs⟩ : ∃ p q, cs = #[p, q] := ⟨cs[0], cs[1], by apply Array.ext_getElem?; intro i; match i with | 0 => simp [h3] | 1 => simp [h3] | i + 2 => simp [h3]⟩
  subst hcs
  have hp := h5 0 p _ rfl rfl
  have hq := h5 1 q _ rfl rfl
  obtain ⟨r, hgr⟩ := hs.live g2 (memAny hgl)
  have mine : ∀ {b lim}, C.mine b lim → C.w0.heap.size ≤ b := fun hm => hm.1.resolve_right (hfp _)
  have hpe : T' = T ∧ (p = .pointer none ∨ p = .pointer (some ⟨b, 0, none⟩)) := by
    cases hp with
    | np _ _ _ b0 hg hb0 hT _ hx0 =>
      have e1 : b0 = b := by have := (hb0 : G.box g = some b0).symm.trans h1; simpa using this
      subst e1
      obtain ⟨cs', f', hT⟩ := hT
      have hT' : w.heap[b0]? = some (.cells cs' T f') := hT
      rw [h2] at hT'
      simp only [Option.some.injEq, Obj.cells.injEq] at hT'
      refine ⟨hT'.2.1, ?_⟩
      cases u with
      | true => exact .inr hx0
      | false => exact .inl hx0
  obtain ⟨rfl, hpe⟩ := hpe
  have hown : w.ownsRow C.w0.heap.size e 1 q (Lib.byteCells s.data.toList).length (Lib.byteCells s.data.toList) ∧ q.ownBlock ≠ some b := by
    cases hq with
    | bf _ _ _ _ hg hq1 hrow =>
    have hx0 := hrow r hgr
    cases r with
    | zero b => exact hx0.elim
    | mp b => exact hx0.elim
    | nil =>
      obtain ⟨rfl, h0⟩ := hx0
      have e0 : s.data.toList = [] := List.eq_nil_of_length_eq_zero (by simpa using h0)
      rw [e0]
      exact ⟨World.ownsRow_nil w _ e 1, by simp [Value.ownBlock]⟩
    | blk b2 len cap sz pub =>
      obtain ⟨rfl, h6, rfl, rfl, ⟨cs', f', hT⟩, h8⟩ := hx0
      obtain ⟨hmine, hnb, huniq, cur, T2, hcur, hcs, hlc, hcm, _, hpos, _⟩ := hs.row g2 b2 len cap 1 0 hgr
      have hT' : w.heap[b2]? = some (.cells cs' e f') := hT
      rw [hcur] at hT'
      simp only [Option.some.injEq, Obj.cells.injEq] at hT'
      obtain ⟨_, rfl, _⟩ := hT'
      have hlen : (Lib.byteCells s.data.toList).length = len := by rw [Lib.byteCells_length, Array.length_toList]; exact h6
      rw [hlen]
      refine ⟨⟨by simpa using hlen, .inr ⟨b2, cap, cur, rfl, mine hmine, hcur, hlc, hcm, hcs, ?_⟩⟩, ?_⟩
      · rw [Nat.mul_one]
        apply List.ext_getElem?
        intro t
        rw [List.getElem?_take]
        have es : (Lib.byteCells s.data.toList) = Lib.strCells s := (Lib.strCells_eq s).symm
        split
        · rename_i hlt
          have hc : s.data[t]? = some (s.data[t]'(by rw [← h6] at hlt; exact hlt)) := Array.getElem?_eq_getElem _
          have h7 := h8 t _ hc
          have h7' : cur[t]? = _ := (cellAt_row hcur t).symm.trans h7
          rw [es, strCells_get hc, Array.getElem?_toList, h7']
        · rename_i hge
          rw [List.getElem?_eq_none (by rw [hlen]; omega)]
      · simp only [Value.ownBlock]
        intro e1
        simp only [Option.some.injEq] at e1
        exact hnb g (e1 ▸ h1)
  have hbat : ∀ p, p = Value.pointer none ∨ p = .pointer (some ⟨b, 0, none⟩) → w.heap[b]? = some (.cells #[p, q] T' (0, 0)) → Lib.IsBuilder T' e C.w0.heap.size b (Lib.byteCells s.data.toList) w := by
    rintro p (rfl | rfl) hh
    · exact .inl ⟨mine (hs.gbox g b h1).2.2, q, hh, hown.1, hown.2⟩
    · exact .inr ⟨mine (hs.gbox g b h1).2.2, q, hh, hown.1, hown.2⟩
  unfold Gives
  have hrun' : (execOp (Act.eval { tmps := tmps, defers := [] }) ⟨some d, .call ⟨.value x, #[y], tys⟩, ty, pos, af, none⟩).run P w = .ok (.enter fid #[.pointer (some ⟨b, 0, none⟩)]) w := hrun
  rw [hrun']
  refine (hstr C.w0.heap.size b s.data.toList w (hbat p hpe h2) hs.fr.size).mono ?_
  rintro e' w' ⟨rfl, hbel⟩
  refine ⟨_, rfl, ⟨(d, .d (.v (.string s))) :: scalF f, [], [], gen⟩, ⟨G0, ?_⟩, h⟩
  have := (hs.end_ hbel hbel.size).put (dst := some d) (dstOK_lt (dst := some d) hd) (v := .string ⟨s.data.toList.toArray⟩) (a := .d (.v (.string s))) (.d (by
    have : (⟨s.data.toList.toArray⟩ : ByteArray) = s := by apply ByteArray.ext; simp
    rw [this]; exact .v _ (by simp [okc, hss])))
  exact this
end
end Go.Ab
namespace Go.Ab
theorem DoesH.does {P : Program} [Met P] {H : Ctx → Prop} {f : FuncId} {args : List A} {r : A} {k : Nat} (h : DoesH P H f args r k) (hH : ∀ C, H C) : Does P f args r k :=
  ⟨h.ok, fun C vals w hG hw hp hx hsz hr => h.calls C vals w hG hw hp (hH C) hx hsz hr⟩
end Go.Ab
/- Events as text. -/
namespace Go.Tb
open Go.Ab

theorem name_ok {s : ByteArray} (h : nameErr s = 0) : s.size ≤ 40 ∧ (bys s).all letterB = true ∧ s ≠ B #[] := by
  unfold nameErr at h
  split at h
  · simp at h
  · rename_i hc
    simp only [not_or] at hc
    exact ⟨by omega, by simpa using hc.2.2, hc.1⟩
/-- what an accepted event is -/
structure Good (e : Ev) : Prop where
  time : 0 ≤ e.time ∧ e.time ≤ 1000000000000
  kind : 1 ≤ e.kind ∧ e.kind < 13
  noName : (frmOf e.kind).name = false → e.name = B #[]
  noN : (frmOf e.kind).n = false → e.n = 0
  noM : (frmOf e.kind).m = false → e.m = 0
  noStack : (frmOf e.kind).stack = false → e.stack = []
  name : (frmOf e.kind).name = true → nameErr e.name = 0
  stack : (frmOf e.kind).name = false → framesErr e.stack = 0
  n : (frmOf e.kind).n = true → (frmOf e.kind).least ≤ e.n ∧ e.n ≤ (frmOf e.kind).most
  stop : e.kind = 9 → e.n ≠ 2 → e.m = 0
  m : (frmOf e.kind).m = true → (e.kind ≠ 9 ∨ e.n = 2) → (frmOf e.kind).mLeast ≤ e.m ∧ e.m ≤ (frmOf e.kind).mMost
theorem inR_iff {n : Int} : inR n = true ↔ -1000000000000000 ≤ n ∧ n ≤ 1000000000000000 := by simp [inR]
theorem Good.frames {e : Ev} (g : Good e) : framesErr e.stack = 0 := by
  cases h : (frmOf e.kind).name with
  | false => exact g.stack h
  | true =>
    have : (frmOf e.kind).stack = false := by
      rcases kinds g.kind.1 g.kind.2 with q | q | q | q | q | q | q | q | q | q | q | q <;> rw [q] at h ⊢ <;> revert h <;> decide
    rw [g.noStack this]
    rfl
theorem numB_small {n : Int} (h : inR n = true) : (numB n).size ≤ 17 := by
  have h1 := inR_iff.1 h
  have h2 := itoa_len (n := n) (by have : (10 : Nat) ^ 16 = 10000000000000000 := by decide
                                   omega)
  have h3 : (numB n).size = (Lib.itoa n).length := Array.length_toList.symm
  omega
end Go.Tb
/- Events read from words. -/
namespace Go.Tb
open Go.Ab

theorem cutB_le {s : ByteArray} {c : UInt8} {m : Nat} (h : s.size ≤ m) : ∀ w ∈ cutB s c, w.size ≤ m := by
  intro w hw
  unfold cutB at hw
  obtain ⟨x, hx, rfl⟩ := List.mem_map.1 hw
  have h1 := cutL_mem c _ x hx
  have h2 : s.data.toList.length = s.size := Array.length_toList
  rw [ofL_size]
  omega

/-! what was written is read -/
end Go.Tb
/- Heaps as data: what is found, checked, printed and read. -/
namespace Go.Tb
open Go.Ab

structure Ob where
  id : Int
  size : Int
  type : ByteArray
  refs : List Int
structure Hp where
  objs : List Ob
  roots : List Int
@[reducible] def Ob.c (o : Ob) : List D := [ci o.id, ci o.size, cs o.type, .sl (o.refs.map ic)]
@[reducible] def Hp.c (h : Hp) : List D := [.sl (h.objs.map Ob.c), .sl (h.roots.map ic)]
def hp0 : Hp := ⟨[], []⟩
def ob0 : Ob := ⟨0, 0, B #[], []⟩

def findO (l : List Ob) (id : Int) : Option Nat := l.findIdx? fun o => decide (o.id = id)
def hasI (l : List Ob) (id : Int) : Bool := l.any fun o => decide (o.id = id)
theorem hasI_find (l : List Ob) (id : Int) : hasI l id = (findO l id).isSome := by
  unfold hasI findO
  rw [List.findIdx?_isSome]
def lastLe (p : Option Int) (n : Int) : Bool := match p with | some q => decide (n ≤ q) | none => false
/-- the error of ids that must exist and increase -/
def incErr (l : List Ob) : List Int → Option Int → Int
  | [], _ => 0
  | n :: r, p => if hasI l n = false then 5 else if lastLe p n = true then 11 else incErr l r (some n)
def objErr : List Ob → Option Int → Int
  | [], _ => 0
  | o :: r, p => if o.id < 0 ∨ 1000000000000000 < o.id ∨ o.size < 0 ∨ 1000000000000 < o.size then 2 else if nameErr o.type ≠ 0 then nameErr o.type else if lastLe p o.id = true then 11 else objErr r (some o.id)
def refsErr (l : List Ob) : List Ob → Int
  | [] => 0
  | o :: r => if incErr l o.refs none ≠ 0 then incErr l o.refs none else refsErr l r
def manyH (l : List Ob) : Nat := (l.map fun o => o.refs.length).sum
/-- the sum as the machine has it -/
def manyW (l : List Ob) : Int := l.foldl (fun n o => IntKind.i64.wrap (n + (o.refs.length : Int))) 0
theorem manyW_step {l : List Ob} {k : Nat} {o : Ob} (h : l[k]? = some o) : manyW (l.take (k + 1)) = IntKind.i64.wrap (manyW (l.take k) + (o.refs.length : Int)) := by
  unfold manyW
  rw [List.take_add_one, h, List.foldl_append]
  rfl
def checkH (h : Hp) : Int :=
  if 5000 < h.objs.length ∨ 20000 < manyW h.objs ∨ 5000 < h.roots.length then 7 else if objErr h.objs none ≠ 0 then objErr h.objs none else
    if refsErr h.objs h.objs ≠ 0 then refsErr h.objs h.objs else incErr h.objs h.roots none

/-- the ids' map behind the first objects -/
def idsH (l : List Ob) (k : Nat) : List (Int × Nat) := ((l.take k).zipIdx).foldl (fun m p => mput m p.1.id p.2) []
theorem idsH_step {l : List Ob} {k : Nat} {o : Ob} (h : l[k]? = some o) : idsH l (k + 1) = mput (idsH l k) o.id k := by
  have hlt := (List.getElem?_eq_some_iff.1 h).1
  have e : l.take (k + 1) = l.take k ++ [o] := by rw [List.take_add_one, h]; rfl
  unfold idsH
  rw [e, List.zipIdx_append, List.foldl_append]
  simp [Nat.min_eq_left (Nat.le_of_lt hlt)]
theorem idsH_nodup (l : List Ob) : ∀ k, k ≤ l.length → ((idsH l k).map (·.1)).Nodup
  | 0, _ => by simp [idsH]
  | k + 1, h => by
    have hk : l[k]? = some (l[k]'h) := by simp
    rw [idsH_step hk]
    exact mput_nodup (idsH_nodup l k (by omega)) _ _
theorem idsH_get (l : List Ob) (n : Int) : ∀ k, k ≤ l.length → (mget (idsH l k) n).isSome = hasI (l.take k) n
  | 0, _ => by simp [idsH, mget_nil, hasI]
  | k + 1, h => by
    have hk : l[k]? = some (l[k]'h) := by simp
    have e : l.take (k + 1) = l.take k ++ [l[k]'h] := by rw [List.take_add_one, hk]; rfl
    rw [idsH_step hk, mget_mput, e]
    have ih := idsH_get l n k (by omega)
    unfold hasI at ih ⊢
    rw [List.any_append, ← ih]
    by_cases q : (l[k]'h).id = n
    · simp [q]
    · simp [q]
theorem idsH_all (l : List Ob) (n : Int) : (mget (idsH l l.length) n).isSome = hasI l n := by
  rw [idsH_get l n _ (Nat.le_refl _), List.take_length]

/-- texts put together -/
def catB (l : List ByteArray) : ByteArray := l.foldl (· ++ ·) (B #[])
theorem catB_snoc (l : List ByteArray) (x : ByteArray) : catB (l ++ [x]) = catB l ++ x := by unfold catB; rw [List.foldl_append]; rfl
theorem catB_take {l : List ByteArray} {k : Nat} {x : ByteArray} (h : l[k]? = some x) : catB (l.take (k + 1)) = catB (l.take k) ++ x := by
  rw [List.take_add_one, h]; exact catB_snoc _ _
theorem bapp (a b c : ByteArray) : a ++ b ++ c = a ++ (b ++ c) := ByteArray.append_assoc
theorem bnil (a : ByteArray) : a ++ B #[] = a := data_inj (by simp)
theorem nilb (a : ByteArray) : B #[] ++ a = a := data_inj (by simp)
theorem catB_go : ∀ (l : List ByteArray) (a : ByteArray), l.foldl (· ++ ·) a = a ++ catB l
  | [], a => (bnil a).symm
  | x :: l, a => by
    unfold catB
    rw [List.foldl_cons, List.foldl_cons, catB_go l (a ++ x), catB_go l (B #[] ++ x), nilb, bapp]
theorem catB_cons (x : ByteArray) (l : List ByteArray) : catB (x :: l) = x ++ catB l := by
  have := catB_go l (B #[] ++ x)
  rw [nilb] at this
  exact (congrArg (fun z => l.foldl (· ++ ·) z) (nilb x)).trans this
abbrev kObj : ByteArray := B #[111, 98, 106]
abbrev kRoots : ByteArray := B #[114, 111, 111, 116, 115]
abbrev bSp : ByteArray := B #[32]
abbrev bNl : ByteArray := B #[10]
def headO (o : Ob) : List ByteArray := [kObj, numB o.id, numB o.size, o.type]
def lineB (ws : List ByteArray) (l : List Int) : ByteArray := joinB (ws ++ l.map numB) bSp ++ bNl
def lineO (o : Ob) : ByteArray := lineB (headO o) o.refs
def rootsB (l : List Int) : ByteArray := if l = [] then B #[] else lineB [kRoots] l
def bodyH (h : Hp) : ByteArray := catB (h.objs.map lineO) ++ rootsB h.roots
def printH (h : Hp) : ByteArray × Int := if checkH h ≠ 0 then (B #[], checkH h) else if 65536 < (bodyH h).size then (B #[], 7) else (bodyH h, 0)

def numsW : List ByteArray → Option (List Int)
  | [] => some []
  | w :: r => if (numP w).2 then (match numsW r with | some l => some ((numP w).1 :: l) | none => none) else none
def objW (ws : List ByteArray) : Option Ob :=
  if ws.length < 4 ∨ ws.getD 0 (B #[]) ≠ kObj ∨ ws.getD 3 (B #[]) = B #[] then none else
    match numsW ((ws.take 3).drop 1), numsW (ws.drop 4) with
    | some h, some r => some ⟨h.getD 0 0, h.getD 1 0, ws.getD 3 (B #[]), r⟩
    | _, _ => none
def rootsW (ws : List ByteArray) : Option (List Int) :=
  if ws.getD 0 (B #[]) ≠ kRoots ∨ ws.length < 2 then none else numsW (ws.drop 1)
def finH (h : Hp) : Hp × Int × Int := if checkH h ≠ 0 then (hp0, 0, checkH h) else (h, 0, 0)
def impL : List ByteArray → Nat → Hp → Hp × Int × Int
  | [], i, _ => (hp0, i, 10)
  | [l], i, h => if l = B #[] then finH h else (hp0, i, 10)
  | l :: m :: r, i, h => match objW (cutB l 32) with
    | some o => impL (m :: r) (i + 1) ⟨h.objs ++ [o], h.roots⟩
    | none => match (if r = [] ∧ m = B #[] then rootsW (cutB l 32) else none) with
      | some q => impL (m :: r) (i + 1) ⟨h.objs, q⟩
      | none => (hp0, i, 10)
def importH (s : ByteArray) : Hp × Int × Int := if 65536 < s.size then (hp0, 0, 7) else impL (cutB s 10) 1 hp0

theorem cutL_first (c : UInt8) : ∀ l, cutL c l = if (Lib.cut l [c]).2.2 then (Lib.cut l [c]).1 :: cutL c (Lib.cut l [c]).2.1 else [l]
  | [] => by
    have e : Lib.index [] [c] = -1 := by simp [Lib.index]
    simp [Lib.cut, e, cutL]
  | b :: r => by
    have ih := cutL_first c r
    by_cases h : b = c
    · subst h
      have e := index_cons_eq b r
      simp [Lib.cut, e, cutL]
    · have hi := index_cons_ne r h
      have hge := Lib.index_ge r [c]
      by_cases hm : Lib.index r [c] = -1
      · have e : Lib.index (b :: r) [c] = -1 := by rw [hi, hm]; rfl
        have e2 : cutL c r = [r] := by rw [ih]; simp [Lib.cut, hm]
        simp [Lib.cut, e, cutL, h, e2]
      · obtain ⟨j, hj⟩ : ∃ j : Nat, Lib.index r [c] = j := ⟨(Lib.index r [c]).toNat, by omega⟩
        have e : Lib.index (b :: r) [c] = ((j + 1 : Nat) : Int) := by rw [hi, hj, if_neg (by simp)]; try rfl
        have e1 : Lib.cut (b :: r) [c] = (b :: r.take j, r.drop (j + 1), true) := by unfold Lib.cut; rw [e, if_pos (by omega)]; simp
        have e2 : Lib.cut r [c] = (r.take j, r.drop (j + 1), true) := by unfold Lib.cut; rw [hj, if_pos (by omega)]; simp
        rw [e2] at ih
        rw [e1]
        simp only [cutL, if_neg h, ih, if_true, List.headD_cons, List.tail_cons]
/-- cut off the first line -/
theorem cutB_first (s : ByteArray) (c : UInt8) : cutB s c = if (Lib.cut s.data.toList [c]).2.2 then ofL (Lib.cut s.data.toList [c]).1 :: cutB (ofL (Lib.cut s.data.toList [c]).2.1) c else [s] := by
  unfold cutB
  rw [cutL_first c s.data.toList]
  split
  · simp [ofL_data]
  · simp [ofL_bys]
end Go.Tb
/- The reference's way to read an event. -/
namespace Go.Tb
open Go.Ab

end Go.Tb
/- A valid event's text is read back. -/
namespace Go.Tb
open Go.Ab

theorem joinB_sum (sep : ByteArray) : ∀ (l : List ByteArray), (joinB l sep).size ≤ (l.map ByteArray.size).sum + l.length * sep.size
  | [] => by simp [joinB, ofL_size, Lib.join_nil]
  | [x] => by
    have e : (joinB [x] sep).size = x.size := by
      rw [joinB, ofL_size, List.map_singleton, Lib.join_one]
      exact Array.length_toList
    rw [e]
    simp
  | x :: y :: r => by
    have ih := joinB_sum sep (y :: r)
    have e : (joinB (x :: y :: r) sep).size = x.size + sep.size + (joinB (y :: r) sep).size := by
      simp only [joinB, ofL_size, List.map_cons, join_two, List.length_append]
      have e1 : x.data.toList.length = x.size := Array.length_toList
      have e2 : sep.data.toList.length = sep.size := Array.length_toList
      omega
    rw [e]
    simp only [List.map_cons, List.sum_cons, List.length_cons, Nat.succ_mul] at ih ⊢
    omega
end Go.Tb
/- What a valid heap is, and how long its text is. -/
namespace Go.Tb
open Go.Ab

theorem incErr_mem {l : List Ob} : ∀ {r : List Int} {p : Option Int}, incErr l r p = 0 → ∀ n ∈ r, hasI l n = true
  | [], _, _, n, hn => by cases hn
  | m :: r, p, h, n, hn => by
    simp only [incErr] at h
    by_cases h1 : hasI l m = false
    · rw [if_pos h1] at h; omega
    · rw [if_neg h1] at h
      by_cases h2 : lastLe p m = true
      · rw [if_pos h2] at h; omega
      · rw [if_neg h2] at h
        rcases List.mem_cons.1 hn with rfl | hn
        · simpa using h1
        · exact incErr_mem h n hn
theorem refsErr_mem {l : List Ob} : ∀ {r : List Ob}, refsErr l r = 0 → ∀ o ∈ r, incErr l o.refs none = 0
  | [], _, o, ho => by cases ho
  | m :: r, h, o, ho => by
    simp only [refsErr] at h
    by_cases h1 : incErr l m.refs none ≠ 0
    · rw [if_pos h1] at h; exact absurd h h1
    · rw [if_neg h1] at h
      rcases List.mem_cons.1 ho with rfl | ho
      · simpa using h1
      · exact refsErr_mem h o ho
theorem objErr_mem : ∀ {r : List Ob} {p : Option Int}, objErr r p = 0 → ∀ o ∈ r, (0 ≤ o.id ∧ o.id ≤ 1000000000000000 ∧ 0 ≤ o.size ∧ o.size ≤ 1000000000000) ∧ nameErr o.type = 0
  | [], _, _, o, ho => by cases ho
  | m :: r, p, h, o, ho => by
    simp only [objErr] at h
    split at h
    · omega
    · rename_i h1
      split at h
      · rename_i h2; exact absurd h h2
      · rename_i h2
        split at h
        · omega
        · rcases List.mem_cons.1 ho with rfl | ho
          · exact ⟨by omega, by omega⟩
          · exact objErr_mem h o ho
structure GoodH (h : Hp) : Prop where
  len : h.objs.length ≤ 5000
  wmany : manyW h.objs ≤ 20000
  rlen : h.roots.length ≤ 5000
  obj : objErr h.objs none = 0
  refs : refsErr h.objs h.objs = 0
  roots : incErr h.objs h.roots none = 0
theorem goodH {h : Hp} : checkH h = 0 ↔ GoodH h := by
  unfold checkH
  constructor
  · intro q
    split at q
    · omega
    · rename_i h1
      split at q
      · rename_i h2; exact absurd q h2
      · rename_i h2
        split at q
        · rename_i h3; exact absurd q h3
        · rename_i h3
          exact ⟨by omega, by omega, by omega, by omega, by omega, q⟩
  · rintro ⟨h1, h2, h3, h4, h5, h6⟩
    rw [if_neg (by omega), if_neg (by simp [h4]), if_neg (by simp [h5]), h6]
theorem hasI_range {h : Hp} (g : GoodH h) {n : Int} (hn : hasI h.objs n = true) : 0 ≤ n ∧ n ≤ 1000000000000000 := by
  simp only [hasI, List.any_eq_true, decide_eq_true_eq] at hn
  obtain ⟨o, ho, rfl⟩ := hn
  have := (objErr_mem g.obj o ho).1
  omega
theorem length_sub : ∀ {r s : List Int}, r.Nodup → (∀ n ∈ r, n ∈ s) → r.length ≤ s.length
  | [], s, _, _ => Nat.zero_le _
  | a :: t, s, hn, hs => by
    rw [List.nodup_cons] at hn
    have ha : a ∈ s := hs a (by simp)
    have h1 := length_sub (r := t) (s := s.erase a) hn.2 fun n hm => by
      have hne : n ≠ a := fun e => hn.1 (e ▸ hm)
      exact (List.mem_erase_of_ne hne).2 (hs n (by simp [hm]))
    have h2 := List.length_erase_of_mem ha
    have h3 : 0 < s.length := List.length_pos_of_mem ha
    simp only [List.length_cons]
    omega
theorem incErr_lt {l : List Ob} : ∀ {r : List Int} {p : Option Int}, incErr l r p = 0 → (∀ q, p = some q → ∀ n ∈ r, q < n) ∧ r.Nodup
  | [], _, _ => ⟨fun _ _ n hn => (by cases hn), .nil⟩
  | m :: r, p, h => by
    simp only [incErr] at h
    split at h
    · omega
    · split at h
      · omega
      · rename_i h3
        obtain ⟨h4, h5⟩ := incErr_lt h
        refine ⟨fun q hq n hn => ?_, List.nodup_cons.2 ⟨fun hm => by have := h4 m rfl m hm; omega, h5⟩⟩
        have hm : q < m := by
          subst hq
          simp [lastLe] at h3
          omega
        rcases List.mem_cons.1 hn with rfl | hn
        · exact hm
        · have := h4 m rfl n hn; omega
theorem incErr_len {l : List Ob} {r : List Int} (h : incErr l r none = 0) : r.length ≤ l.length := by
  have h1 := length_sub (r := r) (s := l.map Ob.id) (incErr_lt h).2 fun n hn => by
    have := incErr_mem h n hn
    simp only [hasI, List.any_eq_true, decide_eq_true_eq] at this
    obtain ⟨o, ho, rfl⟩ := this
    exact List.mem_map_of_mem ho
  simpa using h1
theorem manyW_eq {M : Nat} {l : List Ob} (h : ∀ o ∈ l, o.refs.length ≤ M) (hb : l.length * M ≤ 1000000000) : manyW l = (manyH l : Int) ∧ manyH l ≤ l.length * M := by
  have key : ∀ k, k ≤ l.length → manyW (l.take k) = (manyH (l.take k) : Int) ∧ manyH (l.take k) ≤ k * M := by
    intro k
    induction k with
    | zero => intro _; exact ⟨rfl, Nat.zero_le _⟩
    | succ k ih =>
      intro hk
      obtain ⟨o, hx⟩ : ∃ o, l[k]? = some o := ⟨l[k]'hk, by simp⟩
      obtain ⟨h1, h2⟩ := ih (by omega)
      have h3 := h _ (List.mem_of_getElem? hx)
      have h4 : manyH (l.take (k + 1)) = manyH (l.take k) + o.refs.length := by
        unfold manyH
        rw [List.take_add_one, hx]
        simp
      have h5 : (k + 1) * M ≤ l.length * M := Nat.mul_le_mul_right _ hk
      rw [Nat.succ_mul] at h5 ⊢
      refine ⟨?_, by omega⟩
      rw [manyW_step hx, h1, h4]
      rw [wrap64 (by omega)]
      omega
  have := key l.length (Nat.le_refl _)
  rw [List.take_length] at this
  exact this
theorem GoodH.refsLen {h : Hp} (g : GoodH h) {o : Ob} (ho : o ∈ h.objs) : o.refs.length ≤ 5000 := Nat.le_trans (incErr_len (refsErr_mem g.refs o ho)) g.len
theorem GoodH.many {h : Hp} (g : GoodH h) : manyH h.objs ≤ 20000 := by
  have h1 := manyW_eq (M := 5000) (fun o ho => g.refsLen ho) (by have := g.len; omega)
  have := g.wmany
  omega
theorem GoodH.refIn {h : Hp} (g : GoodH h) {o : Ob} (ho : o ∈ h.objs) {n : Int} (hn : n ∈ o.refs) : inR n = true := by
  have := hasI_range g (incErr_mem (refsErr_mem g.refs o ho) n hn)
  rw [inR_iff]; omega
theorem GoodH.rootIn {h : Hp} (g : GoodH h) {n : Int} (hn : n ∈ h.roots) : inR n = true := by
  have := hasI_range g (incErr_mem g.roots n hn)
  rw [inR_iff]; omega
theorem GoodH.idIn {h : Hp} (g : GoodH h) {o : Ob} (ho : o ∈ h.objs) : inR o.id = true ∧ inR o.size = true := by
  have := (objErr_mem g.obj o ho).1
  rw [inR_iff, inR_iff]; omega
theorem sum_le {M : Nat} : ∀ {l : List Int}, (∀ n ∈ l, (numB n).size ≤ M) → ((l.map numB).map ByteArray.size).sum ≤ l.length * M
  | [], _ => by simp
  | n :: l, h => by
    have h1 := h n (by simp)
    have h2 := sum_le (l := l) fun m hm => h m (by simp [hm])
    simp only [List.map_cons, List.sum_cons, List.length_cons, Nat.succ_mul]
    omega
theorem lineB_size {ws : List ByteArray} {l : List Int} (hl : ∀ n ∈ l, inR n = true) : (joinB (ws ++ l.map numB) bSp).size ≤ (ws.map ByteArray.size).sum + ws.length + 18 * l.length := by
  have h1 := joinB_sum bSp (ws ++ l.map numB)
  have h2 := sum_le (M := 17) (l := l) fun n hn => numB_small (hl n hn)
  have h3 : bSp.size = 1 := rfl
  rw [h3, List.map_append, List.sum_append, List.length_append, List.length_map] at h1
  omega
theorem lineB_eq (ws : List ByteArray) (l : List Int) : (lineB ws l).size = (joinB (ws ++ l.map numB) bSp).size + 1 := by
  unfold lineB
  rw [ByteArray.size_append]
  rfl
theorem GoodH.lineO {h : Hp} (g : GoodH h) {o : Ob} (ho : o ∈ h.objs) : (joinB (headO o ++ o.refs.map numB) bSp).size ≤ 81 + 18 * o.refs.length := by
  have h1 := lineB_size (ws := headO o) (l := o.refs) fun n hn => g.refIn ho hn
  have h2 := numB_small (g.idIn ho).1
  have h3 := numB_small (g.idIn ho).2
  have h4 := (name_ok (objErr_mem g.obj o ho).2).1
  have h5 : kObj.size = 3 := rfl
  have h6 : ((headO o).map ByteArray.size).sum = kObj.size + ((numB o.id).size + ((numB o.size).size + (o.type.size + 0))) := rfl
  have h7 : (headO o).length = 4 := rfl
  omega
theorem refs_many : ∀ {l : List Ob} {o : Ob}, o ∈ l → o.refs.length ≤ manyH l
  | [], o, ho => by cases ho
  | m :: l, o, ho => by
    have e : manyH (m :: l) = m.refs.length + manyH l := rfl
    rcases List.mem_cons.1 ho with rfl | ho
    · omega
    · have := refs_many ho; omega
theorem catB_size : ∀ l : List ByteArray, (catB l).size = (l.map ByteArray.size).sum
  | [] => rfl
  | x :: l => by rw [catB_cons, ByteArray.size_append, catB_size l]; rfl
theorem linesSum {h : Hp} (g : GoodH h) : ∀ l : List Ob, (∀ o ∈ l, o ∈ h.objs) → ((l.map lineO).map ByteArray.size).sum ≤ 82 * l.length + 18 * manyH l
  | [], _ => by simp
  | o :: l, hl => by
    have h1 := linesSum g l fun q hq => hl q (by simp [hq])
    have h2 := g.lineO (hl o (by simp))
    have h3 := lineB_eq (headO o) o.refs
    simp only [List.map_cons, List.sum_cons, List.length_cons, manyH] at h1 ⊢
    unfold Go.Tb.lineO at h1 ⊢
    omega
theorem GoodH.cat {h : Hp} (g : GoodH h) (k : Nat) : (catB ((h.objs.map Go.Tb.lineO).take k)).size ≤ 770000 := by
  rw [catB_size, ← List.map_take]
  have h1 := linesSum g (h.objs.take k) fun o ho => List.mem_of_mem_take ho
  have h2 : (h.objs.take k).length ≤ h.objs.length := List.length_take_le' _ _
  have h3 : manyH (h.objs.take k) ≤ manyH h.objs := by
    have e : manyH h.objs = manyH (h.objs.take k) + manyH (h.objs.drop k) := by
      unfold manyH
      rw [← List.sum_append, ← List.map_append, List.take_append_drop]
    omega
  have := g.len
  have := g.many
  omega
theorem GoodH.rootsLine {h : Hp} (g : GoodH h) : (joinB ([kRoots] ++ h.roots.map numB) bSp).size ≤ 90010 := by
  have h1 := lineB_size (ws := [kRoots]) (l := h.roots) fun n hn => g.rootIn hn
  have h5 : kRoots.size = 5 := rfl
  simp only [List.map_cons, List.map_nil, List.sum_cons, List.sum_nil, List.length_cons, List.length_nil] at h1
  have := g.rlen
  omega
theorem GoodH.body {h : Hp} (g : GoodH h) : (bodyH h).size ≤ 900000 := by
  unfold bodyH rootsB
  have h1 := g.cat h.objs.length
  rw [List.take_of_length_le (by simp)] at h1
  rw [ByteArray.size_append]
  split
  · have : (B #[]).size = 0 := rfl
    omega
  · have h2 := g.rootsLine
    have h3 := lineB_eq [kRoots] h.roots
    omega
end Go.Tb
/- A heap's text, line by line. -/
namespace Go.Tb
open Go.Ab

def numsA (ws : List ByteArray) : List Int × Bool := match numsW ws with | some l => (l, true) | none => ([], false)
abbrev cutF (t : ByteArray) : ByteArray := ofL (Lib.cut t.data.toList [10]).1
abbrev cutN (t : ByteArray) : ByteArray := ofL (Lib.cut t.data.toList [10]).2.1
abbrev cutE (t : ByteArray) : Bool := (Lib.cut t.data.toList [10]).2.2
theorem numP_empty : numP (B #[]) = (0, false) := by decide +kernel
theorem numsW_empty : ∀ {l : List ByteArray}, B #[] ∈ l → numsW l = none
  | [], h => by cases h
  | w :: r, h => by
    simp only [numsW]
    rcases List.mem_cons.1 h with e | h
    · rw [← e, numP_empty]; rfl
    · rw [numsW_empty h]; split <;> rfl
theorem numsW_len : ∀ {l : List ByteArray} {r : List Int}, numsW l = some r → r.length = l.length
  | [], r, h => by simp only [numsW, Option.some.injEq] at h; subst h; rfl
  | w :: l, r, h => by
    simp only [numsW] at h
    split at h
    · cases q : numsW l with
      | none => rw [q] at h; cases h
      | some r2 => rw [q] at h; simp only [Option.some.injEq] at h; subst h; simp [numsW_len q]
    · cases h
def stepI (E : Bool) (ws : List ByteArray) (N : ByteArray) (h : Hp) : Bool × Hp :=
  if E = false ∨ (ws.any fun x => decide (B #[] = x)) = true then (true, h) else
    if ws.getD 0 (B #[]) = kObj ∧ 4 ≤ ws.length then
      (if (numsA ((ws.take 3).drop 1)).2 = true ∧ (numsA (ws.drop 4)).2 = true then (false, ⟨h.objs ++ [⟨(numsA ((ws.take 3).drop 1)).1.getD 0 0, (numsA ((ws.take 3).drop 1)).1.getD 1 0, ws.getD 3 (B #[]), (numsA (ws.drop 4)).1⟩], h.roots⟩) else (true, h))
    else if ws.getD 0 (B #[]) = kRoots ∧ 2 ≤ ws.length ∧ N = B #[] then (!(numsA (ws.drop 1)).2, ⟨h.objs, (numsA (ws.drop 1)).1⟩) else (true, h)

theorem cutB_empty {N : ByteArray} {c : UInt8} {m : ByteArray} {r : List ByteArray} (h : cutB N c = m :: r) : (r = [] ∧ m = B #[]) ↔ N = B #[] := by
  constructor
  · rintro ⟨rfl, rfl⟩
    have := join_cut c N.data.toList
    unfold cutB at h
    have h2 : cutL c N.data.toList = [[]] := by
      cases q : cutL c N.data.toList with
      | nil => exact absurd q (cutL_ne c _)
      | cons a t =>
        rw [q] at h
        simp only [List.map_cons, List.cons.injEq, List.map_eq_nil_iff] at h
        rw [h.2]
        have := congrArg (fun s : ByteArray => s.data.toList) h.1
        simp [ofL_data] at this
        rw [this]
    rw [h2] at this
    refine data_inj ?_
    rw [← this]
    simp [Lib.join_one]
  · rintro rfl
    have e : cutB (B #[]) c = [B #[]] := by unfold cutB; simp [cutL]; rfl
    rw [e] at h
    simp only [List.cons.injEq] at h
    exact ⟨h.2.symm, h.1.symm⟩
theorem any_empty (ws : List ByteArray) : (ws.any fun x => decide (B #[] = x)) = true ↔ B #[] ∈ ws := by simp
theorem imp_step {t : ByteArray} (ht : t ≠ B #[]) (i : Nat) (h : Hp) : impL (cutB t 10) i h =
    if (stepI (cutE t) (cutB (cutF t) 32) (cutN t) h).1 then (hp0, (i : Int), 10) else impL (cutB (cutN t) 10) (i + 1) (stepI (cutE t) (cutB (cutF t) 32) (cutN t) h).2 := by
  rw [cutB_first t 10]
  cases hE : (Lib.cut t.data.toList [10]).2.2 with
  | false =>
    have e : stepI false (cutB (cutF t) 32) (cutN t) h = (true, h) := by unfold stepI; rw [if_pos (.inl rfl)]
    have hE' : cutE t = false := hE
    rw [hE', e]
    simp only [Bool.false_eq_true, if_false, if_true, impL, if_neg ht]
  | true =>
    have hE' : cutE t = true := hE
    rw [hE', if_pos rfl]
    show impL (cutF t :: cutB (cutN t) 10) i h = _
    generalize hws : cutB (cutF t) 32 = ws
    generalize hN : cutN t = N
    obtain ⟨m, r, hmr⟩ : ∃ m r, cutB N 10 = m :: r := by
      obtain ⟨a, b, e⟩ := cutL_cons 10 N.data.toList
      exact ⟨ofL a, b.map ofL, by unfold cutB; rw [e]; rfl⟩
    rw [hmr]
    simp only [impL]
    rw [hws]
    have hNe := cutB_empty hmr
    by_cases he : B #[] ∈ ws
    · have e : stepI true ws N h = (true, h) := by unfold stepI; rw [if_pos (.inr ((any_empty ws).2 he))]
      have e1 : objW ws = none := by
        unfold objW
        split
        · rfl
        · rename_i q
          have hlen : 4 ≤ ws.length := by omega
          have h0 : ws.getD 0 (B #[]) = kObj := by
            by_cases z : ws.getD 0 (B #[]) = kObj
            · exact z
            · exact absurd (.inr (.inl z)) q
          have h3 : ws.getD 3 (B #[]) ≠ B #[] := fun z => q (.inr (.inr z))
          obtain ⟨j, hj⟩ := List.mem_iff_getElem?.1 he
          have hd : ∀ k, k < ws.length → ws.getD k (B #[]) ≠ B #[] → j ≠ k := fun k hk hne e => hne (by rw [List.getD_eq_getElem?_getD, ← e, hj]; rfl)
          have hj0 := hd 0 (by omega) (by rw [h0]; decide)
          have hj3 := hd 3 (by omega) h3
          rcases Nat.lt_or_ge j 4 with q4 | q4
          · have : B #[] ∈ (ws.take 3).drop 1 := List.mem_iff_getElem?.2 ⟨j - 1, by rw [List.getElem?_drop, List.getElem?_take, if_pos (by omega), show 1 + (j - 1) = j by omega]; exact hj⟩
            rw [numsW_empty this]
          · have : B #[] ∈ ws.drop 4 := List.mem_iff_getElem?.2 ⟨j - 4, by rw [List.getElem?_drop, show 4 + (j - 4) = j by omega]; exact hj⟩
            rw [numsW_empty this]
            cases numsW ((ws.take 3).drop 1) <;> rfl
      have e2 : rootsW ws = none := by
        unfold rootsW
        split
        · rfl
        · rename_i q
          have h0 : ws.getD 0 (B #[]) = kRoots := by
            by_cases z : ws.getD 0 (B #[]) = kRoots
            · exact z
            · exact absurd (.inl z) q
          obtain ⟨j, hj⟩ := List.mem_iff_getElem?.1 he
          have hj0 : j ≠ 0 := fun e => by
            have : ws.getD 0 (B #[]) = B #[] := by rw [List.getD_eq_getElem?_getD, ← e, hj]; rfl
            rw [this] at h0
            exact absurd h0 (by decide)
          have : B #[] ∈ ws.drop 1 := List.mem_iff_getElem?.2 ⟨j - 1, by rw [List.getElem?_drop, show 1 + (j - 1) = j by omega]; exact hj⟩
          rw [numsW_empty this]
      rw [e, e1, e2]
      simp
    · have hne : ¬ (true = false ∨ (ws.any fun x => decide (B #[] = x)) = true) := by rw [any_empty]; simp [he]
      unfold stepI
      rw [if_neg hne]
      by_cases ho : ws.getD 0 (B #[]) = kObj ∧ 4 ≤ ws.length
      · rw [if_pos ho]
        have h3 : ws.getD 3 (B #[]) ≠ B #[] := by
          have hlt : 3 < ws.length := by omega
          have : ws.getD 3 (B #[]) = ws[3] := by simp [List.getD_eq_getElem?_getD, hlt]
          rw [this]
          exact fun e => he (e ▸ List.getElem_mem hlt)
        have er : rootsW ws = none := by unfold rootsW; rw [if_pos (.inl (by rw [ho.1]; decide))]
        have eo : objW ws = match numsW ((ws.take 3).drop 1), numsW (ws.drop 4) with | some h, some r => some ⟨h.getD 0 0, h.getD 1 0, ws.getD 3 (B #[]), r⟩ | _, _ => none := by
          unfold objW
          refine if_neg ?_
          rintro (q | q | q)
          · omega
          · exact q ho.1
          · exact h3 q
        rw [eo, er]
        unfold numsA
        cases q1 : numsW ((ws.take 3).drop 1) <;> cases q2 : numsW (ws.drop 4) <;> simp
      · rw [if_neg ho]
        have eo : objW ws = none := by
          unfold objW
          rw [if_pos]
          by_cases z : ws.getD 0 (B #[]) = kObj
          · exact .inl (Nat.lt_of_not_le fun q => ho ⟨z, q⟩)
          · exact .inr (.inl z)
        rw [eo]
        simp only [hNe]
        by_cases hr : ws.getD 0 (B #[]) = kRoots ∧ 2 ≤ ws.length ∧ N = B #[]
        · rw [if_pos hr, if_pos hr.2.2]
          have er : rootsW ws = numsW (ws.drop 1) := by
            unfold rootsW
            rw [if_neg]
            rintro (q | q)
            · exact q hr.1
            · omega
          rw [er]
          unfold numsA
          cases q : numsW (ws.drop 1) <;> simp
        · rw [if_neg hr]
          have er : (if N = B #[] then rootsW ws else none) = none := by
            split
            · rename_i q
              unfold rootsW
              rw [if_pos]
              by_cases z : ws.getD 0 (B #[]) = kRoots
              · exact .inr (Nat.lt_of_not_le fun q2 => hr ⟨z, q2, q⟩)
              · exact .inl z
            · rfl
          rw [er]
          simp
end Go.Tb
namespace Go.Tb
open Go.Ab
theorem numsA_len {ws : List ByteArray} (h : (numsA ws).2 = true) : (numsA ws).1.length = ws.length := by
  unfold numsA at h ⊢
  cases q : numsW ws with
  | none => rw [q] at h; cases h
  | some l => exact numsW_len q
theorem cut_sizes (t : ByteArray) : (cutF t).size + (cutN t).size + (if cutE t then 1 else 0) ≤ t.size := by
  have e1 : (cutF t).size = (Lib.cut t.data.toList [10]).1.length := ofL_size _
  have e2 : (cutN t).size = (Lib.cut t.data.toList [10]).2.1.length := ofL_size _
  have e3 : t.data.toList.length = t.size := Array.length_toList
  rw [e1, e2]
  unfold cutE Lib.cut
  split
  · rename_i h
    have hlt : (Lib.index t.data.toList [10]).toNat < t.data.toList.length := by
      have := Lib.index_room t.data.toList [10] h
      simp only [List.length_singleton] at this
      omega
    simp only [List.length_take, List.length_drop, List.length_singleton, if_true]
    omega
  · simp
theorem cutB_len (s : ByteArray) (c : UInt8) : 0 < (cutB s c).length ∧ (cutB s c).length ≤ s.size + 1 := by
  obtain ⟨x, t, e⟩ := cutL_cons c s.data.toList
  have h1 := cutL_len c s.data.toList
  have h2 : s.data.toList.length = s.size := Array.length_toList
  unfold cutB
  rw [List.length_map]
  refine ⟨by rw [e]; simp, by omega⟩
theorem stepI_ok {E : Bool} {ws : List ByteArray} {N : ByteArray} {h : Hp} (q : (stepI E ws N h).1 = false) :
    E = true ∧ (stepI E ws N h).2.objs.length ≤ h.objs.length + 1 ∧ manyH (stepI E ws N h).2.objs ≤ manyH h.objs + (ws.length - 4) := by
  unfold stepI at q ⊢
  split at q
  · cases q
  · rename_i h1
    have hE : E = true := by cases E; exact absurd (.inl rfl) h1; rfl
    rw [if_neg h1]
    split at q
    · rename_i h2
      rw [if_pos h2]
      split at q
      · rename_i h3
        rw [if_pos h3]
        refine ⟨hE, by simp, ?_⟩
        have := numsA_len h3.2
        rw [List.length_drop] at this
        unfold manyH
        simp
        omega
      · cases q
    · rename_i h2
      rw [if_neg h2]
      split at q
      · rename_i h3
        rw [if_pos h3]
        exact ⟨hE, by simp, by simp⟩
      · cases q
theorem imp_empty (i : Nat) (h : Hp) : impL (cutB (B #[]) 10) i h = finH h := by
  have e : cutB (B #[]) 10 = [B #[]] := by unfold cutB; simp [cutL]; rfl
  rw [e]
  simp only [impL, if_true]
end Go.Tb
/- Regions that draw their order and hold one operation that turns the ghost (a call that lends, a store, an append): one walk of the text's order serves every order. -/
namespace Go.Ab
open Go.RowKit

/-! ### whatever the states are -/
section
variable {P : Program} {ops : Array Oper} {md : Region.Mode} {m : Nat} {S E : Type} (Y : Nat → E → S → Prop) (ef : Nat → E → S → S)

/-- what is listed waits for nothing that is not -/
def Closed (md : Region.Mode) (ops : Array Oper) (listed : Array Bool) : Prop :=
  ∀ j oj, ops[j]? = some oj → listed.getD j false = true → ∀ e ∈ oj.after, Region.binds md e = true → listed.getD e.on false = true
/-- operation j comes behind operation i, by whatever way -/
def reachB (md : Region.Mode) (ops : Array Oper) : Nat → Nat → Nat → Bool
  | 0, _, _ => false
  | k + 1, j, i => behindB md ops j i || (match ops[j]? with | some o => o.after.toList.any fun e => Region.binds md e && reachB md ops k e.on i | none => false)
theorem reach_listed {listed : Array Bool} (hc : Closed md ops listed) : ∀ (k j i : Nat), reachB md ops k j i = true → (∀ oj, ops[j]? = some oj → ∀ e ∈ oj.after, Region.binds md e = true → listed.getD e.on false = true) → listed.getD i false = true
  | 0, _, _, h, _ => by simp [reachB] at h
  | k + 1, j, i, h, hj => by
    simp only [reachB, Bool.or_eq_true] at h
    cases hoj : ops[j]? with
    | none =>
      rw [hoj] at h
      simp [behindB, hoj] at h
    | some oj =>
      rcases h with h | h
      · obtain ⟨e, he, hb, heq⟩ := behindB_spec hoj h
        rw [← heq]
        exact hj oj hoj e he hb
      · rw [hoj] at h
        obtain ⟨e, he, hb⟩ := List.any_eq_true.1 h
        simp only [Bool.and_eq_true] at hb
        have he' : e ∈ oj.after := by simpa using he
        have hl := hj oj hoj e he' hb.1
        exact reach_listed hc k e.on i hb.2 fun o ho e' he'' hb' => hc e.on o ho hl e' he'' hb'
/-- the last part waits for all of the first, and for what stands before it -/
def waitT (md : Region.Mode) (ops : Array Oper) (m : Nat) : Bool := (List.range ops.size).all fun j => decide (j < m) || (List.range j).all fun i => reachB md ops ops.size j i
theorem waitsT {j : Nat} (h : waitT md ops m = true) (hm : m ≤ j) {i : Nat} (hij : i < j) {listed : Array Bool} (hc : Closed md ops listed) (hj : j ∈ Region.ready md ops listed) : listed.getD i false = true := by
  obtain ⟨_, oj, hoj, hall⟩ := mem_ready.1 hj
  have hlt : j < ops.size := (Array.getElem?_eq_some_iff.1 hoj).1
  have h1 := List.all_eq_true.1 h j (by simpa using hlt)
  simp only [Bool.or_eq_true, decide_eq_true_eq] at h1
  have h2 := List.all_eq_true.1 (h1.resolve_left (by omega)) i (by simpa using hij)
  exact reach_listed hc _ j i h2 fun o ho e he hb => by rw [hoj] at ho; cases ho; exact hall e he hb
theorem Closed.add {listed : Array Bool} (hc : Closed md ops listed) {i : Nat} (hi : i ∈ Region.ready md ops listed) : Closed md ops (listed.setIfInBounds i true) := by
  intro j oj hoj hl e he hb
  obtain ⟨_, oi, hoi, hall⟩ := mem_ready.1 hi
  by_cases hji : i = j
  · subst hji
    rw [hoi] at hoj
    cases hoj
    exact getD_set_true (hall e he hb)
  · rw [getD_set_ne false hji] at hl
    exact getD_set_true (hc j oj hoj hl e he hb)

def wpG (m : Nat) (md : Region.Mode) (ops : Array Oper) (Q : S → Prop) : Nat → Array Bool → S → Prop
  | 0, listed, σ => Split m ops listed ∧ Q σ
  | fuel + 1, listed, σ => Region.ready md ops listed ≠ [] ∧ ∀ i ∈ Region.ready md ops listed, ∃ e, Y i e σ ∧ wpG m md ops Q fuel (listed.setIfInBounds i true) (ef i e σ)
/-- two operations may change places -/
def Swap (i j : Nat) : Prop := ∀ e e' σ, Y i e σ → Y j e' (ef i e σ) → Y j e' σ ∧ Y i e (ef j e' σ) ∧ ef j e' (ef i e σ) = ef i e (ef j e' σ)

variable {Y} {ef}
/-- the walk in the text's order -/
def ceG (Y : Nat → E → S → Prop) (ef : Nat → E → S → S) (Q : S → Prop) : List Oper → Nat → S → Prop
  | [], _, σ => Q σ
  | _ :: rest, i, σ => ∃ e, Y i e σ ∧ ceG Y ef Q rest (i + 1) (ef i e σ)
theorem wpAny_of_G {Sm : S → Act → World → Prop} {Q : S → Prop} {Q' : Exit → Act → World → Prop} {t : Nat}
    (hS : ∀ i e σ act w K, Sm σ act w → Y i e σ → (∀ act w, Sm (ef i e σ) act w → K act w) → wpOp P ops Q' i K act w)
    (hQ : ∀ listed σ act w, Sm σ act w → Closed md ops listed → Split m ops listed → Q σ → wpAny P md ops Q' t listed act w) :
    ∀ (fuel : Nat) (listed : Array Bool) (σ : S) (act : Act) (w : World), Sm σ act w → Closed md ops listed → wpG Y ef m md ops Q fuel listed σ → wpAny P md ops Q' (fuel + t) listed act w
  | 0, _, _, _, _, hs, hc, h => by rw [Nat.zero_add]; exact hQ _ _ _ _ hs hc h.1 h.2
  | fuel + 1, _, _, _, _, hs, hc, h => by
    rw [Nat.add_right_comm]
    refine ⟨fun h0 => absurd h0 h.1, fun i hi => ?_⟩
    obtain ⟨e, hy, hK⟩ := h.2 i hi
    exact hS i e _ _ _ _ hs hy fun act w hs' => wpAny_of_G hS hQ fuel _ _ _ _ hs' (hc.add hi) hK
/-- the last part, one by one -/
theorem wpAny_tailT {Q' : Exit → Act → World → Prop} (hw : waitT md ops m = true) (hrd : ∀ k, m ≤ k → ∀ o, ops[k]? = some o → ∀ e ∈ o.after, Region.binds md e = true → e.on < k) :
    ∀ (l : List Oper) (k : Nat) (listed : Array Bool) (act : Act) (w : World), m ≤ k → k + l.length = ops.size → (∀ j, l[j]? = ops[k + j]?) → Closed md ops listed → listed.size = ops.size → (∀ j, j < k → listed.getD j false = true) → (∀ j, k ≤ j → j < ops.size → listed.getD j true = false) →
      wpL P ops Q' l act w → wpAny P md ops Q' l.length listed act w
  | [], k, listed, act, w, hm, hk, _, _, hs, h1, h2, h => by
    refine ⟨?_, h⟩
    refine List.eq_nil_iff_forall_not_mem.2 fun j hj => ?_
    obtain ⟨h3, oj, hoj, _⟩ := mem_ready.1 hj
    have hlt := (Array.getElem?_eq_some_iff.1 hoj).1
    have := h1 j (by simp at hk; omega)
    rw [unlisted h3] at this
    cases this
  | o :: l, k, listed, act, w, hm, hk, hl, hc, hs, h1, h2, h => by
    have h0 : ops[k]? = some o := by simpa using (hl 0).symm
    have hks : k < ops.size := (Array.getElem?_eq_some_iff.1 h0).1
    have hready : k ∈ Region.ready md ops listed := mem_ready.2 ⟨h2 k (Nat.le_refl _) hks, o, h0, fun e he hb => h1 _ (hrd k hm o h0 e he hb)⟩
    refine ⟨fun hn => (by rw [hn] at hready; cases hready), fun i hi => ?_⟩
    have hik : i = k := by
      obtain ⟨h3, oi, hoi, _⟩ := mem_ready.1 hi
      rcases Nat.lt_trichotomy i k with hlt | he | hgt
      · have := h1 i hlt; rw [unlisted h3] at this; cases this
      · exact he
      · have := waitsT hw (by omega) hgt hc hi
        rw [unlisted (h2 k (Nat.le_refl _) hks)] at this
        cases this
    subst hik
    have ih := fun act w => wpAny_tailT (Q' := Q') hw hrd l (i + 1) (listed.setIfInBounds i true) act w (by omega) (by simp at hk; omega) (fun j => by have := hl (j + 1); simpa [Nat.add_assoc, Nat.add_comm 1 j] using this) (hc.add hready) (by simpa using hs)
      (fun j hj => by
        rcases Nat.lt_succ_iff_lt_or_eq.1 hj with hlt | rfl
        · exact getD_set_true (h1 j hlt)
        · simp [hs, hks]) (fun j hj hj' => by rw [getD_set_ne true (by omega)]; exact h2 j (by omega) hj')
    simp only [wpL] at h
    unfold wpOp
    simp only [h0]
    split
    · rename_i hw'
      rw [if_pos hw'] at h
      exact .inl (Oper.wp_mono ih h)
    · rename_i hw'
      rw [if_neg hw'] at h
      exact ih _ _ h
end

/-! ### one operation that turns the ghost -/
theorem Oper.wp_only {P : Program} {o : Oper} {a : Act} {w : World} {K K' : Act → World → Prop} {Q Q' : Exit → Act → World → Prop} (hp : ∀ c a w, ¬ Q (.panic c) a w) (hL : ¬ LetsOut Q) (hK : ∀ a w, K a w → K' a w) (h : o.wp P a w K Q) : o.wp P a w K' Q' := by
  unfold Oper.wp at *
  generalize (execOp a.eval o).run P w = r at *
  cases r with
  | ok n w' =>
    cases n <;> simp only [Oper.upon] at h ⊢ <;> first
      | exact hK _ _ h
      | exact Calls.mono h (fun e w'' he => by
          cases e with
          | returned v => exact hK _ _ he
          | panicked c => exact absurd he (hp _ _ _)
          | outgrown => exact absurd he hL)
      | exact Rows.mono h (fun _ _ he => hK _ _ he)
      | exact h
  | halt x w' =>
    cases x <;> simp only [Oper.upon] at h ⊢ <;> first
      | exact absurd h (hp _ _ _)
      | exact h
end Go.Ab
/- The rule for regions that draw their order and hold one operation that turns the ghost. -/
namespace Go.Ab
open Go.RowKit

/-- the boxes, the growing slices and the names before and behind the operation -/
structure Par where
  bx0 : List (Nat × List A)
  bx1 : List (Nat × List A)
  lv0 : List Nat
  lv1 : List Nat
  gen0 : Nat
  gen1 : Nat

section
variable {P : Program} {C : Ctx} {n : Nat} (S : Par) {ops : Array Oper} (c : Nat)
abbrev SC := Fr' × Bool
def XEv (P : Program) (C : Ctx) (n : Nat) (S : Par) (ops : Array Oper) (o : Oper) (a : A) (φ : Fr') : Prop :=
  o.guard = none ∧ ∃ p, (∀ t x, look p t = some x → φ t = some x ∧ t ∈ o.looksAt ops) ∧
    ∀ g, WO P C n ops (fun e st => e = .normal ∧ st = St.put ⟨p ++ g, S.bx1, S.lv1, S.gen1⟩ o.dst a) [o] ⟨p ++ g, S.bx0, S.lv0, S.gen0⟩
def YC (P : Program) (C : Ctx) (n : Nat) (S : Par) (ops : Array Oper) (c : Nat) (i : Nat) (a : A) (σ : SC) : Prop :=
  ∃ o, ops[i]? = some o ∧ dstOK n o.dst = true ∧ ((i = c ∧ σ.2 = false ∧ XEv P C n S ops o a σ.1) ∨
    (i ≠ c ∧ (behindB .any ops i c = false → YA P C n S.bx0 S.lv0 S.gen0 ops o a σ.1) ∧ (behindB .any ops c i = false → YA P C n S.bx1 S.lv1 S.gen1 ops o a σ.1) ∧
      (σ.2 = false → behindB .any ops i c = false) ∧ (σ.2 = true → behindB .any ops c i = false)))
def efC (ops : Array Oper) (c : Nat) (i : Nat) (a : A) (σ : SC) : SC :=
  match ops[i]? with
  | none => σ
  | some o => (putF σ.1 o.dst a, if i = c then true else σ.2)

variable {S} {c}
/-- the frame as a list -/
def fallF (n : Nat) (φ : Fr') : List (Nat × A) := (List.range n).filterMap fun t => (φ t).map fun a => (t, a)
theorem look_fall (φ : Fr') : ∀ (l : List Nat) (t : Nat), look (l.filterMap fun t => (φ t).map fun a => (t, a)) t = if t ∈ l then φ t else none
  | [], t => rfl
  | s :: l, t => by
    rw [List.filterMap_cons]
    cases hs : φ s with
    | none =>
      simp only [Option.map_none]
      rw [look_fall φ l t]
      by_cases e : t = s
      · subst e; simp [hs]
      · simp [e]
    | some a =>
      simp only [Option.map_some, look_cons]
      by_cases e : s = t
      · subst e; simp [hs]
      · rw [if_neg e, look_fall φ l t]
        simp [Ne.symm e]
theorem look_app (p g : List (Nat × A)) (t : Nat) : look (p ++ g) t = match look p t with | some a => some a | none => look g t := by
  induction p with
  | nil => rfl
  | cons x p ih =>
    obtain ⟨s, a⟩ := x
    rw [List.cons_append, look_cons, look_cons]
    split
    · rfl
    · exact ih
/-- the walk of such a region, over frames that are lists -/
def CC (P : Program) (C : Ctx) (n : Nat) (S : Par) (ops : Array Oper) (c : Nat) (Q : St → Prop) (l : List Oper) (i : Nat) (f : List (Nat × A)) (ph : Bool) : Prop :=
  ceG (YC P C n S ops c) (efC ops c) (fun σ => ∃ f', (∀ t, look f' t = σ.1 t) ∧ σ.2 = true ∧ Q ⟨f', S.bx1, S.lv1, S.gen1⟩) l i (look f, ph)
def regionOKC (m : Nat) (ops : Array Oper) : Bool := Nat.ble m ops.size && waitT .any ops m && foreB .any ops m && lexE .any ops m 0 (Array.replicate ops.size false)

variable {op : Op} {ty : TypeId} {pos : String} {af : Array Edge} {a : A} {d i : Nat} {rest : List Oper} {f : List (Nat × A)} {Q : St → Prop} {o : Oper} {ph : Bool}
theorem CC.nil_ (h : Q ⟨f, S.bx1, S.lv1, S.gen1⟩) : CC P C n S ops c Q [] i f true := ⟨f, fun _ => rfl, rfl, h⟩
theorem YA.of_pu {bx : List (Nat × List A)} {lv : List Nat} {gen : Nat} (hp : Pu P C n ⟨restr f (slotsOf op), bx, lv, gen⟩ ⟨some d, op, ty, pos, af, none⟩ a) (hd : Nat.blt d n = true) : YA P C n bx lv gen ops ⟨some d, op, ty, pos, af, none⟩ a (look f) :=
  ⟨hd, .inl ⟨rfl, _, fun t x hx => by
    obtain ⟨h1, h2⟩ := restr_look hx
    exact ⟨h1, List.mem_append.2 (.inl h2)⟩, hp⟩⟩
variable {bx0 bx1 : List (Nat × List A)} {lv0 lv1 : List Nat} {gen0 gen1 : Nat}
theorem CC.nil (h : Q ⟨f, bx1, lv1, gen1⟩) : CC P C n ⟨bx0, bx1, lv0, lv1, gen0, gen1⟩ ops c Q [] i f true :=
  CC.nil_ (S := ⟨bx0, bx1, lv0, lv1, gen0, gen1⟩) h
end
end Go.Ab
/- Regions that draw their order and hold several operations that turn the ghost, each behind the one before it, and one allocation that may stand anywhere. -/
namespace Go.Ab
open Go.RowKit

/-! ### whatever the states are: with paths in place of edges -/
section
variable {P : Program} {ops : Array Oper} {md : Region.Mode} {m : Nat} {S E : Type} {Y : Nat → E → S → Prop} {ef : Nat → E → S → S}

/-- neither must come before the other -/
def loose (md : Region.Mode) (ops : Array Oper) (i j : Nat) : Prop := reachB md ops ops.size i j = false ∧ reachB md ops ops.size j i = false

theorem behindB_of {j i : Nat} {oj : Oper} {e : Edge} (hj : ops[j]? = some oj) (he : e ∈ oj.after) (hb : Region.binds md e = true) (h : e.on = i) : behindB md ops j i = true := by
  unfold behindB
  rw [hj]
  exact List.any_eq_true.2 ⟨e, by simpa using he, by simp [hb, h]⟩
theorem reach_behind {j i : Nat} (h : reachB md ops ops.size j i = false) (hj : j < ops.size) : behindB md ops j i = false := by
  cases q : ops.size with
  | zero => omega
  | succ k =>
    rw [q] at h
    simp only [reachB, Bool.or_eq_false_iff] at h
    exact h.1
theorem ready_loose {i j : Nat} {listed : Array Bool} (hc : Closed md ops listed) (hi : i ∈ Region.ready md ops listed) (hj : listed.getD j true = false) : reachB md ops ops.size i j = false := by
  obtain ⟨_, oi, hoi, hall⟩ := mem_ready.1 hi
  cases q : reachB md ops ops.size i j with
  | false => rfl
  | true =>
    have := reach_listed hc _ i j q fun o ho e he hb => by rw [hoi] at ho; cases ho; exact hall e he hb
    rw [unlisted hj] at this
    cases this

theorem wpG_firstR {Q : S → Prop} {i : Nat} {oi : Oper} {e : E} (hw : waitT md ops m = true) (him : i < m) (hi : ops[i]? = some oi) :
    ∀ (fuel : Nat) (listed : Array Bool) (σ : S), Closed md ops listed →
      (∀ j oj, ops[j]? = some oj → j ≠ i → j < m → listed.getD j true = false → reachB md ops ops.size j i = false → Swap Y ef i j) →
      i ∈ Region.ready md ops listed → Y i e σ → wpG Y ef m md ops Q fuel (listed.setIfInBounds i true) (ef i e σ) → wpG Y ef m md ops Q (fuel + 1) listed σ := by
  have unl : ∀ {listed : Array Bool}, i ∈ Region.ready md ops listed → listed.getD i false = false := fun hr => unlisted (mem_ready.1 hr).1
  intro fuel
  induction fuel with
  | zero =>
    intro listed σ hc _ hr hy H
    refine ⟨fun h => (by rw [h] at hr; cases hr), fun j hj => ?_⟩
    by_cases hji : j = i
    · subst hji; exact ⟨e, hy, H⟩
    · exfalso
      obtain ⟨⟨_, h1, h2⟩, _⟩ := H
      have hj1 := (mem_ready.1 hj).1
      by_cases hjm : j < m
      · have := h1 j hjm
        rw [getD_set_ne false (Ne.symm hji)] at this
        rw [unlisted hj1] at this
        cases this
      · have := waitsT hw (by omega) (show i < j by omega) hc hj
        rw [unl hr] at this
        cases this
  | succ fuel ih =>
    intro listed σ hc hfree hr hy H
    refine ⟨fun h => (by rw [h] at hr; cases hr), fun j hj => ?_⟩
    by_cases hji : j = i
    · subst hji; exact ⟨e, hy, H⟩
    · obtain ⟨e', hy', H'⟩ := H.2 j (ready_mono hj hji)
      obtain ⟨hjun, oj, hoj, hall⟩ := mem_ready.1 hj
      have hnot : reachB md ops ops.size j i = false := ready_loose hc hj (mem_ready.1 hr).1
      have hjm : j < m := by
        rcases Nat.lt_or_ge j m with h | h
        · exact h
        · have := waitsT hw h (show i < j by omega) hc hj
          rw [unl hr] at this
          cases this
      obtain ⟨s1, s2, s3⟩ := hfree j oj hoj hji hjm hjun hnot e e' σ hy hy'
      have hfree' : ∀ k ok, ops[k]? = some ok → k ≠ i → k < m → (listed.setIfInBounds j true).getD k true = false → reachB md ops ops.size k i = false → Swap Y ef i k := fun k ok hk hki hkm hun hno => by
        refine hfree k ok hk hki hkm ?_ hno
        by_cases hjk : j = k
        · subst hjk; exact hjun
        · rw [getD_set_ne true hjk] at hun; exact hun
      refine ⟨e', s1, ih (listed.setIfInBounds j true) _ (hc.add hj) hfree' (ready_mono hr (Ne.symm hji)) s2 ?_⟩
      rw [Array.setIfInBounds_comm _ _ hji, ← s3]
      exact H'
theorem wpG_lexR {Q : S → Prop} (hw : waitT md ops m = true)
    (hsw : ∀ i j oi oj, ops[i]? = some oi → ops[j]? = some oj → i ≠ j → i < m → j < m → oi.apart ops oj = true → loose md ops i j → Swap Y ef i j) :
    ∀ (l : List Oper) (k : Nat) (listed : Array Bool) (σ : S), k + l.length = m → (∀ j, j < l.length → l[j]? = ops[k + j]?) → Closed md ops listed →
    listed.size = ops.size → (∀ j, j < k → listed.getD j false = true) → (∀ j, k ≤ j → j < ops.size → listed.getD j true = false) →
    lexE md ops l.length k listed = true → ceG Y ef Q l k σ → wpG Y ef m md ops Q l.length listed σ
  | [], k, listed, σ, hk, _, _, hs, h1, h2, _, h => ⟨⟨hs, fun j hj => h1 j (by simp at hk; omega), fun j hj hj' => h2 j (by simp at hk; omega) hj'⟩, h⟩
  | o :: l, k, listed, σ, hk, hl, hc, hs, h1, h2, hB, h => by
    have h0 : ops[k]? = some o := by simpa using (hl 0 (by simp)).symm
    have hks : k < ops.size := (Array.getElem?_eq_some_iff.1 h0).1
    simp only [List.length_cons, lexE, Bool.and_eq_true] at hB
    obtain ⟨⟨hr, hf⟩, hB'⟩ := hB
    have hr' : k ∈ Region.ready md ops listed := by simpa using hr
    obtain ⟨e, hy, hK⟩ := h
    have hkm : k < m := by simp at hk; omega
    refine wpG_firstR hw hkm h0 l.length listed σ hc (fun j oj hoj hjk hjm hun hno => hsw k j o oj h0 hoj (Ne.symm hjk) hkm hjm (Region.free_spec h0 hf j oj hoj hjk hun fun e he hb heq => ?_) ⟨ready_loose hc hr' hun, hno⟩) hr' hy
      (wpG_lexR hw hsw l (k + 1) _ _ (by simp at hk; omega) (fun j hj => by have := hl (j + 1) (by simpa using hj); simpa [Nat.add_assoc, Nat.add_comm 1 j] using this) (hc.add hr') (by simpa using hs) (fun j hj => ?_) (fun j hj hj' => ?_) hB' hK)
    · have h3 := reach_behind hno (Array.getElem?_eq_some_iff.1 hoj).1
      rw [behindB_of hoj he hb heq] at h3
      cases h3
    · rcases Nat.lt_succ_iff_lt_or_eq.1 hj with hlt | rfl
      · exact getD_set_true (h1 j hlt)
      · simp [hs, hks]
    · rw [getD_set_ne true (by omega)]
      exact h2 j (by omega) hj'
end

/-! ### what a renumbering leaves as it is -/
mutual
theorem ren_fix {o o' : List Nat} (h : ∀ g, pos o g = some g → pos o' g = some g) : ∀ a, ren o a = a → ren o' a = a
  | .own g es, e => by
    simp only [ren] at e ⊢
    cases q : pos o g with
    | none => rw [q] at e; cases e
    | some i =>
      rw [q] at e
      simp only [A.own.injEq, and_true] at e
      subst e
      rw [h _ q]
  | .ptr g off, e => by
    simp only [ren] at e ⊢
    cases q : pos o g with
    | none => rw [q] at e; cases e
    | some i =>
      rw [q] at e
      simp only [A.ptr.injEq, and_true] at e
      subst e
      rw [h _ q]
  | .xs g es, e => by
    simp only [ren] at e ⊢
    cases q : pos o g with
    | none => rw [q] at e; cases e
    | some i =>
      rw [q] at e
      simp only [A.xs.injEq, and_true] at e
      subst e
      rw [h _ q]
  | .xp g i off l, e => by
    simp only [ren] at e ⊢
    cases q : pos o g with
    | none => rw [q] at e; cases e
    | some j =>
      rw [q] at e
      simp only [A.xp.injEq, and_true] at e
      subst e
      rw [h _ q]
  | .mp g es, e => by
    simp only [ren] at e ⊢
    cases q : pos o g with
    | none => rw [q] at e; cases e
    | some i =>
      rw [q] at e
      simp only [A.mp.injEq, and_true] at e
      subst e
      rw [h _ q]
  | .np g T u, e => by
    simp only [ren] at e ⊢
    cases q : pos o g with
    | none => rw [q] at e; cases e
    | some i =>
      rw [q] at e
      simp only [A.np.injEq, and_true] at e
      subst e
      rw [h _ q]
  | .bf g T s, e => by
    simp only [ren] at e ⊢
    cases q : pos o g with
    | none => rw [q] at e; cases e
    | some i =>
      rw [q] at e
      simp only [A.bf.injEq, and_true] at e
      subst e
      rw [h _ q]
  | .agg l, e => by simp only [ren, A.agg.injEq] at e ⊢; exact renL_fix h l e
  | .tup l, e => by simp only [ren, A.tup.injEq] at e ⊢; exact renL_fix h l e
  | .row l, e => by simp only [ren, A.row.injEq] at e ⊢; exact renL_fix h l e
  | .clo f l, e => by simp only [ren, A.clo.injEq, true_and] at e ⊢; exact renL_fix h l e
  | .bnd f l, e => by simp only [ren, A.bnd.injEq, true_and] at e ⊢; exact renL_fix h l e
  | .d _, _ => rfl
  | .ag _, _ => rfl
  | .rowd _, _ => rfl
  | .ni, _ => rfl
  | .fl _, _ => rfl
  | .any, _ => rfl
theorem renL_fix {o o' : List Nat} (h : ∀ g, pos o g = some g → pos o' g = some g) : ∀ l, renL o l = l → renL o' l = l
  | [], _ => rfl
  | a :: l, e => by
    simp only [renL, List.cons.injEq] at e ⊢
    exact ⟨ren_fix h a e.1, renL_fix h l e.2⟩
end
def monoB (o o' : List Nat) : Bool := (List.range o.length).all fun g => !(pos o g == some g) || pos o' g == some g
theorem monoB_spec {o o' : List Nat} (h : monoB o o' = true) (g : Nat) (hg : pos o g = some g) : pos o' g = some g := by
  have hlt := (List.getElem?_eq_some_iff.1 (pos_some hg)).1
  have := List.all_eq_true.1 h g (List.mem_range.2 hlt)
  simp only [hg, beq_self_eq_true, Bool.not_true, Bool.false_or, beq_iff_eq] at this
  exact this
end Go.Ab
/- A slot's nil slices read as empty ones, at the top alone. -/
namespace Go.Ab
open Go.RowKit
section
variable {P : Program} {C : Ctx} {n : Nat} {ops : Array Oper} {Q : Exit → St → Prop} {f : List (Nat × A)} {bx : List (Nat × List A)} {lv : List Nat} {gen : Nat}
end
end Go.Ab
/- The rule for regions that draw their order and hold a chain of operations that turn the ghost and one free allocation. -/
namespace Go.Ab
open Go.RowKit

/-- the boxes before and behind the allocation, the growing slices and the names, behind k operations of the chain; the renumbering that puts the allocation's name first -/
structure ParD where
  bxF : Nat → List (Nat × List A)
  bxT : Nat → List (Nat × List A)
  lv : Nat → List Nat
  gen : Nat → Nat
  ord : Nat → List Nat
  g0 : Nat
  z : List A
  cs : List Nat
  al : Nat
def ParD.bx (S : ParD) (k : Nat) (b : Bool) : List (Nat × List A) := bif b then S.bxT k else S.bxF k

/-- no allocation -/
abbrev parL (bxs : List (List (Nat × List A))) (lvs : List (List Nat)) (gens : List Nat) (cs : List Nat) (al : Nat) : ParD := ⟨fun _ => [], fun k => bxs.getD k [], fun k => lvs.getD k [], fun k => gens.getD k 0, fun _ => [], 0, [], cs, al⟩
def alw (S : ParD) (ops : Array Oper) (i k : Nat) (b : Bool) : Bool :=
  ((List.range S.cs.length).all fun j => bif Nat.blt j k then !reachB .any ops ops.size (S.cs.getD j 0) i else !reachB .any ops ops.size i (S.cs.getD j 0)) &&
  (bif b then !reachB .any ops ops.size S.al i else (Nat.blt S.al ops.size && !reachB .any ops ops.size i S.al))

theorem alwNo {S : ParD} {ops : Array Oper} {i k : Nat} {b : Bool} (h : alw S ops i k b = true) (h' : alw S ops i k b = false) : False := by rw [h] at h'; cases h'

section
variable {P : Program} (T : Tab P) {C : Ctx} {n : Nat} (S : ParD) {ops : Array Oper}
abbrev SD := Fr' × Nat × Bool
def SmD (C : Ctx) (n : Nat) (S : ParD) (b0 : Bool) (σ : SD) (act : Act) (w : World) : Prop :=
  (b0 = true → σ.2.2 = true) ∧ act.defers = [] ∧ ∃ G, SimF C n (S.bx σ.2.1 σ.2.2) (S.lv σ.2.1) (S.gen σ.2.1) σ.1 G act.tmps w ∧ (σ.2.2 = false → ∀ t a, σ.1 t = some a → ren (S.ord σ.2.1) a = a)
def XEd (P : Program) (C : Ctx) (n : Nat) (S : ParD) (ops : Array Oper) (o : Oper) (a : A) (k : Nat) (b : Bool) (φ : Fr') : Prop :=
  o.guard = none ∧ ∃ p, (∀ t x, look p t = some x → φ t = some x ∧ t ∈ o.looksAt ops) ∧
    ∀ g, WO P C n ops (fun e st => e = .normal ∧ st = St.put ⟨p ++ g, S.bx (k + 1) b, S.lv (k + 1), S.gen (k + 1)⟩ o.dst a) [o] ⟨p ++ g, S.bx k b, S.lv k, S.gen k⟩
def YD (P : Program) (T : Tab P) (C : Ctx) (n : Nat) (S : ParD) (ops : Array Oper) (i : Nat) (a : A) (σ : SD) : Prop :=
  ∃ o, ops[i]? = some o ∧ dstOK n o.dst = true ∧ σ.2.1 ≤ S.cs.length ∧ alw S ops i σ.2.1 σ.2.2 = true ∧
    ((S.cs[σ.2.1]? = some i ∧ i ≠ S.al ∧ (∀ b, alw S ops i σ.2.1 b = true → XEd P C n S ops o a σ.2.1 b σ.1) ∧ (alw S ops i σ.2.1 false = true → ren (S.ord (σ.2.1 + 1)) a = a)) ∨
     (i ∉ S.cs ∧ i = S.al ∧ σ.2.2 = false ∧ o.guard = none ∧ a = .ptr S.g0 0 ∧ ∃ e d dt, o.op = .alloc e ∧ o.dst = some d ∧ look' T.l e = some dt ∧ S.z = dt.z.map fun v => A.d (.v v)) ∨
     (i ∉ S.cs ∧ i ≠ S.al ∧ ∀ k b, k ≤ S.cs.length → alw S ops i k b = true → YA P C n (S.bx k b) (S.lv k) (S.gen k) ops o a σ.1 ∧ (b = false → ren (S.ord k) a = a)))
def efD (S : ParD) (ops : Array Oper) (i : Nat) (a : A) (σ : SD) : SD :=
  match ops[i]? with
  | none => σ
  | some o => (putF σ.1 o.dst a, (if S.cs[σ.2.1]? = some i then σ.2.1 + 1 else σ.2.1), if i = S.al then true else σ.2.2)

variable {T} {S}
theorem XEd_put {o : Oper} {a : A} {k : Nat} {b : Bool} {φ : Fr'} {dst : Option Nat} {x : A} (hd : ∀ d, dst = some d → d ∉ o.looksAt ops) : XEd P C n S ops o a k b (putF φ dst x) ↔ XEd P C n S ops o a k b φ := by
  constructor
  · rintro ⟨h0, p, h1, h2⟩
    exact ⟨h0, p, fun t y hy => ⟨(putF_key hd (h1 t y hy).2).symm.trans (h1 t y hy).1, (h1 t y hy).2⟩, h2⟩
  · rintro ⟨h0, p, h1, h2⟩
    exact ⟨h0, p, fun t y hy => ⟨(putF_key hd (h1 t y hy).2).trans (h1 t y hy).1, (h1 t y hy).2⟩, h2⟩
theorem alw_step {i k c : Nat} {b : Bool} (h : S.cs[k]? = some c) (hl : loose .any ops i c) : alw S ops i (k + 1) b = alw S ops i k b := by
  unfold alw
  congr 1
  rw [Bool.eq_iff_iff, List.all_eq_true, List.all_eq_true]
  have hk : S.cs.getD k 0 = c := by simp [List.getD_eq_getElem?_getD, h]
  have key : ∀ j, (bif Nat.blt j (k + 1) then !reachB .any ops ops.size (S.cs.getD j 0) i else !reachB .any ops ops.size i (S.cs.getD j 0)) = (bif Nat.blt j k then !reachB .any ops ops.size (S.cs.getD j 0) i else !reachB .any ops ops.size i (S.cs.getD j 0)) := fun j => by
    rcases Nat.lt_trichotomy j k with hj | rfl | hj
    · have h1 : Nat.blt j (k + 1) = true := by simp [Nat.blt_eq]; omega
      have h2 : Nat.blt j k = true := by simp [Nat.blt_eq]; omega
      rw [h1, h2]
    · have h1 : Nat.blt j (j + 1) = true := by simp [Nat.blt_eq]
      have h2 : Nat.blt j j = false := by cases q : Nat.blt j j with | false => rfl | true => simp [Nat.blt_eq] at q
      rw [h1, h2, hk, hl.1, hl.2]
      rfl
    · have h1 : Nat.blt j (k + 1) = false := by cases q : Nat.blt j (k + 1) with | false => rfl | true => simp [Nat.blt_eq] at q; omega
      have h2 : Nat.blt j k = false := by cases q : Nat.blt j k with | false => rfl | true => simp [Nat.blt_eq] at q; omega
      rw [h1, h2]
  exact ⟨fun h j hj => by rw [← key]; exact h j hj, fun h j hj => by rw [key]; exact h j hj⟩
theorem alw_al {i k : Nat} (hlt : S.al < ops.size) (hl : loose .any ops i S.al) : alw S ops i k true = alw S ops i k false := by
  unfold alw
  have h : Nat.blt S.al ops.size = true := by rw [Nat.blt_eq]; exact hlt
  rw [hl.1, hl.2, h]
  rfl
theorem loose.symm {md : Region.Mode} {i j : Nat} (h : loose md ops i j) : loose md ops j i := ⟨h.2, h.1⟩
theorem efD_at {i : Nat} {o : Oper} (h : ops[i]? = some o) (a : A) (σ : SD) : efD S ops i a σ = (putF σ.1 o.dst a, (if S.cs[σ.2.1]? = some i then σ.2.1 + 1 else σ.2.1), if i = S.al then true else σ.2.2) := by unfold efD; rw [h]
theorem alw_pull {i k c : Nat} {b : Bool} (h : S.cs[k]? = some c) (hl : loose .any ops i c) (ha : alw S ops i (k + 1) b = true) : alw S ops i k b = true := by rw [← alw_step h hl]; exact ha
theorem alw_push {i k c : Nat} {b : Bool} (h : S.cs[k]? = some c) (hl : loose .any ops i c) (ha : alw S ops i k b = true) : alw S ops i (k + 1) b = true := by rw [alw_step h hl]; exact ha

theorem swapD (hch : ∀ k c c', S.cs[k]? = some c → S.cs[k + 1]? = some c' → reachB .any ops ops.size c' c = true) {i j : Nat} {oi oj : Oper} (hi : ops[i]? = some oi) (hj : ops[j]? = some oj) (hij : i ≠ j) (hap : oi.apart ops oj = true) (hl : loose .any ops i j) :
    Swap (YD P T C n S ops) (efD S ops) i j := by
  obtain ⟨a1, a2, a3⟩ := Oper.apart_spec hap
  rintro a b ⟨φ, k, ph⟩ ⟨oi', hi', di, hk, ai, hyi⟩ ⟨oj', hj', dj, hk2, aj, hyj⟩
  rw [hi] at hi'
  cases hi'
  rw [hj] at hj'
  cases hj'
  have hcomm : putF (putF φ oi.dst a) oj.dst b = putF (putF φ oj.dst b) oi.dst a := putF_comm φ a b a2
  have mem_of : ∀ {k c : Nat}, S.cs[k]? = some c → c ∈ S.cs := fun h => List.mem_of_getElem? h
  have klt : ∀ {k c : Nat}, S.cs[k]? = some c → k + 1 ≤ S.cs.length := fun h => (List.getElem?_eq_some_iff.1 h).1
  rw [efD_at hi] at aj hyj hk2
  simp only [efD_at hi, efD_at hj]
  simp only at hk ai hyi hk2 aj hyj
  rcases hyi with ⟨ci, nai, xi, fi⟩ | ⟨nci, ali, rfl, gi, ei, hi6⟩ | ⟨nci, nai, yi⟩
  · -- i is of the chain
    simp only [if_pos ci, if_neg nai] at aj hyj hk2
    rcases hyj with ⟨cj, _⟩ | ⟨ncj, alj, rfl, gj, ej, hj6⟩ | ⟨ncj, naj, yj⟩
    · exact absurd (hch k i j ci cj) (by rw [hl.2]; simp)
    · have hsi : loose .any ops i S.al := by rw [← alj]; exact hl
      have hlt : S.al < ops.size := by rw [← alj]; exact (Array.getElem?_eq_some_iff.1 hj).1
      have n1 : ¬ S.cs[k]? = some j := fun h => ncj (mem_of h)
      refine ⟨⟨oj, hj, dj, hk, alw_pull ci hl.symm aj, .inr (.inl ⟨ncj, alj, rfl, gj, ej, hj6⟩)⟩, ?_, ?_⟩
      · refine ⟨oi, hi, di, ?_, ?_, .inl ⟨?_, nai, fun b hb => (XEd_put a3).2 ?_, ?_⟩⟩
        all_goals simp only [if_neg n1]
        · exact hk
        · rw [if_pos alj, alw_al hlt hsi]; exact ai
        · exact ci
        · simp only [if_neg n1] at hb
          exact xi b hb
        · exact fi
      · simp only [if_pos ci, if_neg nai, if_pos alj, if_neg n1, hcomm]
        have n2 : ¬ S.cs[k + 1]? = some j := fun h => ncj (mem_of h)
        rw [if_neg n2]
    · have n1 : ¬ S.cs[k]? = some j := fun h => ncj (mem_of h)
      have n2 : ¬ S.cs[k + 1]? = some j := fun h => ncj (mem_of h)
      refine ⟨⟨oj, hj, dj, hk, alw_pull ci hl.symm aj, .inr (.inr ⟨ncj, naj, fun k b h1 h2 => ⟨(YA_put a1).1 (yj k b h1 h2).1, (yj k b h1 h2).2⟩⟩)⟩, ?_, ?_⟩
      · refine ⟨oi, hi, di, ?_, ?_, .inl ⟨?_, nai, fun b hb => (XEd_put a3).2 ?_, ?_⟩⟩
        all_goals simp only [if_neg n1]
        · exact hk
        · rw [if_neg naj]; exact ai
        · exact ci
        · simp only [if_neg n1] at hb
          exact xi b hb
        · exact fi
      · simp only [if_pos ci, if_neg nai, if_neg naj, if_neg n1, if_neg n2, hcomm]
  · -- i is the allocation
    have n1 : ¬ S.cs[k]? = some i := fun h => nci (mem_of h)
    simp only [if_neg n1, if_pos ali] at aj hyj hk2
    have hsj : loose .any ops j S.al := by rw [← ali]; exact hl.symm
    have hlt : S.al < ops.size := by rw [← ali]; exact (Array.getElem?_eq_some_iff.1 hi).1
    rcases hyj with ⟨cj, naj, xj, fj⟩ | ⟨_, alj, h, _⟩ | ⟨ncj, naj, yj⟩
    · have n2 : ¬ S.cs[k + 1]? = some i := fun h => nci (mem_of h)
      refine ⟨⟨oj, hj, dj, hk, by rw [← alw_al hlt hsj]; exact aj, .inl ⟨cj, naj, fun b hb => (XEd_put a1).1 (xj b hb), fj⟩⟩, ?_, ?_⟩
      · refine ⟨oi, hi, di, ?_, ?_, .inr (.inl ⟨nci, ali, ?_, gi, ei, hi6⟩)⟩
        all_goals simp only [if_pos cj, if_neg naj]
        · exact klt cj
        · exact alw_push cj hl ai
      · simp only [if_neg n1, if_pos ali, if_pos cj, if_neg naj, if_neg n2, hcomm]
    · exact absurd (ali.trans alj.symm) hij
    · have n3 : ¬ S.cs[k]? = some j := fun h => ncj (mem_of h)
      refine ⟨⟨oj, hj, dj, hk, by rw [← alw_al hlt hsj]; exact aj, .inr (.inr ⟨ncj, naj, fun k b h1 h2 => ⟨(YA_put a1).1 (yj k b h1 h2).1, (yj k b h1 h2).2⟩⟩)⟩, ?_, ?_⟩
      · refine ⟨oi, hi, di, ?_, ?_, .inr (.inl ⟨nci, ali, ?_, gi, ei, hi6⟩)⟩
        all_goals simp only [if_neg n3, if_neg naj]
        · exact hk
        · exact ai
      · simp only [if_neg n1, if_pos ali, if_neg n3, if_neg naj, hcomm]
  · -- i leaves the ghost
    have n1 : ¬ S.cs[k]? = some i := fun h => nci (mem_of h)
    simp only [if_neg n1, if_neg nai] at aj hyj hk2
    rcases hyj with ⟨cj, naj, xj, fj⟩ | ⟨ncj, alj, rfl, gj, ej, hj6⟩ | ⟨ncj, naj, yj⟩
    · have n2 : ¬ S.cs[k + 1]? = some i := fun h => nci (mem_of h)
      refine ⟨⟨oj, hj, dj, hk, aj, .inl ⟨cj, naj, fun b hb => (XEd_put a1).1 (xj b hb), fj⟩⟩, ?_, ?_⟩
      · refine ⟨oi, hi, di, ?_, ?_, .inr (.inr ⟨nci, nai, fun k b h1 h2 => ⟨(YA_put a3).2 (yi k b h1 h2).1, (yi k b h1 h2).2⟩⟩)⟩
        all_goals simp only [if_pos cj, if_neg naj]
        · exact klt cj
        · exact alw_push cj hl ai
      · simp only [if_neg n1, if_neg nai, if_pos cj, if_neg naj, if_neg n2, hcomm]
    · have n3 : ¬ S.cs[k]? = some j := fun h => ncj (mem_of h)
      have hsi : loose .any ops i S.al := by rw [← alj]; exact hl
      have hlt : S.al < ops.size := by rw [← alj]; exact (Array.getElem?_eq_some_iff.1 hj).1
      refine ⟨⟨oj, hj, dj, hk, aj, .inr (.inl ⟨ncj, alj, rfl, gj, ej, hj6⟩)⟩, ?_, ?_⟩
      · refine ⟨oi, hi, di, ?_, ?_, .inr (.inr ⟨nci, nai, fun k b h1 h2 => ⟨(YA_put a3).2 (yi k b h1 h2).1, (yi k b h1 h2).2⟩⟩)⟩
        all_goals simp only [if_neg n3, if_pos alj]
        · exact hk
        · rw [alw_al hlt hsi]; exact ai
      · simp only [if_neg n1, if_neg nai, if_neg n3, if_pos alj, hcomm]
    · have n3 : ¬ S.cs[k]? = some j := fun h => ncj (mem_of h)
      refine ⟨⟨oj, hj, dj, hk, aj, .inr (.inr ⟨ncj, naj, fun k b h1 h2 => ⟨(YA_put a1).1 (yj k b h1 h2).1, (yj k b h1 h2).2⟩⟩)⟩, ?_, ?_⟩
      · refine ⟨oi, hi, di, ?_, ?_, .inr (.inr ⟨nci, nai, fun k b h1 h2 => ⟨(YA_put a3).2 (yi k b h1 h2).1, (yi k b h1 h2).2⟩⟩)⟩
        all_goals simp only [if_neg n3, if_neg naj]
        · exact hk
        · exact ai
      · simp only [if_neg n1, if_neg nai, if_neg n3, if_neg naj, hcomm]

/-- one operation, whatever it does -/
theorem WO.one_ {o : Oper} (hg : o.guard = none) {st st1 : St} {G : Gh} {tmps : Array Value} {w : World} {Q' : Exit → Act → World → Prop} (h : WO P C n ops (fun e st => e = .normal ∧ st = st1) [o] st) (hs : SimG C n st G tmps w) :
    o.wp P ⟨tmps, []⟩ w (fun act w => act.defers = [] ∧ ∃ G, SimG C n st1 G act.tmps w) Q' := by
  have hw : Region.wanted o (yielded ops tmps) = true := by simp [Region.wanted, hg]
  have h := h tmps w ⟨G, hs⟩
  simp only [wpL, hw, if_true] at h
  refine Oper.wp_only (fun c a w hq => ?_) (fun hl => ?_) (fun act2 w2 hq => ?_) h
  · obtain ⟨_, st', _, he, _⟩ := hq
    cases he
  · obtain ⟨_, _, hq⟩ := hl
    obtain ⟨_, st', _, he, _⟩ := hq
    cases he
  · obtain ⟨hdf, st', ⟨G', hs2⟩, _, rfl⟩ := hq
    exact ⟨hdf, G', hs2⟩
theorem simF_lt {bx : List (Nat × List A)} {lv : List Nat} {gen : Nat} {φ : Fr'} {G : Gh} {tmps : Array Value} {w : World} (hs : SimF C n bx lv gen φ G tmps w) (t : Nat) (x : A) (hx : φ t = some x) : t < n := by
  obtain ⟨v, h1, _⟩ := hs.2 t x hx
  have := (Array.getElem?_eq_some_iff.1 h1).1
  rw [hs.1.size] at this
  exact this
theorem look_all {φ : Fr'} {p : List (Nat × A)} (hlt : ∀ t x, φ t = some x → t < n) (hp : ∀ t x, look p t = some x → φ t = some x) (t : Nat) : look (p ++ fallF n φ) t = φ t := by
  rw [look_app]
  cases q : look p t with
  | some x => exact (hp t x q).symm
  | none =>
    simp only
    unfold fallF
    rw [look_fall]
    cases e : φ t with
    | none => split <;> rfl
    | some x => rw [if_pos (List.mem_range.2 (hlt t x e))]
theorem putF_look {φ : Fr'} {f : List (Nat × A)} (h : ∀ t, look f t = φ t) {d : Nat} {a : A} {t : Nat} : look ((d, a) :: f) t = putF φ (some d) a t := by
  rw [look_cons]
  simp only [putF]
  by_cases e : t = d
  · subst e
    rw [if_pos rfl, if_pos rfl]
  · rw [if_neg e, if_neg (Ne.symm e), h]

/-- what the renumbering asks for behind k operations -/
def okD1 (S : ParD) (nb k : Nat) : Prop := (orderB (S.ord k) (S.gen k) nb = true ∧ pos (S.ord k) (S.gen k) = some S.g0) ∧ SubBR (S.ord k) ((S.gen k, S.z) :: S.bxF k) (S.bxT k) ∧ lvR (S.ord k) (S.lv k) (S.lv k) = true
def okD (S : ParD) (nb : Nat) : Nat → Prop
  | 0 => okD1 S nb 0
  | k + 1 => okD1 S nb (k + 1) ∧ monoB (S.ord k) (S.ord (k + 1)) = true ∧ okD S nb k
theorem okD.at {nb : Nat} : ∀ {m : Nat}, okD S nb m → ∀ k, k ≤ m → okD1 S nb k
  | 0, h, k, hk => by obtain rfl : k = 0 := by omega
                      exact h
  | m + 1, h, k, hk => by
    rcases Nat.lt_or_ge k (m + 1) with hlt | hge
    · exact okD.at h.2.2 k (by omega)
    · obtain rfl : k = m + 1 := by omega
      exact h.1
theorem okD.mono {nb : Nat} : ∀ {m : Nat}, okD S nb m → ∀ k, k < m → monoB (S.ord k) (S.ord (k + 1)) = true
  | 0, _, k, hk => absurd hk (Nat.not_lt_zero _)
  | m + 1, h, k, hk => by
    rcases Nat.lt_or_ge k m with hlt | hge
    · exact okD.mono h.2.2 k hlt
    · obtain rfl : k = m := by omega
      exact h.2.1

theorem soundD {nb : Nat} [hnb : NB C nb] (b0 : Bool) (hok : b0 = false → okD S nb S.cs.length) (i : Nat) (a : A) (σ : SD) (act : Act) (w : World) (K : Act → World → Prop) {Q' : Exit → Act → World → Prop} (hs : SmD C n S b0 σ act w) (hy : YD P T C n S ops i a σ) (hK : ∀ act w, SmD C n S b0 (efD S ops i a σ) act w → K act w) : wpOp P ops Q' i K act w := by
  obtain ⟨tmps, dfs⟩ := act
  obtain ⟨hb0, rfl, G, hs, hfix⟩ := hs
  obtain ⟨φ, k, ph⟩ := σ
  obtain ⟨o, ho, hd, hkl, hal, hy⟩ := hy
  rw [efD_at ho] at hK
  simp only at hs hfix hkl hal hy hK hb0
  unfold wpOp
  simp only [ho]
  rcases hy with ⟨hc, nal, hx, hr⟩ | ⟨nc, hal', rfl, hg, rfl, e, d, dt, hop, hdst, he, hz⟩ | ⟨nc, nal, hya⟩
  · obtain ⟨hg, p, hp, hx⟩ := hx ph hal
    rw [if_pos hc, if_neg nal] at hK
    have hw : Region.wanted o (yielded ops tmps) = true := by simp [Region.wanted, hg]
    rw [hw, if_pos rfl]
    refine .inl ?_
    have hlook := look_all (simF_lt hs) (fun t x hx => (hp t x hx).1)
    have hs' := hs.toG (f := p ++ fallF n φ) fun t x hx => by rw [← hlook]; exact hx
    refine Oper.wp_mono (fun act2 w2 ⟨hdf, G', hs2⟩ => hK act2 w2 ⟨hb0, hdf, G', ?_, fun hph t x hx => ?_⟩) (WO.one_ hg (hx (fallF n φ)) hs')
    · show SimF C n (S.bx (k + 1) ph) (S.lv (k + 1)) (S.gen (k + 1)) (putF φ o.dst a) G' act2.tmps w2
      cases hdst : o.dst with
      | none =>
        rw [hdst] at hs2
        refine ⟨{ hs2 with frame := fun t a ha => by simp [look] at ha }, fun t x hx => hs2.frame t x ?_⟩
        show look (p ++ fallF n φ) t = some x
        rw [hlook]
        exact hx
      | some d =>
        rw [hdst] at hs2
        refine ⟨{ hs2 with frame := fun t a ha => by simp [look] at ha }, fun t x hx => hs2.frame t x ?_⟩
        show look ((d, a) :: (p ++ fallF n φ)) t = some x
        rw [putF_look hlook]
        exact hx
    · simp only at hph hx
      have hbf : b0 = false := by cases b0 with | false => rfl | true => rw [hb0 rfl] at hph; cases hph
      have hm := monoB_spec ((hok hbf).mono k (List.getElem?_eq_some_iff.1 hc).1)
      cases hdst : o.dst with
      | none => rw [hdst] at hx; exact ren_fix hm x (hfix hph t x hx)
      | some d =>
        rw [hdst] at hx
        simp only [putF] at hx
        split at hx
        · cases hx; exact hr (by rw [← hph]; exact hal)
        · exact ren_fix hm x (hfix hph t x hx)
  · have hkc : ¬ S.cs[k]? = some i := fun h => nc (List.mem_of_getElem? h)
    rw [if_neg hkc, if_pos hal'] at hK
    have hw : Region.wanted o (yielded ops tmps) = true := by simp [Region.wanted, hg]
    rw [hw, if_pos rfl]
    refine .inl ?_
    have hbf : b0 = false := by cases b0 with | false => rfl | true => cases hb0 rfl
    obtain ⟨⟨hO, hpos⟩, hBR, hLR⟩ := (hok hbf).at k hkl
    have hlook : ∀ t, look (fallF n φ) t = φ t := look_all (p := []) (simF_lt hs) (fun t x hx => by simp [look] at hx)
    have hs' := hs.toG (f := fallF n φ) fun t x hx => by rw [← hlook]; exact hx
    have hwo : WO P C n ops (fun e st => e = .normal ∧ st = St.put ⟨fallF n φ, (S.gen k, S.z) :: S.bx k false, S.lv k, S.gen k + 1⟩ o.dst (.ptr (S.gen k) 0)) [o] ⟨fallF n φ, S.bx k false, S.lv k, S.gen k⟩ :=
      WO.alloc T hg hd hop he (WO.nil ⟨rfl, by rw [hz]⟩)
    refine Oper.wp_mono (fun act2 w2 ⟨hdf, G', hs2⟩ => hK act2 w2 ⟨fun _ => rfl, hdf, renG (S.ord k) G', ?_, fun h => by cases h⟩) (WO.one_ hg hwo hs')
    simp only [orderB, Bool.and_eq_true] at hO
    obtain ⟨⟨hO1, hO2⟩, hO3⟩ := hO
    rw [hdst] at hs2 ⊢
    have h3 : SimG C n ⟨(d, .ptr S.g0 0) :: fallF n φ, S.bxT k, S.lv k, S.gen k⟩ (renG (S.ord k) G') act2.tmps w2 := by
      refine SimG.ren (gen' := S.gen k) hs2 (S.ord k) (nodup_of hO1) (Nat.le_of_ble_eq_true hO2) (fun i hi => ?_) (fun t x hx => ?_) (fun i l' hl' => ?_) (fun i hi => ?_)
      · have h4 := headB_get hO3 i (by rw [← hnb.h]; exact hi)
        simpa using h4
      · rw [look_cons] at hx
        show ∃ a, look ((d, .ptr (S.gen k) 0) :: fallF n φ) t = some a ∧ ren (S.ord k) a = x
        rw [look_cons]
        split at hx
        · rename_i e
          rw [if_pos e]
          cases hx
          exact ⟨_, rfl, by simp only [ren, hpos]⟩
        · rename_i e
          rw [if_neg e]
          rw [hlook] at hx ⊢
          exact ⟨x, hx, hfix rfl t x hx⟩
      · exact SubBR.le hBR i l' hl'
      · exact lvR_mem hLR i hi
    refine ⟨{ h3 with frame := fun t a ha => by simp [look] at ha }, fun t x hx => h3.frame t x ?_⟩
    show look ((d, _) :: fallF n φ) t = some x
    rw [putF_look hlook]
    exact hx
  · have hkc : ¬ S.cs[k]? = some i := fun h => nc (List.mem_of_getElem? h)
    rw [if_neg hkc, if_neg nal] at hK
    obtain ⟨hya, hr⟩ := hya k ph hkl hal
    have hfix' : ph = false → ∀ t x, putF φ o.dst a t = some x → ren (S.ord k) x = x := fun hph t x hx => by
      cases hdst : o.dst with
      | none => rw [hdst] at hx; exact hfix hph t x hx
      | some d =>
        rw [hdst] at hx
        simp only [putF] at hx
        split at hx
        · cases hx; exact hr hph
        · exact hfix hph t x hx
    obtain ⟨_, ⟨hw, f, hf, hp⟩ | ⟨hw, rfl⟩⟩ := hya
    · rw [wanted_of hs hw]
      simp only [if_true]
      refine .inl ?_
      have hg : Gives P o ⟨tmps, []⟩ w fun v w' => Below w.heap.size w w' ∧ Rep (enOf C G (S.gen k) w') v a := hp G tmps w (hs.toG fun t x hx => (hf t x hx).1)
      refine hg.wp fun v w' ⟨hb, hr⟩ => ?_
      rw [Act.put_eq]
      exact hK _ _ ⟨hb0, rfl, G, hs.step hb hd hr, hfix'⟩
    · rw [wanted_of hs hw]
      simp only [Bool.false_eq_true, if_false]
      rw [Act.put_eq]
      exact hK _ _ ⟨hb0, rfl, G, hs.step (Below.refl _ _) hd (.tup #[] [] rfl (by simp)), hfix'⟩
/-- the walk of such a region, over frames that are lists -/
def CD (P : Program) (T : Tab P) (C : Ctx) (n : Nat) (S : ParD) (ops : Array Oper) (Q : St → Prop) (l : List Oper) (i : Nat) (f : List (Nat × A)) (k : Nat) (b : Bool) : Prop :=
  ceG (YD P T C n S ops) (efD S ops) (fun σ => ∃ f', (∀ t, look f' t = σ.1 t) ∧ σ.2 = (S.cs.length, true) ∧ Q ⟨f', S.bxT S.cs.length, S.lv S.cs.length, S.gen S.cs.length⟩) l i (look f, k, b)
def chainB (ops : Array Oper) : List Nat → Bool
  | c :: c' :: r => reachB .any ops ops.size c' c && chainB ops (c' :: r)
  | _ => true
theorem chainB_spec {ops : Array Oper} : ∀ {cs : List Nat}, chainB ops cs = true → ∀ k c c', cs[k]? = some c → cs[k + 1]? = some c' → reachB .any ops ops.size c' c = true
  | [], _, k, c, c', h, _ => by simp at h
  | [_], _, k, c, c', _, h => by simp at h
  | x :: y :: r, h, k, c, c', h1, h2 => by
    simp only [chainB, Bool.and_eq_true] at h
    cases k with
    | zero =>
      simp at h1 h2
      subst h1; subst h2
      exact h.1
    | succ k => exact chainB_spec h.2 k c c' (by simpa using h1) (by simpa using h2)
def AllFix (o : List Nat) : List (Nat × A) → Prop
  | [] => True
  | (_, a) :: r => ren o a = a ∧ AllFix o r
theorem AllFix.at {o : List Nat} : ∀ {f : List (Nat × A)}, AllFix o f → ∀ t a, look f t = some a → ren o a = a
  | [], _, t, a, h => by simp [look] at h
  | (s, x) :: r, hf, t, a, h => by
    rw [look_cons] at h
    split at h
    · cases h; exact hf.1
    · exact hf.2.at t a h

theorem W.regionChain (T : Tab P) {nb : Nat} [hnb : NB C nb] {id : Nat} {l l1 l2 : List Oper} {f : List (Nat × A)} {bx : List (Nat × List A)} {lv : List Nat} {gen : Nat} {Q : Exit → St → Prop} (S : ParD) (b0 : Bool) (m : Nat) (hB : regionOKC m l.toArray = true) (hch : chainB l.toArray S.cs = true) (h1 : l.take m = l1) (h2 : l.drop m = l2)
    (hok : b0 = false → okD S nb S.cs.length ∧ AllFix (S.ord 0) f) (e1 : ∀ g c, look' (S.bx 0 b0) g = some c → look' bx g = some c) (e2 : S.lv 0 = lv) (e3 : Nat.ble gen (S.gen 0) = true)
    (h : CD P T C n S l.toArray (WO P C n l.toArray Q l2) l1 0 f 0 b0) : W P C n (.region id l.toArray true) Q ⟨f, bx, lv, gen⟩ := by
  subst h1; subst h2; subst e2
  intro tmps w ⟨G, hs⟩
  have hs : SimG C n ⟨f, bx, S.lv 0, S.gen 0⟩ G tmps w := SimG.later hs (g := S.gen 0) (Nat.le_of_ble_eq_true e3)
  have hs : SimG C n ⟨f, S.bx 0 b0, S.lv 0, S.gen 0⟩ G tmps w := { hs with box := fun g c hc => hs.box g c (e1 g c hc) }
  simp only [regionOKC, Bool.and_eq_true] at hB
  obtain ⟨⟨⟨hm, hw⟩, hfore⟩, hlex⟩ := hB
  have hm : m ≤ l.length := by simpa using Nat.le_of_ble_eq_true hm
  have hb : Below w.heap.size w { w with drawn := w.drawn + 1 } := (Below.refl _ w).drew
  have hs' : SimF C n (S.bx 0 b0) (S.lv 0) (S.gen 0) (look f) G tmps { w with drawn := w.drawn + 1 } := SimF.ofG (hs.evolve hb).2
  have hlen : (l.take m).length = m := by simp; omega
  refine wp_region_any T.mixed ?_
  have hsz : l.toArray.size = (l.take m).length + (l.drop m).length := by simp; omega
  rw [hsz]
  have hcl : Closed .any l.toArray (Array.replicate ((l.take m).length + (l.drop m).length) false) := fun j oj _ hl _ _ _ => by
    by_cases q : j < (l.take m).length + (l.drop m).length
    · simp only [Array.getD_eq_getD_getElem?, Array.getElem?_replicate] at hl
      rw [if_pos q] at hl
      cases hl
    · simp only [Array.getD_eq_getD_getElem?, Array.getElem?_replicate] at hl
      rw [if_neg q] at hl
      cases hl
  refine wpAny_of_G (m := m) (Sm := SmD C n S b0) (Y := YD P T C n S l.toArray) (ef := efD S l.toArray) (Q := fun σ => ∃ f', (∀ t, look f' t = σ.1 t) ∧ σ.2 = (S.cs.length, true) ∧ WO P C n l.toArray Q (l.drop m) ⟨f', S.bxT S.cs.length, S.lv S.cs.length, S.gen S.cs.length⟩)
    (fun i e σ act w K hs hy hk => soundD b0 (fun h => (hok h).1) i e σ act w K hs hy hk) (fun listed σ act w hs hc hsp ⟨f', e1, e2, hq⟩ => ?_) _ _ (look f, 0, b0) ⟨tmps, []⟩ _ ⟨fun h => h, rfl, G, hs', fun h => (hok h).2.at⟩ hcl ?_
  · obtain ⟨tmps, dfs⟩ := act
    obtain ⟨_, rfl, G, hs, _⟩ := hs
    rw [e2] at hs
    refine wpAny_tailT hw (foreB_spec hfore) (l.drop m) m listed ⟨tmps, []⟩ w (Nat.le_refl _) (by simp; omega) (fun j => by simp [List.getElem?_drop]) hc hsp.1 hsp.2.1 hsp.2.2 ?_
    exact hq tmps w ⟨G, hs.toG (fun t a ha => by rw [← e1]; exact ha)⟩
  · refine wpG_lexR hw (fun i j oi oj hi hj hij him hjm hap hno => swapD (chainB_spec hch) hi hj hij hap hno) (l.take m) 0 _ _ (by rw [hlen]; omega) (fun j hj => ?_) hcl (by simp; omega) (fun j hj => by omega) (fun j _ hj => ?_) (by rw [hlen]; rw [hsz, hlen] at hlex; exact hlex) h
    · rw [hlen] at hj
      rw [Nat.zero_add]
      simp [List.getElem?_take, hj]
    · have hj' : j < l.length := by simpa using hj
      have e : min m l.length + (l.length - m) = l.length := by omega
      simp [e, hj']

variable {op : Op} {ty : TypeId} {pos : String} {af : Array Edge} {a : A} {d i k : Nat} {rest : List Oper} {f : List (Nat × A)} {Q : St → Prop} {b : Bool}
theorem CD.nil (h : Q ⟨f, S.bxT S.cs.length, S.lv S.cs.length, S.gen S.cs.length⟩) (hk : Nat.beq k S.cs.length = true) : CD P T C n S ops Q [] i f k true := by
  have := Nat.eq_of_beq_eq_true hk
  subst this
  exact ⟨f, fun _ => rfl, rfl, h⟩
def allD (p : Nat → Bool → Prop) : Nat → Prop
  | 0 => p 0 false ∧ p 0 true
  | k + 1 => p (k + 1) false ∧ p (k + 1) true ∧ allD p k
theorem allD.at {p : Nat → Bool → Prop} : ∀ {m : Nat}, allD p m → ∀ k b, k ≤ m → p k b
  | 0, h, k, b, hk => by
    obtain rfl : k = 0 := by omega
    cases b
    · exact h.1
    · exact h.2
  | m + 1, h, k, b, hk => by
    rcases Nat.lt_or_ge k (m + 1) with hlt | hge
    · exact h.2.2.at k b (by omega)
    · obtain rfl : k = m + 1 := by omega
      cases b
      · exact h.1
      · exact h.2.1
def memB (x : Nat) (l : List Nat) : Bool := l.any fun y => Nat.beq x y
theorem memB_not {x : Nat} {l : List Nat} (h : memB x l = false) : x ∉ l := fun hm => by
  have : memB x l = true := List.any_eq_true.2 ⟨x, hm, by simp⟩
  rw [h] at this
  cases this
/-- an operation that leaves the ghost -/
theorem cdPu (hp : allD (fun k b => alw S ops i k b = true → Pu P C n ⟨restr f (slotsOf op), S.bx k b, S.lv k, S.gen k⟩ ⟨some d, op, ty, pos, af, none⟩ a ∧ (b = false → ren (S.ord k) a = a)) S.cs.length)
    (hi : ops[i]? = some ⟨some d, op, ty, pos, af, none⟩) (h1 : memB i S.cs = false) (h2 : Nat.beq i S.al = false) (h3 : (Nat.ble k S.cs.length && alw S ops i k b) = true) (hd : Nat.blt d n = true)
    (h : CD P T C n S ops Q rest (i + 1) ((d, a) :: f) k b) : CD P T C n S ops Q (⟨some d, op, ty, pos, af, none⟩ :: rest) i f k b := by
  simp only [Bool.and_eq_true] at h3
  have nc := memB_not h1
  have na : i ≠ S.al := fun e => by subst e; simp at h2
  refine ⟨a, ⟨_, hi, hd, Nat.le_of_ble_eq_true h3.1, h3.2, .inr (.inr ⟨nc, na, fun k b hk ha => ⟨YA.of_pu (hp.at k b hk ha).1 hd, (hp.at k b hk ha).2⟩⟩)⟩, ?_⟩
  rw [efD_at hi]
  simp only [if_neg na, if_neg (fun e => nc (List.mem_of_getElem? e) : ¬ S.cs[k]? = some i)]
  unfold CD at h
  rw [look_put] at h
  exact h
/-- the same; what it gives is found where the walk stands -/
theorem cdPu' (h0 : Pu P C n ⟨restr f (slotsOf op), S.bx k b, S.lv k, S.gen k⟩ ⟨some d, op, ty, pos, af, none⟩ a) (hp : allD (fun k b => alw S ops i k b = true → Pu P C n ⟨restr f (slotsOf op), S.bx k b, S.lv k, S.gen k⟩ ⟨some d, op, ty, pos, af, none⟩ a ∧ (b = false → ren (S.ord k) a = a)) S.cs.length)
    (hi : ops[i]? = some ⟨some d, op, ty, pos, af, none⟩) (h1 : memB i S.cs = false) (h2 : Nat.beq i S.al = false) (h3 : (Nat.ble k S.cs.length && alw S ops i k b) = true) (hd : Nat.blt d n = true)
    (h : CD P T C n S ops Q rest (i + 1) ((d, a) :: f) k b) : CD P T C n S ops Q (⟨some d, op, ty, pos, af, none⟩ :: rest) i f k b := cdPu hp hi h1 h2 h3 hd h
theorem W.regionL (T : Tab P) {nb : Nat} [hnb : NB C nb] {id : Nat} {l l1 l2 : List Oper} {f : List (Nat × A)} {bx : List (Nat × List A)} {lv : List Nat} {gen : Nat} {Q : Exit → St → Prop} (bxs : List (List (Nat × List A))) (lvs : List (List Nat)) (gens : List Nat) (cs : List Nat) (m : Nat) (hB : regionOKC m l.toArray = true) (hch : chainB l.toArray cs = true) (h1 : l.take m = l1) (h2 : l.drop m = l2)
    (h : CD P T C n (parL (bx :: bxs) (lv :: lvs) (gen :: gens) cs l.length) l.toArray (WO P C n l.toArray Q l2) l1 0 f 0 true) : W P C n (.region id l.toArray true) Q ⟨f, bx, lv, gen⟩ :=
  W.regionChain T (parL (bx :: bxs) (lv :: lvs) (gen :: gens) cs l.length) true m hB hch h1 h2 (fun h => by cases h) (fun _ _ h => h) rfl (by show Nat.ble gen gen = true; simp) h
end
end Go.Ab
/- Parts of slices and of texts. -/
namespace Go.Ab
open Go.RowKit

def loA (f : List (Nat × A)) : Option Operand → Option Int
  | none => some 0
  | some x => match av f x with | some (.d (.v (.int _ v))) => some v | _ => none
def hiA (f : List (Nat × A)) (len : Nat) : Option Operand → Option Int
  | none => some (len : Int)
  | some x => match av f x with | some (.d (.v (.int _ v))) => some v | _ => none

theorem RepD.sub {w : World} {pv : Nat → Nat → Prop} {v : Value} {es : List (List D)} (h : RepD w pv v (.sl es)) {i j sz : Nat} (hij : i ≤ j) (hj : j ≤ es.length) (hsz : ∀ e ∈ es, e.length = sz) :
    ∃ a cap, v = .slice a es.length cap ∧ es.length ≤ cap ∧ RepD w pv (sliced a i j cap sz) (.sl ((es.take j).drop i)) := by
  cases h with
  | nil =>
    have e1 : j = 0 := by simpa using hj
    subst e1
    have e2 : i = 0 := by omega
    subst e2
    exact ⟨none, 0, rfl, Nat.le_refl _, .nil⟩
  | emp a cap hm =>
    have e1 : j = 0 := by simpa using hj
    subst e1
    have e2 : i = 0 := by omega
    subst e2
    refine ⟨some a, cap, rfl, Nat.zero_le _, ?_⟩
    simp only [sliced, List.take_zero, List.drop_zero, Nat.sub_zero]
    split
    · exact .emp a cap hm
    · exact .emp _ cap hm
  | sl b off len cap sz' es u hl hc hm hs hu hr =>
    refine ⟨_, cap, by rw [hl], by omega, ?_⟩
    rcases Nat.eq_or_lt_of_le hij with e | hlt
    · subst e
      rw [show (es.take i).drop i = [] from List.drop_eq_nil_of_le (List.length_take_le _ _)]
      simp only [sliced, Nat.sub_self]
      split
      · exact .emp _ _ (by omega)
      · exact .emp _ _ (by omega)
    · have e : sz' = sz := by
        obtain ⟨x, hx⟩ : ∃ x, es[0]? = some x := ⟨es[0]'(by omega), by simp⟩
        rw [← hs 0 x hx, hsz x (List.mem_of_getElem? hx)]
      subst e
      have hne : cap ≠ i := by omega
      have ha : ∀ (k : Nat) (x : List D), ((es.take j).drop i)[k]? = some x → es[i + k]? = some x ∧ k < j - i := fun k x hk => by
        have hk' := hk
        rw [List.getElem?_drop] at hk
        have h1 := (List.getElem?_eq_some_iff.1 hk).1
        rw [List.length_take] at h1
        rw [List.getElem?_take, if_pos (by omega)] at hk
        exact ⟨hk, by omega⟩
      simp only [sliced, if_neg hne, Option.map_some]
      rw [show (Addr.add ⟨b, off, none⟩ (i * sz')) = ⟨b, off + i * sz', none⟩ from by simp [Addr.add]]
      refine .sl b (off + i * sz') (j - i) (cap - i) sz' _ (fun k c => u (i + k) c) ?_ (by omega) (by omega) (fun k x hk => hs _ x (ha k x hk).1) (fun k c hk hc' => ?_) (fun k c x d hk hd => hr _ c x d (ha k x hk).1 hd)
      · rw [List.length_drop, List.length_take]; omega
      · have := hu (i + k) c (by omega) hc'
        rw [show off + (i + k) * sz' + c = off + i * sz' + k * sz' + c from by rw [Nat.add_mul]; omega] at this
        exact this

section
variable {P : Program} (T : Tab P) {C : Ctx} {n : Nat}
variable {f : List (Nat × A)} {bx : List (Nat × List A)} {lv : List Nat} {gen : Nat} {ty : TypeId} {pos : String} {af : Array Edge} {dst : Option Nat} {G : Gh} {tmps : Array Value} {w : World}

theorem bounds_run (b : Bool) {lo hi : Option Operand} {len cap : Nat} {i j : Int} (hs : SimG C n ⟨f, bx, lv, gen⟩ G tmps w) (hlo : loA f lo = some i) (hhi : hiA f len hi = some j) (h0 : 0 ≤ i) (hij : i ≤ j) (hj : j ≤ len) (hc : len ≤ cap) :
    (Instr.sliceBounds b len cap (lo.map (Act.eval ⟨tmps, []⟩)) (hi.map (Act.eval ⟨tmps, []⟩)) none).run P w = .ok (i.toNat, j.toNat, cap) w := by
  have ev : ∀ (x : Operand) (v : Int), (match av f x with | some (.d (.v (.int _ v))) => some v | _ => none) = some v → ∃ k, Act.eval ⟨tmps, []⟩ x = .int k v := fun x v h => by
    split at h
    · rename_i k v' hav
      simp only [Option.some.injEq] at h
      subst h
      have hr := hs.av hav
      generalize Act.eval ⟨tmps, []⟩ x = y at hr
      cases hr with | d hr => cases hr with | v _ _ => exact ⟨k, rfl⟩
    · cases h
  have ehj : (j.toNat : Int) = j := Int.toNat_of_nonneg (by omega)
  have hh : ((match hi.map (Act.eval ⟨tmps, []⟩) with | some v => Instr.sliceBound v cap (if b then .sliceAcap else .sliceAlen) | none => pure len : Sem Nat)).run P w = .ok j.toNat w := by
    cases hi with
    | none =>
      simp only [hiA, Option.some.injEq] at hhi
      subst hhi
      simp
    | some x =>
      obtain ⟨k, e⟩ := ev x j hhi
      simp only [Option.map_some, e]
      exact run_sliceBound w k j cap _ (by omega) (by omega)
  have hl : ((match lo.map (Act.eval ⟨tmps, []⟩) with | some v => Instr.sliceBound v j.toNat (if (none : Option Value).isSome then .slice3C else .sliceB) | none => pure 0 : Sem Nat)).run P w = .ok i.toNat w := by
    cases lo with
    | none =>
      simp only [loA, Option.some.injEq] at hlo
      subst hlo
      simp
    | some x =>
      obtain ⟨k, e⟩ := ev x i hlo
      simp only [Option.map_some, e]
      exact run_sliceBound w k i j.toNat _ (by omega) (by omega)
  unfold Instr.sliceBounds
  cases hi with
  | none =>
    cases lo with
    | none =>
      simp only [Option.map_none, Sem.run_bind, Sem.run_pure, Result.andThen_ok] at hh hl ⊢
      simp_all
    | some x =>
      simp only [Option.map_none, Option.map_some, Sem.run_bind, Sem.run_pure, Result.andThen_ok] at hh hl ⊢
      simp only [Result.ok.injEq, and_true] at hh
      rw [← hh] at hl ⊢
      simp_all
  | some y =>
    cases lo with
    | none =>
      simp only [Option.map_none, Option.map_some, Sem.run_bind, Sem.run_pure, Result.andThen_ok] at hh hl ⊢
      rw [hh]
      simp_all
    | some x =>
      simp only [Option.map_some, Sem.run_bind, Sem.run_pure, Result.andThen_ok] at hh hl ⊢
      rw [hh]
      simp_all

/-- a part of a slice -/
theorem sliceV {α : Type} {fn : α → List D} {t e : Nat} {x : Operand} {lo hi : Option Operand} {td ed : TyD} {a : A} {l r : List α} {i j : Int} (hx : av f x = some a) (hes : slOf a = some (l.map fn)) (ht : look' T.l t = some td) (hk : td.k = .slice e) (he : look' T.l e = some ed)
    (hn : ∀ x, (fn x).length = ed.n) (hlo : loA f lo = some i) (hhi : hiA f l.length hi = some j) (h0 : 0 ≤ i) (hij : i ≤ j) (hj : j ≤ (l.length : Int)) (hr : (l.take j.toNat).drop i.toNat = r) :
    Pu P C n ⟨f, bx, lv, gen⟩ ⟨dst, .slice t x lo hi none, ty, pos, af, none⟩ (.d (.sl (r.map fn))) := by
  subst hr
  refine PuOK.pu fun G tmps w hs => ?_
  have hrx := slOf_rep hes (hs.av hx)
  obtain ⟨a', cap, hv, hcap, hrep⟩ := hrx.sub (i := i.toNat) (j := j.toNat) (sz := ed.n) (by omega) (by rw [List.length_map]; omega) (fun y hy => by obtain ⟨z, _, rfl⟩ := List.mem_map.1 hy; exact hn z)
  rw [List.length_map] at hv hcap
  have hu := T.u_slice ht hk
  have hpe : P.elem t = e := by simp [Program.elem, hu]
  have hu' : P.underlying t = some (.slice (P.elem t)) := by rw [hpe]; exact hu
  refine ⟨sliced a' i.toNat j.toNat cap ed.n, ?_, .d (by rw [← List.map_take, ← List.map_drop] at hrep; exact hrep)⟩
  unfold execOp
  show Sem.run P _ w = _
  simp only [Sem.run_bind, run_sliceAt_slice w t _ _ _ _ hu', hv, run_slice_any w t a' l.length cap hu', Option.map_none, bounds_run (P := P) true hs hlo hhi h0 hij hj hcap, Result.andThen_ok, hpe, T.sizeOf he]
  rfl

end
end Go.Ab
/- The reference's ways: lines out of pieces, lines by index. -/
namespace Go.Tb
open Go.Ab

def objR (ws : List ByteArray) : Ob × Bool := match objW ws with | some o => (o, true) | none => (ob0, false)
theorem objR_eq {ws : List ByteArray} (h : ¬ (ws.length < 4 ∨ ws.getD 0 (B #[]) ≠ kObj ∨ ws.getD 3 (B #[]) = B #[])) : objR ws =
    if (numsA ((ws.take 3).drop 1)).2 = true ∧ (numsA (ws.drop 4)).2 = true then (⟨(numsA ((ws.take 3).drop 1)).1.getD 0 0, (numsA ((ws.take 3).drop 1)).1.getD 1 0, ws.getD 3 (B #[]), (numsA (ws.drop 4)).1⟩, true) else (ob0, false) := by
  unfold objR objW numsA
  rw [if_neg h]
  cases numsW ((ws.take 3).drop 1) <;> cases numsW (ws.drop 4) <;> simp
theorem objR_none {ws : List ByteArray} (h : ws.length < 4 ∨ ws.getD 0 (B #[]) ≠ kObj ∨ ws.getD 3 (B #[]) = B #[]) : objR ws = (ob0, false) := by
  unfold objR objW
  rw [if_pos h]
def rootOK (ws : List ByteArray) (r : List ByteArray) (m : ByteArray) : Prop := ws.getD 0 (B #[]) = kRoots ∧ (numsA (ws.drop 1)).1.length ≠ 0 ∧ (numsA (ws.drop 1)).2 = true ∧ r = [] ∧ m = B #[]
theorem imp_obj {l m : ByteArray} {r : List ByteArray} {i : Nat} {h : Hp} (q : (objR (cutB l 32)).2 = true) : impL (l :: m :: r) i h = impL (m :: r) (i + 1) ⟨h.objs ++ [(objR (cutB l 32)).1], h.roots⟩ := by
  unfold objR at q ⊢
  simp only [impL]
  cases e : objW (cutB l 32) with
  | none => rw [e] at q; cases q
  | some o => rfl
theorem root_none {ws : List ByteArray} {r : List ByteArray} {m : ByteArray} : (rootOK ws r m → (if r = [] ∧ m = B #[] then rootsW ws else none) = some (numsA (ws.drop 1)).1) ∧ (¬ rootOK ws r m → (if r = [] ∧ m = B #[] then rootsW ws else none) = none) := by
  constructor
  · rintro ⟨h1, h2, h3, h4, h5⟩
    have hl := numsA_len h3
    rw [if_pos ⟨h4, h5⟩]
    unfold rootsW
    rw [if_neg]
    · unfold numsA at h3 ⊢
      cases q : numsW (ws.drop 1) with
      | none => rw [q] at h3; cases h3
      | some l => rfl
    · rintro (q | q)
      · exact q h1
      · rw [hl, List.length_drop] at h2; omega
  · intro h
    split
    · rename_i h4
      unfold rootsW
      split
      · rfl
      · rename_i h5
        cases q : numsW (ws.drop 1) with
        | none => rfl
        | some l =>
          exfalso
          have ha : numsA (ws.drop 1) = (l, true) := by unfold numsA; rw [q]
          have hl := numsW_len q
          rw [List.length_drop] at hl
          refine h ⟨?_, ?_, ?_, h4⟩
          · by_cases z : ws.getD 0 (B #[]) = kRoots
            · exact z
            · exact absurd (.inl z) h5
          · rw [ha]
            have : ¬ ws.length < 2 := fun z => h5 (.inr z)
            show l.length ≠ 0
            omega
          · rw [ha]
    · rfl
theorem imp_noobj {l m : ByteArray} {r : List ByteArray} {i : Nat} {h : Hp} (q : (objR (cutB l 32)).2 = false) :
    (rootOK (cutB l 32) r m → impL (l :: m :: r) i h = impL (m :: r) (i + 1) ⟨h.objs, (numsA ((cutB l 32).drop 1)).1⟩) ∧ (¬ rootOK (cutB l 32) r m → impL (l :: m :: r) i h = (hp0, (i : Int), 10)) := by
  have e : objW (cutB l 32) = none := by
    unfold objR at q
    cases e : objW (cutB l 32) with
    | none => rfl
    | some o => rw [e] at q; cases q
  constructor
  · intro hr
    simp only [impL, e, root_none.1 hr]
  · intro hr
    simp only [impL, e, root_none.2 hr]
end Go.Tb
/- Equal heaps, small heaps. -/
namespace Go.Tb
open Go.Ab

instance obDec : DecidableEq Ob := fun a b => decidable_of_iff (a.id = b.id ∧ a.size = b.size ∧ a.type = b.type ∧ a.refs = b.refs) ⟨fun h => by cases a; cases b; simp_all, fun h => by rw [h]; exact ⟨rfl, rfl, rfl, rfl⟩⟩
instance hpDec : DecidableEq Hp := fun a b => decidable_of_iff (a.objs = b.objs ∧ a.roots = b.roots) ⟨fun h => by cases a; cases b; simp_all, fun h => by rw [h]; exact ⟨rfl, rfl⟩⟩
theorem ob_eq (a b : Ob) : a = b ↔ a.id = b.id ∧ a.size = b.size ∧ a.type = b.type ∧ a.refs = b.refs := ⟨fun h => by rw [h]; exact ⟨rfl, rfl, rfl, rfl⟩, fun h => by cases a; cases b; simp_all⟩
theorem hp_eq (a b : Hp) : a = b ↔ a.objs = b.objs ∧ a.roots = b.roots := ⟨fun h => by rw [h]; exact ⟨rfl, rfl⟩, fun h => by cases a; cases b; simp_all⟩
end Go.Tb
/- What was printed is read; what is read is printed so. -/
namespace Go.Tb
open Go.Ab

theorem numsW_back : ∀ {ws : List ByteArray} {l : List Int}, numsW ws = some l → ws = l.map numB
  | [], l, h => by simp only [numsW, Option.some.injEq] at h; subst h; rfl
  | w :: ws, l, h => by
    simp only [numsW] at h
    split at h
    · rename_i hp
      cases q : numsW ws with
      | none => rw [q] at h; cases h
      | some r =>
        rw [q] at h
        simp only [Option.some.injEq] at h
        subst h
        have e := (numP_some (s := w) (v := (numP w).1) (by rw [← hp])).2
        rw [List.map_cons, ← e, ← numsW_back q]
    · cases h
theorem numB_free {n : Int} : (32 : UInt8) ∉ (numB n).data.toList ∧ (10 : UInt8) ∉ (numB n).data.toList := by
  constructor <;> intro h <;> rw [numB_data] at h <;> rcases itoa_bytes h with q | q <;> revert q <;> decide
theorem name_free {s : ByteArray} (h : nameErr s = 0) : (32 : UInt8) ∉ s.data.toList ∧ (10 : UInt8) ∉ s.data.toList := by
  have hl := (name_ok h).2.1
  rw [List.all_eq_true] at hl
  exact ⟨fun q => by have := hl 32 q; revert this; decide, fun q => by have := hl 10 q; revert this; decide⟩
def wordsO (o : Ob) : List ByteArray := headO o ++ o.refs.map numB
def wordsR (l : List Int) : List ByteArray := [kRoots] ++ l.map numB
theorem GoodH.words {h : Hp} (g : GoodH h) {o : Ob} (ho : o ∈ h.objs) : ∀ w ∈ wordsO o, (32 : UInt8) ∉ w.data.toList ∧ (10 : UInt8) ∉ w.data.toList := by
  intro w hw
  unfold wordsO headO at hw
  rcases List.mem_append.1 hw with hw | hw
  · simp only [List.mem_cons, List.not_mem_nil, or_false] at hw
    rcases hw with rfl | rfl | rfl | rfl
    · decide
    · exact numB_free
    · exact numB_free
    · exact name_free (objErr_mem g.obj o ho).2
  · obtain ⟨n, _, rfl⟩ := List.mem_map.1 hw
    exact numB_free
theorem joinB_cut (s : ByteArray) (c : UInt8) : joinB (cutB s c) ⟨#[c]⟩ = s := by
  refine data_inj ?_
  have := join_cut c s.data.toList
  unfold joinB cutB
  rw [List.map_map]
  have e : ((fun x : ByteArray => x.data.toList) ∘ ofL) = id := by funext x; rfl
  rw [e, List.map_id]
  exact this
theorem joinB_two (x y : ByteArray) (r : List ByteArray) (sep : ByteArray) : joinB (x :: y :: r) sep = x ++ sep ++ joinB (y :: r) sep := by
  refine data_inj ?_
  simp only [joinB, List.map_cons, join_two, ByteArray.data_append, Array.toList_append, ofL_data]
theorem joinB_one (x sep : ByteArray) : joinB [x] sep = x := by
  refine data_inj ?_
  simp only [joinB, List.map_cons, List.map_nil, Lib.join_one]
  rfl
theorem objW_back {ws : List ByteArray} {o : Ob} (h : objW ws = some o) : ws = wordsO o := by
  unfold objW at h
  split at h
  · cases h
  · rename_i hc
    have hl : 4 ≤ ws.length := by omega
    have h0 : ws.getD 0 (B #[]) = kObj := by
      by_cases z : ws.getD 0 (B #[]) = kObj
      · exact z
      · exact absurd (.inr (.inl z)) hc
    obtain ⟨a, b, c, d, r, rfl⟩ : ∃ a b c d r, ws = a :: b :: c :: d :: r := by
      match ws, hl with
      | a :: b :: c :: d :: r, _ => exact ⟨a, b, c, d, r, rfl⟩
    have ha : a = kObj := h0
    cases q1 : numsW (((a :: b :: c :: d :: r).take 3).drop 1) with
    | none => rw [q1] at h; cases h
    | some x =>
      cases q2 : numsW ((a :: b :: c :: d :: r).drop 4) with
      | none => rw [q1, q2] at h; cases h
      | some y =>
        rw [q1, q2] at h
        simp only [Option.some.injEq] at h
        subst h
        have e1 : [b, c] = x.map numB := numsW_back q1
        have e2 : r = y.map numB := numsW_back q2
        match x, e1 with
        | [p, q], e1 =>
          simp only [List.map_cons, List.map_nil, List.cons.injEq, and_true] at e1
          rw [ha, e1.1, e1.2, e2]
          rfl
        | [], e1 => cases e1
        | [_], e1 => simp at e1
        | _ :: _ :: _ :: _, e1 => simp at e1
theorem rootsW_back {ws : List ByteArray} {l : List Int} (h : rootsW ws = some l) : ws = wordsR l ∧ l ≠ [] := by
  unfold rootsW at h
  split at h
  · cases h
  · rename_i hc
    have hl : 2 ≤ ws.length := by omega
    have h0 : ws.getD 0 (B #[]) = kRoots := by
      by_cases z : ws.getD 0 (B #[]) = kRoots
      · exact z
      · exact absurd (.inl z) hc
    have e := numsW_back h
    have e2 := numsW_len h
    rw [List.length_drop] at e2
    refine ⟨?_, fun q => by rw [q] at e2; simp at e2; omega⟩
    match ws, hl with
    | a :: r, _ =>
      have ha : a = kRoots := h0
      have e3 : r = l.map numB := e
      rw [ha, e3]
      rfl
theorem imp_body : ∀ (L : List ByteArray) (i : Nat) (h : Hp), L ≠ [] → h.roots = [] → (impL L i h).2.2 = 0 → (impL L i h).2.1 = 0 ∧ checkH (impL L i h).1 = 0 ∧ bodyH (impL L i h).1 = catB (h.objs.map lineO) ++ joinB L bNl
  | [], _, _, hne, _, _ => absurd rfl hne
  | [l], i, h, _, hr, hz => by
    simp only [impL] at hz ⊢
    split at hz
    · rename_i hl
      rw [if_pos hl]
      unfold finH at hz ⊢
      split at hz
      · rename_i q; exact absurd hz q
      · rename_i q
        rw [if_neg q]
        refine ⟨rfl, by simpa using q, ?_⟩
        rw [hl, joinB_one, bnil]
        unfold bodyH rootsB
        rw [if_pos hr, bnil]
    · exact absurd (show (10 : Int) = 0 from hz) (by decide)
  | l :: m :: r, i, h, _, hr, hz => by
    simp only [impL] at hz ⊢
    cases q : objW (cutB l 32) with
    | some o =>
      rw [q] at hz
      simp only at hz ⊢
      obtain ⟨h1, h2, h3⟩ := imp_body (m :: r) (i + 1) ⟨h.objs ++ [o], h.roots⟩ (by simp) hr hz
      refine ⟨h1, h2, ?_⟩
      rw [h3, List.map_append, List.map_cons, List.map_nil, catB_snoc, joinB_two]
      have e : lineO o = l ++ bNl := by
        unfold lineO lineB
        have := joinB_cut l 32
        rw [objW_back q] at this
        exact congrArg (· ++ bNl) this
      rw [e]
      simp only [bapp]
    | none =>
      rw [q] at hz
      simp only at hz ⊢
      split at hz
      · rename_i w hw
        split at hw
        · rename_i hrm
          obtain ⟨rfl, rfl⟩ := hrm
          obtain ⟨e1, e2⟩ := rootsW_back hw
          simp only [impL, if_true] at hz ⊢
          unfold finH at hz ⊢
          split at hz
          · rename_i q; exact absurd hz q
          · rename_i q
            rw [if_neg q]
            refine ⟨rfl, by simpa using q, ?_⟩
            unfold bodyH rootsB lineB
            rw [if_neg e2, joinB_two, joinB_one, bnil]
            have := joinB_cut l 32
            rw [e1] at this
            exact congrArg (fun z => catB (h.objs.map lineO) ++ (z ++ bNl)) this
        · cases hw
      · exact absurd (show (10 : Int) = 0 from hz) (by decide)
theorem print_import {s : ByteArray} (h : (importH s).2.2 = 0) : (importH s).2.1 = 0 ∧ checkH (importH s).1 = 0 ∧ bodyH (importH s).1 = s ∧ s.size ≤ 65536 := by
  unfold importH at h ⊢
  split at h
  · exact absurd (show (7 : Int) = 0 from h) (by decide)
  · rename_i hs
    rw [if_neg hs]
    obtain ⟨h1, h2, h3⟩ := imp_body (cutB s 10) 1 hp0 (by have := (cutB_len s 10).1; intro q; rw [q] at this; simp at this) rfl h
    refine ⟨h1, h2, ?_, by omega⟩
    rw [h3]
    show catB [] ++ _ = s
    rw [show catB [] = B #[] from rfl, nilb]
    exact joinB_cut s 10
end Go.Tb
/- Small heaps have short texts; valid heaps: what is found, what is missed. -/
namespace Go.Tb
open Go.Ab

end Go.Tb
/- The end of one operation of a drawn region's chain, part by part. -/
namespace Go.Ab
end Go.Ab
/- Typed data out of a reading: heaps. -/
namespace Go.Tb
open Go.Ab
section
variable {P : Program} {T : Tab P} {l : List D}
variable {th tos to ti ts tis o1 o2 o3 o4 o5 o6 : Nat} {n1 n2 n3 n4 n5 n6 : String}
end
end Go.Tb
