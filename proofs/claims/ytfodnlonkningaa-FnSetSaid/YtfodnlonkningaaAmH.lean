/- An evaluator of code over data of known kinds, and that each operation does what it says: the rest. -/
import Derived.Test.YtfodnlonkningaaAmA
import Derived.Laws.Append
import Derived.Laws.AppendOwn
import Derived.Laws.BytesString
import Derived.Laws.MakeOwn
set_option linter.unusedVariables false
set_option linter.unusedSimpArgs false
namespace Go.Am
open Go

section
variable {P : Program} {tt : TT} {sig : Sig} {C : Nat → Pk → Option Pk} {Z : Base} {e : Env} {a : Act} {w w' : World} {G : Gh} {s s' : Seen} {us : List Up}

/-! ### The cells of a list -/

/-- The cells of the elements of a list, one behind the other. -/
def Row (size : Nat) {α : Type} (rd : α → List Value → Prop) (xs : List α) (nv : List Value) : Prop :=
  nv.length = xs.length * size ∧ ∀ j y, xs[j]? = some y → ∃ cs, rd y cs ∧ ∀ k v, cs[k]? = some v → nv[j * size + k]? = some v
theorem Row.nil {size : Nat} {α : Type} {rd : α → List Value → Prop} : Row size rd ([] : List α) [] := ⟨by simp, fun j y h => by simp at h⟩
theorem Row.append {size : Nat} {α : Type} {rd : α → List Value → Prop} {xs ys : List α} {nv mv : List Value} (h : Row size rd xs nv) (k : Row size rd ys mv) : Row size rd (xs ++ ys) (nv ++ mv) := by
  refine ⟨by rw [List.length_append, h.1, k.1, List.length_append, Nat.add_mul], fun j y hj => ?_⟩
  by_cases hlt : j < xs.length
  · rw [List.getElem?_append_left hlt] at hj
    obtain ⟨cs, h1, h2⟩ := h.2 j y hj
    refine ⟨cs, h1, fun q v hq => ?_⟩
    have := h2 q v hq
    rw [List.getElem?_append_left (List.getElem?_eq_some_iff.1 this).1]; exact this
  · rw [List.getElem?_append_right (by omega)] at hj
    obtain ⟨cs, h1, h2⟩ := k.2 _ y hj
    refine ⟨cs, h1, fun q v hq => ?_⟩
    have := h2 q v hq
    have hm : j * size = xs.length * size + (j - xs.length) * size := by rw [← Nat.add_mul]; congr 1; omega
    rw [List.getElem?_append_right (by rw [h.1, hm]; omega), h.1, hm, show xs.length * size + (j - xs.length) * size + q - xs.length * size = (j - xs.length) * size + q by omega]
    exact this
theorem Row.mono {size : Nat} {α : Type} {rd rd' : α → List Value → Prop} {xs : List α} {nv : List Value} (f : ∀ x cs, rd x cs → rd' x cs) (h : Row size rd xs nv) : Row size rd' xs nv :=
  ⟨h.1, fun j y hj => let ⟨cs, h1, h2⟩ := h.2 j y hj; ⟨cs, f _ _ h1, h2⟩⟩
theorem Row.elts {size : Nat} {α : Type} {rd : α → List Value → Prop} {xs : List α} {nv : List Value} (h : Row size rd xs nv) {cells : Array Value} {off : Nat} (hc : ∀ q v, nv[q]? = some v → cells[off + q]? = some v) : Elts cells off size rd xs :=
  fun i x hx => let ⟨cs, h1, h2⟩ := h.2 i x hx; ⟨cs, h1, fun j v hj => by rw [Nat.add_assoc]; exact hc _ _ (h2 j v hj)⟩
theorem elts_bound {d : Kd} {S : Nat → Prop} {cells : Array Value} {off : Nat} (hd : 0 < d.size) {xs : List d.den} (h : Elts cells off d.size (Rd w S d) xs) (hx : xs ≠ []) : off + xs.length * d.size ≤ cells.size := by
  have hlen : 0 < xs.length := List.length_pos_iff.2 hx
  obtain ⟨cs, h1, h2⟩ := h (xs.length - 1) _ (List.getElem?_eq_getElem (by omega))
  have hl := Rd.length h1
  have h3 := h2 (d.size - 1) _ (List.getElem?_eq_getElem (by omega))
  have h4 := (Array.getElem?_eq_some_iff.1 h3).1
  have h5 : xs.length * d.size = (xs.length - 1) * d.size + d.size := by
    rw [← Nat.succ_mul]; congr 1; omega
  omega
theorem Elts.row {d : Kd} {S : Nat → Prop} {cells : Array Value} {off : Nat} (hd : 0 < d.size) {xs : List d.den} (h : Elts cells off d.size (Rd w S d) xs) (hx : xs ≠ []) :
    Row d.size (Rd w S d) xs ((cells.toList.drop off).take (xs.length * d.size)) := by
  have hb := elts_bound hd h hx
  refine ⟨by simp; omega, fun j y hj => ?_⟩
  obtain ⟨cs, h1, h2⟩ := h j y hj
  have hl := Rd.length h1
  refine ⟨cs, h1, fun k v hk => ?_⟩
  have hlt : k < cs.length := (List.getElem?_eq_some_iff.1 hk).1
  have hj' : j < xs.length := (List.getElem?_eq_some_iff.1 hj).1
  have h3 : (j + 1) * d.size ≤ xs.length * d.size := Nat.mul_le_mul_right _ hj'
  rw [Nat.succ_mul] at h3
  rw [List.getElem?_take, if_pos (by omega), List.getElem?_drop, ← Nat.add_assoc]
  simpa using h2 k v hk
theorem Row.one {d : Kd} {S : Nat → Prop} (hd : 0 < d.size) {xs : List d.den} {nv : List Value} (h : Row d.size (Rd w S d) xs nv) : ∀ v ∈ nv, v.oneCell' = true := by
  intro v hv
  obtain ⟨q, hq⟩ := List.getElem?_of_mem hv
  have hlt : q < nv.length := (List.getElem?_eq_some_iff.1 hq).1
  have hj : q / d.size < xs.length := by rw [Nat.div_lt_iff_lt_mul hd]; rw [h.1] at hlt; exact hlt
  obtain ⟨cs, h1, h2⟩ := h.2 (q / d.size) _ (List.getElem?_eq_getElem hj)
  have hl := Rd.length h1
  have hm : q % d.size < cs.length := by rw [hl]; exact Nat.mod_lt _ hd
  have h3 := h2 (q % d.size) _ (List.getElem?_eq_getElem hm)
  have h4 : q / d.size * d.size + q % d.size = q := by rw [Nat.mul_comm]; exact Nat.div_add_mod q d.size
  rw [h4, hq] at h3
  cases h3
  exact Rd.one h1 _ (List.getElem_mem hm)

theorem firstCells_some (size n : Nat) (b o : Nat) (m c : Nat) {cells : Array Value} {t : TypeId} {fr : Nat × Nat} (hb : w.heap[b]? = some (.cells cells t fr)) {nv : List Value} (hl : nv.length = n * size) (hc : ∀ q v, nv[q]? = some v → cells[o + q]? = some v) :
    (Builtin.firstCells size n (.slice (some ⟨b, o, none⟩) m c)).run P w = .ok nv.toArray w := by
  have := run_loadCells_list (P := P) w ⟨b, o, none⟩ nv (fun j v hj => by rw [addr_add]; simp [World.cell?, hb, hc j v hj])
  rw [hl] at this
  simpa [Builtin.firstCells] using this

/-- A slice's elements: as data, and as 'append' reads them. -/
structure Elems (P : Program) (w : World) (S : Nat → Prop) (d : Kd) (xs : List d.den) (u : Value) : Prop where
  ex : ∃ ad c nv, u = .slice ad xs.length c ∧ xs.length ≤ c ∧ (∀ w' : World, w'.heap = w.heap → (Builtin.firstCells d.size xs.length u).run P w' = .ok nv.toArray w') ∧ Row d.size (Rd w S d) xs nv
  pre : ∀ k, k ≤ xs.length → ∃ nv, (Builtin.firstCells d.size k u).run P w = .ok nv.toArray w ∧ Row d.size (Rd w S d) (xs.take k) nv

theorem Elems.of_empty {S : Nat → Prop} {d : Kd} {ad : Option Addr} {c : Nat} : Elems P w S d [] (.slice ad 0 c) :=
  ⟨⟨ad, c, [], rfl, by simp, fun w' _ => by cases ad <;> simp [Builtin.firstCells, loadCells, loadCellsFrom], Row.nil⟩, fun k hk => by
    obtain rfl : k = 0 := by simpa using hk
    exact ⟨[], by cases ad <;> simp [Builtin.firstCells, loadCells, loadCellsFrom], Row.nil⟩⟩
theorem Elems.of_elts {S : Nat → Prop} {d : Kd} (hd : 0 < d.size) {xs : List d.den} {b off cap : Nat} {cells : Array Value} {t : TypeId} {fr : Nat × Nat} (hb : w.heap[b]? = some (.cells cells t fr)) (hc : xs.length ≤ cap)
    (h : Elts cells off d.size (Rd w S d) xs) : Elems P w S d xs (.slice (some ⟨b, off, none⟩) xs.length cap) := by
  by_cases hx : xs = []
  · subst hx; exact Elems.of_empty
  · have hr := h.row hd hx
    refine ⟨⟨_, cap, _, rfl, hc, fun w' hw => firstCells_some d.size xs.length b off _ _ (hw ▸ hb) hr.1 fun q v hq => ?_, hr⟩, fun k hk => ?_⟩
    · rw [List.getElem?_take] at hq
      split at hq
      · rw [List.getElem?_drop] at hq; simpa using hq
      · cases hq
    · by_cases hk0 : k = 0
      · subst hk0
        exact ⟨[], by simp [Builtin.firstCells, loadCells, loadCellsFrom], by rw [List.take_zero]; exact Row.nil⟩
      · have h' : Elts cells off d.size (Rd w S d) (xs.take k) := fun i x hx => by
          rw [List.getElem?_take] at hx
          split at hx
          · exact h i x hx
          · cases hx
        have hlk : (xs.take k).length = k := by simp; omega
        have hr := h'.row hd (fun h0 => by rw [h0] at hlk; simp at hlk; omega)
        refine ⟨_, firstCells_some d.size k b off _ _ hb (by rw [hr.1, hlk]) fun q v hq => ?_, hr⟩
        rw [List.getElem?_take] at hq
        split at hq
        · rw [List.getElem?_drop] at hq; simpa using hq
        · cases hq
theorem Elems.of_slv {S : Nat → Prop} {d : Kd} (hd : 0 < d.size) {xs : List d.den} {u : Value} (h : SlV w S d.size (Rd w S d) xs u) : Elems P w S d xs u := by
  rcases h with ⟨rfl, a', c, rfl, h4⟩ | ⟨b, off, c, cells, t', fr, rfl, h4, h5, h6, h7⟩
  · exact Elems.of_empty
  · exact Elems.of_elts hd h6 h4 h7
theorem ArrOk.elems {S : Nat → Prop} {d : Kd} (hd : 0 < d.size) {xs : List d.den} {u : Value} (h : ArrOk w S d xs u) : Elems P w S d xs u := by
  rcases h with ⟨rfl, ad, rfl⟩ | ⟨b, off, cap, cells, t, rfl, h2, h3, h4, h5, h6⟩
  · exact Elems.of_empty
  · exact Elems.of_elts hd h4 h2 h6
/-- A part of a row of one's own is one, too. -/
theorem ArrOk.sub {S : Nat → Prop} {d : Kd} {xs : List d.den} {g v : Value} (h : ArrOk w S d xs g) {o n : Nat} (hs : Sub g d.size o n v) (hn : o + n ≤ xs.length) : ArrOk w S d ((xs.drop o).take n) v ∧ ∀ b, Bk v b → Bk g b := by
  obtain ⟨a', m, cap, a'', cap', rfl, rfl, h2, h3, h4⟩ := hs
  by_cases hc0 : cap' = 0
  · subst hc0
    obtain rfl : n = 0 := by omega
    exact ⟨.inl ⟨by simp, a'', rfl⟩, fun b hb => by cases a'' <;> simp [Bk, blkOf] at hb⟩
  · rcases h4 with ⟨ad, rfl, rfl, h5⟩ | ⟨_, h5⟩
    · rcases h with ⟨_, ad', h6⟩ | ⟨b, off, cp, cells, t, h6, h7, h8, h9, h10, h11⟩
      · simp at h6; omega
      · simp only [Value.slice.injEq, Option.some.injEq] at h6
        obtain ⟨rfl, rfl, rfl⟩ := h6
        rw [addr_add]
        have hlen : ((xs.drop o).take n).length = n := by simp; omega
        have hmul : (o + cap') * d.size ≤ cap * d.size := Nat.mul_le_mul_right _ h5
        rw [Nat.add_mul] at hmul
        refine ⟨.inr ⟨b, off + o * d.size, cap', cells, t, by rw [hlen], by rw [hlen]; exact h2, by omega, h9, by omega, ?_⟩, fun c hc => ?_⟩
        · intro i x hx
          rw [List.getElem?_take] at hx
          split at hx
          · rw [List.getElem?_drop] at hx
            obtain ⟨cs, h12, h13⟩ := h11 _ _ hx
            exact ⟨cs, h12, by rw [show off + o * d.size + i * d.size = off + (o + i) * d.size by rw [Nat.add_mul]; omega]; exact h13⟩
          · cases hx
        · simp [Bk, blkOf, hc0] at hc ⊢; omega
    · exact absurd h5 hc0

theorem part_elems {e1 : Env} (h1 : Rel Z e1 a w G) {r : Rid} {d : Kd} (hd : 0 < d.size) {xs : List d.den} {own : Bool} (hl : (own = true ∧ look e1.rt r = some (some (.arr d xs))) ∨ (own = false ∧ look e1.rt r = some (some (.fro d xs))))
    {o n : Nat} {u : Value} (hu : AtomRel w (Stab Z e1.rt G w) e1.rt G (.part r o n) u) : Elems P w (Stab Z e1.rt G w) d ((xs.drop o).take n) u := by
  obtain ⟨hle, hs⟩ := RowRel.row (show RowRel e1.rt r _ _ from hu) hl
  rcases hl with ⟨_, hl⟩ | ⟨_, hl⟩
  · exact ((h1.mem.roots r _ hl : ArrOk w _ d xs (G r)).sub hs hle).1.elems hd
  · exact Elems.of_slv hd (fro_part h1 hl hu).1
theorem run_listOf {α : Type} {xx : α × Seen} (h : Rel Z e a w G) {d : Kd} (hd : 0 < d.size) {x : AV} {u : Value} (hv : VRel Z e G w x u) {k : List d.den → Pg α} (hp : (listOf d x k).run C e s = some xx) :
    ∃ l s1, Elems P w (Stab Z e.rt G w) d l u ∧ (k l).run C e s1 = some xx := by
  unfold listOf at hp
  split at hp
  · exact ⟨[], s, by rw [show u = _ from hv]; exact Elems.of_empty, hp⟩
  · rename_i d' xs g
    split at hp
    case h_2 => exact run_fail hp
    rename_i l hl
    obtain ⟨hab, hy⟩ := castL_eq hl
    subst hab; subst hy
    exact ⟨_, s, Elems.of_slv hd hv.1, hp⟩
  · rename_i d' xs
    split at hp
    case h_2 => exact run_fail hp
    rename_i l hl
    obtain ⟨hab, hy⟩ := castL_eq hl
    subst hab; subst hy
    exact ⟨_, s, Elems.of_slv hd hv.1, hp⟩
  · rename_i r
    obtain ⟨d', xs, own, s1, hr, hp1⟩ := run_rowOf hp
    split at hp1
    case h_2 => exact run_fail hp1
    rename_i l hl
    obtain ⟨hab, hy⟩ := castL_eq hl
    subst hab; subst hy
    refine ⟨_, s1, ?_, hp1⟩
    have hx : u = G r := RowRel.row (show RowRel e.rt r _ _ from hv) hr
    rw [hx]
    rcases hr with ⟨_, hr⟩ | ⟨_, hr⟩
    · exact (h.mem.roots r _ hr : ArrOk w _ _ xs (G r)).elems hd
    · exact Elems.of_slv hd (h.mem.roots r _ hr)
  · rename_i r o n
    obtain ⟨d', xs, own, s1, hr, hp1⟩ := run_rowOf hp
    split at hp1
    case h_2 => exact run_fail hp1
    rename_i l hl
    obtain ⟨hab, hy⟩ := castL_eq hl
    subst hab; subst hy
    exact ⟨_, s1, part_elems h hd hr hv, hp1⟩
  · exact run_fail hp

/-! ### Append -/

theorem append_zero {t u ty : TypeId} (ht : P.underlying t = some (.slice u)) {size : Nat} (hn : ∀ w, (sizeOf u).run P w = .ok size w) {ad : Option Addr} {n cap : Nat} (hc : n ≤ cap) {x : Value} {xa : Option Addr} {c : Nat} (hx : x = .slice xa 0 c) :
    (Builtin.append_ #[t, t] ty #[.slice ad n cap, x]).run P w = .ok (.slice ad n cap) w := by
  subst hx
  cases ad <;> cases xa <;> simp [Builtin.append_, underlying, ht, hn, Builtin.lenOf, hc, Builtin.firstCells, loadCells, loadCellsFrom, storeCells]
theorem append_room {t u ty : TypeId} (ht : P.underlying t = some (.slice u)) {size : Nat} (hn : ∀ w, (sizeOf u).run P w = .ok size w) {b o n cap : Nat} {cur : Array Value} {t' : TypeId} (hb : w.heap[b]? = some (.cells cur t' (0, 0)))
    {x : Value} {xa : Option Addr} {m c : Nat} (hx : x = .slice xa m c) {nv : List Value} (hf : (Builtin.firstCells size m x).run P w = .ok nv.toArray w) (h1 : ∀ v ∈ nv, v.oneCell' = true) (hc : n + m ≤ cap) (hfit : o + n * size + nv.length ≤ cur.size) :
    (Builtin.append_ #[t, t] ty #[.slice (some ⟨b, o, none⟩) n cap, x]).run P w = .ok (.slice (some ⟨b, o, none⟩) (n + m) cap) (w.setRow b (splice cur.toList (o + n * size) nv).toArray) := by
  subst hx
  have hst := run_storeCells_at P b (o + n * size) t' nv 0 cur w hb (by simpa using hfit) h1
  simp only [Nat.add_zero] at hst
  simp [Builtin.append_, underlying, ht, hn, Builtin.lenOf, hc, hf, addr_add, hst, splice]
theorem append_grow {t u ty : TypeId} (ht : P.underlying t = some (.slice u)) {i : TypeInfo} {z : Value} (hi : P.info? u = some i) (hz : i.zero = some z) {ad : Option Addr} {n cap : Nat} {os : List Value}
    (ho : (Builtin.firstCells i.size n (.slice ad n cap)).run P w.drew = .ok os.toArray w.drew)
    {x : Value} {xa : Option Addr} {m c : Nat} (hx : x = .slice xa m c) {nv : List Value} (hf : (Builtin.firstCells i.size m x).run P w.drew = .ok nv.toArray w.drew) (hc : cap < n + m) (h63 : n + m ≤ LIM) (hby : i.bytes ≤ 128) :
    (Builtin.append_ #[t, t] ty #[.slice ad n cap, x]).run P w = .ok (.slice (some ⟨w.heap.size, 0, none⟩) (n + m) (grownCap w (n + m) cap u))
      (w.drew.alloc (.cells ((os ++ nv).toArray ++ Builtin.zeroCells z.cells (grownCap w (n + m) cap u - (n + m))) u)) := by
  subst hx
  have hn : ¬ (n + m ≤ cap) := by omega
  have h63' : ¬ (9223372036854775807 < ((n : Int) + (m : Int))) := by unfold LIM at h63; omega
  have h48 : Builtin.nextslicecap (n + m) cap * i.bytes ≤ 281474976710656 := growslice_fits (by omega) (by
    unfold LIM at h63
    have := Nat.mul_le_mul h63 hby
    omega)
  have h48' : ¬ (281474976710656 < Builtin.nextslicecap (n + m) cap * i.bytes) := by omega
  simp [Builtin.append_, underlying, ht, sizeOf, typeInfo, zeroValue, hi, hz, Builtin.lenOf, hn, h63', h48', Question.forced, hf, ho, Go.newRow, grownCap]
  congr 2
  apply Array.ext'
  simp [List.append_assoc]

/-- One row in the place of another one, under a new name. -/
theorem Chg.replace {r q : Rid} {d0 : Kd} {xs0 : List d0.den} (hr : look e.rt r = some (some (.arr d0 xs0))) (hq : look e.rt q = none) {x : Root} {g : Value} (hos : w'.os = w.os) (htp : w'.tape = w.tape) (hou : w'.output = w.output)
    (hsz : w.heap.size ≤ w'.heap.size) (hblk : ∀ b, b < w.heap.size → ¬ Bk (G r) b → w'.heap[b]? = w.heap[b]?) (hg : ∀ b, Bk g b → Bk (G r) b ∨ w.heap.size ≤ b) :
    Chg Z e.rt G w (setR (setR e.rt r none) q (some x)) (setG G q g) w' where
  os := hos
  tape := htp
  output := hou
  size := hsz
  block b h1 h2 := hblk b h1 fun h3 => h2 ⟨r, _, hr, rfl, h3⟩
  own b hb := by
    rcases hb.set with ⟨p, y, h1, h2, h3⟩ | ⟨x', h1, h2, h3⟩
    · by_cases hp : p = r
      · subst hp; rw [look_setR, if_pos rfl] at h1; cases h1
      · rw [look_setR, if_neg hp] at h1; exact .inl ⟨p, y, h1, h2, h3⟩
    · rcases hg b h3 with h4 | h4
      · exact .inl ⟨r, _, hr, rfl, h4⟩
      · exact .inr h4
  turns p y hp := by
    by_cases e1 : p = q
    · subst e1; rw [hq] at hp; cases hp
    · by_cases e2 : p = r
      · subst e2
        rw [hr] at hp; cases hp
        exact ⟨none, by simp [look_setR, e1], .gone _, fun h => absurd rfl h⟩
      · exact ⟨y, by simp [look_setR, e1, e2, hp], .same _, fun _ => .inl (setG_other e1)⟩
theorem Rel.replace (h : Rel Z e a w G) {r q : Rid} {d0 : Kd} {xs0 : List d0.den} (hr : look e.rt r = some (some (.arr d0 xs0))) (hq : look e.rt q = none) {x : Root} {g : Value} (hos : w'.os = w.os) (htp : w'.tape = w.tape) (hou : w'.output = w.output)
    (hsz : w.heap.size ≤ w'.heap.size) (hblk : ∀ b, b < w.heap.size → ¬ Bk (G r) b → w'.heap[b]? = w.heap[b]?) (hg : ∀ b, Bk g b → Bk (G r) b ∨ w.heap.size ≤ b)
    (hx : RootOk w' (Stab Z (setR (setR e.rt r none) q (some x)) (setG G q g) w') (setR (setR e.rt r none) q (some x)) (setG G q g) q x) :
    Rel Z { e with rt := setR (setR e.rt r none) q (some x) } a w' (setG G q g) := by
  have hc : Chg Z e.rt G w (setR (setR e.rt r none) q (some x)) (setG G q g) w' := Chg.replace hr hq hos htp hou hsz hblk hg
  have old : ∀ p y, look (setR (setR e.rt r none) q (some x)) p = some (some y) → p ≠ q → look e.rt p = some (some y) ∧ p ≠ r := by
    intro p y hp e1
    rw [look_setR, if_neg e1, look_setR] at hp
    by_cases e2 : p = r
    · rw [if_pos e2] at hp; cases hp
    · rw [if_neg e2] at hp; exact ⟨hp, e2⟩
  refine h.chg hc (hc.mem h.mem (fun p y hp => ?_) (fun p p' y y' b hp hp' ho ho' h1 h2 => ?_))
  · by_cases e1 : p = q
    · subst e1
      rw [look_setR, if_pos rfl] at hp
      cases hp
      exact .inr hx
    · obtain ⟨h1, h2⟩ := old p y hp e1
      exact .inl ⟨h1, setG_other e1, fun ho b hb => hblk b (h.mem.own_lt ⟨p, y, h1, ho, hb⟩) fun h3 => h2 (h.mem.sep p r y _ b h1 hr ho rfl hb h3)⟩
  · have one : ∀ p y, look (setR (setR e.rt r none) q (some x)) p = some (some y) → y.own = true → p ≠ q → Bk (G p) b → Bk g b → False := by
      intro p y hp ho e1 hb1 hb2
      obtain ⟨h3, h4⟩ := old p y hp e1
      rcases hg b hb2 with h5 | h5
      · exact h4 (h.mem.sep p r y _ b h3 hr ho rfl hb1 h5)
      · have := h.mem.own_lt ⟨p, y, h3, ho, hb1⟩
        omega
    by_cases e1 : p = q <;> by_cases e2 : p' = q
    · rw [e1, e2]
    · rw [e1, setG_same] at h1; rw [setG_other e2] at h2
      exact (one p' y' hp' ho' e2 h2 h1).elim
    · rw [setG_other e1] at h1; rw [e2, setG_same] at h2
      exact (one p y hp ho e1 h1 h2).elim
    · rw [setG_other e1] at h1; rw [setG_other e2] at h2
      exact h.mem.sep p p' y y' b (old p y hp e1).1 (old p' y' hp' e2).1 ho ho' h1 h2

theorem zatoms_length : ∀ k : Kd, (zatoms k).length = k.size
  | .int _ => rfl
  | .bool => rfl
  | .str => rfl
  | .sl _ => rfl
  | .pr a b => by simp [zatoms, Kd.size, zatoms_length a, zatoms_length b]

/-- A new row: its block alone is new. -/
theorem arr_new {S : Nat → Prop} {d : Kd} {xs : List d.den} {nv : List Value} {cells : Array Value} {u : TypeId} {b cap : Nat} (hb : w.heap[b]? = some (.cells cells u (0, 0))) (hr : Row d.size (Rd w S d) xs nv)
    (hc : ∀ (q : Nat) (v : Value), nv[q]? = some v → cells[q]? = some v) (h1 : xs.length ≤ cap) (h2 : cap * d.size ≤ cells.size) (h3 : cap ≤ 9223372036854775807) : ArrOk w S d xs (.slice (some ⟨b, 0, none⟩) xs.length cap) := by
  by_cases hc0 : cap = 0
  · subst hc0
    have : xs = [] := List.eq_nil_of_length_eq_zero (by omega)
    subst this
    exact .inl ⟨rfl, _, rfl⟩
  · exact .inr ⟨b, 0, cap, cells, u, rfl, h1, ⟨by omega, h3⟩, hb, by omega, hr.elts fun q v hq => by rw [Nat.zero_add]; exact hc q v hq⟩

theorem sound_append_base (h : Rel Z e a w G) {o : Oper} {d t ty : Nat} {ti te : TI} (hT : TTok P tt) (hti : tt.get t = some ti) (hte : tt.get ti.elem = some te) (hsl : ti.sl = true) (hok : te.ok = true) (hpos : 0 < te.size) (hby : te.bytes ≤ 128)
    (hd : o.dst = some d) {us uv : Value} (hr : ∀ v w1, (Builtin.append_ #[t, t] o.type #[us, uv]).run P w = .ok v w1 → (execOp a.eval o).run P w = .ok (.value v) w1)
    {base news : List te.kd.den} (hn : Elems P w (Stab Z e.rt G w) te.kd news uv) (hb : Elems P w (Stab Z e.rt G w) te.kd base us) (hlim : base.length + news.length ≤ LIM)
    (hq : look e.rt (d, 4000) = none) (fin : List Up)
    (hold : (base = [] ∧ (∃ ad, us = .slice ad 0 0) ∧ fin = []) ∨ (∃ r d0, ∃ xs0 : List d0.den, look e.rt r = some (some (.arr d0 xs0)) ∧ ArrOk w (Stab Z e.rt G w) te.kd base us ∧ (∀ b, Bk us b → Bk (G r) b) ∧ fin = [.rt r none])) :
    Sound1 P o (fin ++ [.rt (d, 4000) (some (.arr te.kd (base ++ news))), .tm d (.one (.whole (d, 4000)))]) Z e a w := by
  obtain ⟨i, z, dd, hi, _, hs1, hb1, _, hz, _, _, hokz⟩ := (hT _ _ hte).info
  obtain ⟨hks, hzc⟩ := hokz hok
  have hkd : 0 < te.kd.size := by omega
  have ht := (hT _ _ hti).slice hsl
  have hsize : ∀ w, (sizeOf ti.elem).run P w = .ok te.kd.size w := fun w => by rw [hks]; exact (hT _ _ hte).runSize w
  obtain ⟨adn, cn, nv, rfl, hcn, hfn, hrown⟩ := hn.ex
  obtain ⟨adb, cb, ov, rfl, hcb, hfb, hrowb⟩ := hb.ex
  have hlen : (base ++ news).length = base.length + news.length := by simp
  -- how it ends, once the world and the row's header are known
  have fin1 : ∀ (w1 : World) (g : Value), (Builtin.append_ #[t, t] o.type #[.slice adb base.length cb, .slice adn news.length cn]).run P w = .ok g w1 → w1.os = w.os → w1.tape = w.tape → w1.output = w.output → w.heap.size ≤ w1.heap.size →
      (∀ b, b < w.heap.size → ¬ Bk (.slice adb base.length cb) b → w1.heap[b]? = w.heap[b]?) → (∀ b, Bk g b → Bk (.slice adb base.length cb) b ∨ w.heap.size ≤ b) → g.oneCell' = true →
      (∀ rt' G', Chg Z e.rt G w rt' G' w1 → ArrOk w1 (Stab Z rt' G' w1) te.kd (base ++ news) g) → Sound1 P o (fin ++ [.rt (d, 4000) (some (.arr te.kd (base ++ news))), .tm d (.one (.whole (d, 4000)))]) Z e a w := by
    intro w1 g hrun h1 h2 h3 h4 h5 h6 h7 h8
    rcases hold with ⟨hb0, ⟨ad0, hu0⟩, hfin⟩ | ⟨r, d0, xs0, hlr, hok', hblk, hfin⟩
    · subst hfin
      have hnb : ∀ b, Bk (.slice adb base.length cb) b → False := by
        intro b hb'; rw [hu0] at hb'; cases ad0 <;> simp [Bk, blkOf] at hb'
      have hgr : Grown w w1 := ⟨h1, h2, h3, h4, fun b hlt => h5 b hlt fun hb' => hnb b hb'⟩
      have hgb : ∀ b, Bk g b → w.heap.size ≤ b := fun b hb' => (h6 b hb').resolve_left fun hb'' => hnb b hb''
      have hc := Chg.new (x := .arr te.kd (base ++ news)) h.mem hq hgr hgb
      have hrel := h.new (x := .arr te.kd (base ++ news)) hq hgr hgb (show ArrOk _ _ _ _ (setG G (d, 4000) g (d, 4000)) by rw [setG_same]; exact h8 _ _ hc)
      refine Sound1.made hd (e' := e.up (.rt (d, 4000) (some (.arr te.kd (base ++ news))))) rfl (hr _ _ hrun) hrel ?_
      refine show RowRel (setR e.rt (d, 4000) _) (d, 4000) _ _ from RowRel.of_row (.inl ⟨rfl, by rw [look_setR, if_pos rfl]⟩) ?_ h7
      rw [setG_same]
    · subst hfin
      have hb2 : ∀ b, Bk (.slice adb base.length cb) b → Bk (G r) b := by
        intro b hb'
        exact hblk b hb'
      have hne : (d, 4000) ≠ r := fun e0 => by rw [e0, hlr] at hq; cases hq
      have hrep := h.replace (q := (d, 4000)) (x := .arr te.kd (base ++ news)) (g := g) hlr hq h1 h2 h3 h4 (fun b hlt hb' => h5 b hlt fun hb'' => hb' (hb2 b hb'')) (fun b hb' => (h6 b hb').imp (hb2 b) id)
      have hc : Chg Z e.rt G w (setR (setR e.rt r none) (d, 4000) (some (.arr te.kd (base ++ news)))) (setG G (d, 4000) g) w1 :=
        Chg.replace hlr hq h1 h2 h3 h4 (fun b hlt hb' => h5 b hlt fun hb'' => hb' (hb2 b hb'')) (fun b hb' => (h6 b hb').imp (hb2 b) id)
      have hrel := hrep (show ArrOk _ _ _ _ (setG G (d, 4000) g (d, 4000)) by rw [setG_same]; exact h8 _ _ hc)
      refine Sound1.made hd (e' := { e with rt := setR (setR e.rt r none) (d, 4000) (some (.arr te.kd (base ++ news))) }) rfl (hr _ _ hrun) hrel ?_
      refine show RowRel (setR (setR e.rt r none) (d, 4000) _) (d, 4000) _ _ from RowRel.of_row (.inl ⟨rfl, by rw [look_setR, if_pos rfl]⟩) ?_ h7
      rw [setG_same]
  by_cases hroom : base.length + news.length ≤ cb
  · by_cases hm : news = []
    · subst hm
      have hrun := append_zero (P := P) (w := w) (ty := o.type) ht hsize (ad := adb) (cap := cb) hcb (x := .slice adn 0 cn) rfl
      refine fin1 w _ hrun rfl rfl rfl (Nat.le_refl _) (fun _ _ _ => rfl) (fun b hb' => .inl hb') rfl fun rt' G' hc => ?_
      rw [List.append_nil]
      rcases hold with ⟨hb0, ⟨ad0, hu0⟩, _⟩ | ⟨r, d0, xs0, hlr, hok', hblk, _⟩
      · exact .inl ⟨hb0, ad0, hu0⟩
      · exact ArrOk.blk hok' (hc.stab h.mem) fun _ _ => rfl
    · have hnl : 0 < news.length := List.length_pos_iff.2 hm
      rcases hold with ⟨hb0, ⟨ad0, hu0⟩, _⟩ | ⟨r, d0, xs0, hlr, hok', hblk, hfin⟩
      · simp only [Value.slice.injEq] at hu0
        omega
      · rcases hok' with ⟨hb0, ad0, hu0⟩ | ⟨b, off, cap, cells, t', hu, h2, h3, h4, h5, h6⟩
        · simp only [Value.slice.injEq] at hu0
          omega
        · simp only [Value.slice.injEq, true_and] at hu
          obtain ⟨rfl, rfl⟩ := hu
          have hmul : (base.length + news.length) * te.kd.size ≤ cb * te.kd.size := Nat.mul_le_mul_right _ hroom
          rw [Nat.add_mul] at hmul
          have hnvl := hrown.1
          have hfit : off + base.length * te.kd.size + nv.length ≤ cells.size := by omega
          have hrun := append_room (P := P) (w := w) (ty := o.type) ht hsize h4 (cap := cb) rfl (hfn w rfl) (hrown.one hkd) hroom hfit
          have hfit' : off + base.length * te.kd.size + nv.length ≤ cells.toList.length := by simpa using hfit
          refine fin1 _ _ hrun rfl rfl rfl (by simp [World.setRow]) (fun b' _ hb' => setRow_other w b b' _ fun e0 => hb' (by rw [e0]; simp [Bk, blkOf]; omega)) (fun b' hb' => .inl (by simpa [Bk, blkOf] using hb')) rfl fun rt' G' hc => ?_
          refine .inr ⟨b, off, cb, _, t', by rw [hlen], by rw [hlen]; exact hroom, h3, setRow_heap w b cells _ t' _ h4, by rw [List.size_toArray, splice_length hfit']; simpa using h5, ?_⟩
          intro j y hj
          have get : ∀ q : Nat, (splice cells.toList (off + base.length * te.kd.size) nv).toArray[q]? = (splice cells.toList (off + base.length * te.kd.size) nv)[q]? := fun q => by simp
          by_cases hjl : j < base.length
          · rw [List.getElem?_append_left hjl] at hj
            obtain ⟨cs, h7, h8⟩ := h6 j y hj
            have hcl := Rd.length h7
            refine ⟨cs, Rd.mono (hc.stab h.mem) h7, fun k v hk => ?_⟩
            have hkl : k < te.kd.size := by rw [← hcl]; exact (List.getElem?_eq_some_iff.1 hk).1
            have : (j + 1) * te.kd.size ≤ base.length * te.kd.size := Nat.mul_le_mul_right _ hjl
            rw [Nat.succ_mul] at this
            rw [get, splice_get hfit', if_pos (by omega)]
            simpa using h8 k v hk
          · rw [List.getElem?_append_right (by omega)] at hj
            obtain ⟨cs, h7, h8⟩ := hrown.2 _ y hj
            have hcl := Rd.length h7
            refine ⟨cs, Rd.mono (hc.stab h.mem) h7, fun k v hk => ?_⟩
            have h9 := h8 k v hk
            have hlt := (List.getElem?_eq_some_iff.1 h9).1
            have hmj : j * te.kd.size = base.length * te.kd.size + (j - base.length) * te.kd.size := by rw [← Nat.add_mul]; congr 1; omega
            rw [get, splice_get hfit', if_neg (by omega), if_pos (by omega), show off + j * te.kd.size + k - (off + base.length * te.kd.size) = (j - base.length) * te.kd.size + k by omega]
            exact h9
  · have hrun := append_grow (P := P) (w := w) (ty := o.type) ht hi hz (ad := adb) (n := base.length) (cap := cb) (os := ov) (by rw [hs1, ← hks]; exact hfb w.drew rfl) (x := .slice adn news.length cn) rfl (by rw [hs1, ← hks]; exact hfn w.drew rfl) (by omega) hlim (by omega)
    have hgr : Grown w (w.drew.alloc (.cells ((ov ++ nv).toArray ++ Builtin.zeroCells z.cells (grownCap w (base.length + news.length) cb ti.elem - (base.length + news.length))) ti.elem)) :=
      ⟨rfl, rfl, rfl, by simp, fun b hb' => heap_alloc_old w.drew _ b hb'⟩
    refine fin1 _ _ hrun hgr.os hgr.tape hgr.output hgr.size (fun b hlt _ => hgr.block b hlt) (fun b hb' => .inr ?_) rfl fun rt' G' hc => ?_
    · simp [Bk, blkOf] at hb'
      omega
    · rw [← hlen] at hc ⊢
      have hge := grownCap_ge w (base ++ news).length cb ti.elem
      have hrow := hrowb.append hrown
      have hzl : z.cells.size = te.kd.size := by
        have := hzc.length
        rw [zatoms_length] at this
        simpa using this.symm
      refine arr_new (nv := ov ++ nv) (heap_alloc_new w.drew _) (hrow.mono fun _ _ => Rd.mono (hc.stab h.mem)) (fun q v hq => ?_) hge ?_ (by
        have := grownCap_le_maxLen w (base ++ news).length cb ti.elem (by rw [hlen]; unfold maxLen; unfold LIM at hlim; omega)
        unfold maxLen at this
        exact this)
      · rw [Array.getElem?_append_left (by simpa using (List.getElem?_eq_some_iff.1 hq).1)]
        simpa using hq
      · rw [Array.size_append, List.size_toArray, hrow.1, size_zeroCells, hzl, ← Nat.add_mul]
        exact Nat.mul_le_mul_right _ (by omega)

theorem sound_append (h : Rel Z e a w G) (hT : TTok P tt) {o : Oper} {args : Array Operand} {ats : Array TypeId} (ho : o.op = .call { callee := .builtin .append, args, argTypes := ats }) (hp : (opPg tt sig o).run C e s = some (us, s'))
    (hk : ∀ d t sv xv su xu s1, o.dst = some d → VRel Z e G w sv su → VRel Z e G w xv xu → (rrAppend tt d t sv xv).run C e s1 = some (us, s') →
      (∀ v w1, (Builtin.append_ #[t, t] o.type #[su, xu]).run P w = .ok v w1 → (execOp a.eval o).run P w = .ok (.value v) w1) → Sound1 P o us Z e a w) : Sound1 P o us Z e a w := by
  simp only [opPg, ho, builtinPg] at hp
  split at hp
  case h_2 => exact run_fail hp
  rename_i d x y t t' hd hargs hats
  obtain rfl : args = #[x, y] := by simpa using congrArg List.toArray hargs
  obtain rfl : ats = #[t, t'] := by simpa using congrArg List.toArray hats
  obtain ⟨htt, hp1⟩ := run_bif_fail hp
  obtain rfl : t = t' := Nat.eq_of_beq_eq_true htt
  obtain ⟨sv, s1, hsv, hp2⟩ := run_opv h hp1
  obtain ⟨xv, s2, hxv, hp3⟩ := run_opv h hp2
  clear hp hp1 hp2
  have hr0 : ∀ v w1, (Builtin.append_ #[t, t] o.type #[a.eval x, a.eval y]).run P w = .ok v w1 → (execOp a.eval o).run P w = .ok (.value v) w1 := by
    intro v w1 hrun
    rw [call_builtin ho]
    simp [builtin, hrun]
  rcases run_bif hp3 with ⟨_, hp3⟩ | ⟨_, hp3⟩
  · exact hk d t sv xv _ _ _ hd hsv hxv hp3 hr0
  unfold appendOp at hp3
  split at hp3
  case h_2 => exact run_fail hp3
  rename_i ti hti
  split at hp3
  case h_2 => exact run_fail hp3
  rename_i te hte
  obtain ⟨hck, hp4⟩ := run_bif_fail hp3
  clear hp3
  simp only [Bool.and_eq_true] at hck
  obtain ⟨hok, hsl, hpos, hby⟩ := hck
  have hpos' := blt_true hpos
  have hby' := Nat.le_of_ble_eq_true hby
  have hkd : 0 < te.kd.size := by
    obtain ⟨i, z, dd, hi, _, hs1, hb1, _, hz, _, _, hokz⟩ := (hT _ _ hte).info
    rw [(hokz hok).1]; exact hpos'
  have hlist := run_listOf (P := P) h hkd hxv hp4
  clear hp4
  obtain ⟨news, s3, hn, hp5⟩ := hlist
  have hr : ∀ v w1, (Builtin.append_ #[t, t] o.type #[a.eval x, a.eval y]).run P w = .ok v w1 → (execOp a.eval o).run P w = .ok (.value v) w1 := by
    intro v w1 hrun
    rw [call_builtin ho]
    simp [builtin, hrun]
  have key : ∀ (base : List te.kd.den) (fin : List Up) (s4 : Seen), Elems P w (Stab Z e.rt G w) te.kd base (a.eval x) →
      ((base = [] ∧ (∃ ad, a.eval x = .slice ad 0 0) ∧ fin = []) ∨ (∃ r d0, ∃ xs0 : List d0.den, look e.rt r = some (some (.arr d0 xs0)) ∧ ArrOk w (Stab Z e.rt G w) te.kd base (a.eval x) ∧ (∀ b, Bk (a.eval x) b → Bk (G r) b) ∧ fin = [.rt r none])) →
      (Pg.chk (decide (base.length + news.length ≤ LIM)) (newRow d 4000 (.arr te.kd (base ++ news)) (.whole (d, 4000)) fin)).run C e s4 = some (us, s') → Sound1 P o us Z e a w := by
    intro base fin s4 hb hold hp6
    obtain ⟨hlim, hp7⟩ := run_chk hp6
    obtain ⟨hq, rfl⟩ := run_newRow hp7
    exact sound_append_base (ty := t) h hT hti hte hsl hok hpos' hby' hd hr hn hb (of_decide_eq_true hlim) hq fin hold
  split at hp5
  · have hx : a.eval x = .slice none 0 0 := hsv
    refine key [] [] s3 (by rw [hx]; exact Elems.of_empty) (.inl ⟨rfl, ⟨none, hx⟩, rfl⟩) ?_
    simpa using hp5
  · rename_i d'
    obtain ⟨hs, ht⟩ := hsv
    obtain ⟨ad, n, hx⟩ := ht rfl
    have hn0 : n = 0 := by
      rcases hs with ⟨_, a', c, h3, _⟩ | ⟨b, off, c, cells, t', fr, h3, _⟩ <;> rw [hx] at h3 <;> simp at h3 <;> omega
    subst hn0
    refine key [] [] s3 (by rw [hx]; exact Elems.of_empty) (.inl ⟨rfl, ⟨ad, hx⟩, rfl⟩) ?_
    simpa using hp5
  · rename_i r
    obtain ⟨d', xs, own, s4, hl, hp6⟩ := run_rowOf hp5
    obtain ⟨how, hp7⟩ := run_bif_fail hp6
    split at hp7
    case h_2 => exact run_fail hp7
    rename_i base hbase
    obtain ⟨hab, hy⟩ := castL_eq hbase
    have hx : a.eval x = G r := RowRel.row (show RowRel e.rt r _ _ from hsv) hl
    have hl' : look e.rt r = some (some (.arr d' xs)) := by
      rcases hl with ⟨_, hl⟩ | ⟨h1, _⟩
      · exact hl
      · rw [h1] at how; cases how
    have hm : ArrOk w (Stab Z e.rt G w) d' xs (G r) := h.mem.roots r _ hl'
    subst hab; subst hy
    rw [← hx] at hm
    exact key xs _ s4 (hm.elems hkd) (.inr ⟨r, _, xs, hl', hm, fun b hb => by rw [← hx]; exact hb, rfl⟩) hp7
  · rename_i r o' n
    obtain ⟨d', xs, own, s4, hl, hp6⟩ := run_rowOf hp5
    obtain ⟨how, hp7⟩ := run_bif_fail hp6
    split at hp7
    case h_2 => exact run_fail hp7
    rename_i base hbase
    obtain ⟨hab, hy⟩ := castL_eq hbase
    have hl' : look e.rt r = some (some (.arr d' xs)) := by
      rcases hl with ⟨_, hl⟩ | ⟨h1, _⟩
      · exact hl
      · rw [h1] at how; cases how
    have hm : ArrOk w (Stab Z e.rt G w) d' xs (G r) := h.mem.roots r _ hl'
    subst hab; subst hy
    obtain ⟨hle, hsub⟩ := RowRel.row (show RowRel e.rt r _ _ from hsv) hl
    obtain ⟨hm2, hbk⟩ := hm.sub hsub hle
    exact key _ _ s4 (hm2.elems hkd) (.inr ⟨r, _, xs, hl', hm2, hbk, rfl⟩) hp7
  · exact run_fail hp5

/-! ### Copy -/

theorem setR_same : ∀ {rt : Roots} {r : Rid} {x : Option Root}, look rt r = some x → setR rt r x = rt
  | [], _, _, h => by simp [look] at h
  | (q, y) :: l, r, x, h => by
    cases hb : Rid.beq r q with
    | true => simp [look, hb] at h; simp [setR, hb, h]
    | false => simp [look, hb] at h; simp [setR, hb, setR_same h]
theorem copy_run {t u ty t2 : TypeId} (ht : P.underlying t = some (.slice u)) {size : Nat} (hn : ∀ w, (sizeOf u).run P w = .ok size w) {dp : Option Addr} {n cap : Nat} {sa : Option Addr} {m c : Nat} {nv : List Value}
    (hf : (Builtin.firstCells size (min m n) (.slice sa m c)).run P w = .ok nv.toArray w) (hs : ∀ a', dp = some a' → (storeCells a' nv).run P w = .ok () w') (h0 : dp = none → w' = w) :
    (Builtin.copy_ #[t, t2] ty #[.slice dp n cap, .slice sa m c]).run P w = .ok (.int .i64 ((min m n : Nat) : Int)) w' := by
  have hf' : (Builtin.firstCells size (Nat.min m n) (.slice sa m c)).run P w = .ok nv.toArray w := hf
  cases dp with
  | none =>
    obtain rfl := h0 rfl
    simp only [Builtin.copy_, underlying, Sem.run_bind, run_program, Result.andThen_ok, ht, Sem.run_pure, hn, Builtin.lenOf, List.getElem?_toArray, List.getElem?_cons_zero, List.getElem?_cons_succ]
    simp [ht, Builtin.lenOf, hn, hf']
    rfl
  | some ad =>
    have hs' := hs ad rfl
    simp only [Builtin.copy_, underlying, Sem.run_bind, run_program, Result.andThen_ok, ht, Sem.run_pure, hn, Builtin.lenOf, List.getElem?_toArray, List.getElem?_cons_zero, List.getElem?_cons_succ]
    simp [ht, Builtin.lenOf, hn, hf', hs']
    rfl
theorem sound_copy_base (h : Rel Z e a w G) {o : Oper} {t t2 : Nat} {ti te : TI} (hT : TTok P tt) (hti : tt.get t = some ti) (hte : tt.get ti.elem = some te) (hsl : ti.sl = true) (hok : te.ok = true) (hpos : 0 < te.size)
    {us uv : Value} (hr : ∀ v w1, (Builtin.copy_ #[t, t2] o.type #[us, uv]).run P w = .ok v w1 → (execOp a.eval o).run P w = .ok (.value v) w1)
    {r : Rid} {l ys : List te.kd.den} (hl : look e.rt r = some (some (.arr te.kd l))) {p n : Nat} (hn : p + n ≤ l.length) (hs : Sub (G r) te.kd.size p n us) (hy : Elems P w (Stab Z e.rt G w) te.kd ys uv) :
    Sound1 P o (.rt r (some (.arr te.kd (l.take p ++ (ys.take n ++ l.drop (p + min ys.length n))))) :: upD o.dst (.one (.int .i64 ((min ys.length n : Nat) : Int)))) Z e a w := by
  obtain ⟨i, z, dd, hi, _, hs1, hb1, _, hz, _, _, hokz⟩ := (hT _ _ hte).info
  obtain ⟨hks, hzc⟩ := hokz hok
  have hkd : 0 < te.kd.size := by omega
  have ht := (hT _ _ hti).slice hsl
  have hsize : ∀ w, (sizeOf ti.elem).run P w = .ok te.kd.size w := fun w => by rw [hks]; exact (hT _ _ hte).runSize w
  obtain ⟨ad, c, nv0, hu, _⟩ := hy.ex
  obtain ⟨nv, hf, hrow⟩ := hy.pre (min ys.length n) (by omega)
  subst hu
  obtain ⟨a', m, cap, a'', cap', hg, rfl, h2, h3, h4⟩ := hs
  have hrl := hrow.1
  rw [List.length_take] at hrl
  have fin : ∀ (w1 : World), Rel Z (e.up (.rt r (some (.arr te.kd (l.take p ++ (ys.take n ++ l.drop (p + min ys.length n))))))) a w1 G → (∀ a', a'' = some a' → (storeCells a' nv).run P w = .ok () w1) → (a'' = none → w1 = w) →
      Sound1 P o (.rt r (some (.arr te.kd (l.take p ++ (ys.take n ++ l.drop (p + min ys.length n))))) :: upD o.dst (.one (.int .i64 ((min ys.length n : Nat) : Int)))) Z e a w := by
    intro w1 hrel hst h0
    have hrun := copy_run (P := P) (w := w) (w' := w1) (ty := o.type) (t2 := t2) ht hsize (dp := a'') (cap := cap') hf hst h0
    intro Q
    unfold Oper.wp
    rw [hr _ _ hrun, Oper.upon_value]
    exact ⟨G, hrel.putD (rel_int _ _)⟩
  have hyk : ys.take n = ys.take (min ys.length n) := by
    by_cases hc : n ≤ ys.length
    · rw [Nat.min_eq_right hc]
    · rw [Nat.min_eq_left (by omega), List.take_of_length_le (by omega), List.take_of_length_le (Nat.le_refl _)]
  have hkl : (ys.take n).length = min ys.length n := by simp; omega
  generalize hk : min ys.length n = k at *
  by_cases hk0 : k = 0
  · subst hk0
    have hnv : nv = [] := by
      apply List.eq_nil_of_length_eq_zero
      rw [hrl]; simp
    subst hnv
    have hl' : l.take p ++ (ys.take n ++ l.drop (p + 0)) = l := by
      rw [List.eq_nil_of_length_eq_zero hkl, List.nil_append, Nat.add_zero, List.take_append_drop]
    refine fin w ?_ (fun a' _ => by simp [storeCells]) fun _ => rfl
    rw [hl']
    show Rel Z { e with rt := setR e.rt r _ } a w G
    rw [setR_same hl]
    exact h
  · have hrow' : Row te.kd.size (Rd w (Stab Z e.rt G w) te.kd) (ys.take n) nv := by rw [hyk]; exact hrow
    rcases h4 with ⟨ad', rfl, rfl, h5⟩ | ⟨h5, _⟩
    case inr => omega
    have h0 : ArrOk w (Stab Z e.rt G w) te.kd l (G r) := h.mem.roots r _ hl
    rcases h0 with ⟨h6, _⟩ | ⟨b, off, cp, cells, t', h6, h7, h8, h9, h10, h11⟩
    · subst h6; simp at hn; omega
    rw [hg] at h6
    simp only [Value.slice.injEq, Option.some.injEq] at h6
    obtain ⟨rfl, rfl, rfl⟩ := h6
    rw [addr_add] at fin
    have hmul : (p + n) * te.kd.size ≤ cap * te.kd.size := Nat.mul_le_mul_right _ (by omega)
    rw [Nat.add_mul] at hmul
    have hnk : k ≤ n := by omega
    have hmul2 : k * te.kd.size ≤ n * te.kd.size := Nat.mul_le_mul_right _ hnk
    have hnvl : nv.length = k * te.kd.size := by rw [hrow'.1, hkl]
    have hcl0 : cells.toList.length = cells.size := by simp
    have hfit : off + p * te.kd.size + nv.length ≤ cells.toList.length := by omega
    have hst := run_storeCells_at P b (off + p * te.kd.size) t' nv 0 cells w h9 (by omega) (hrow'.one hkd)
    simp only [Nat.add_zero] at hst
    have hlen : (l.take p ++ (ys.take n ++ l.drop (p + k))).length = l.length := by
      simp only [List.length_append, hkl, List.length_take, List.length_drop]
      omega
    have hbk : Bk (G r) b := by rw [hg]; simp [Bk, blkOf]; omega
    refine fin (w.setRow b (splice cells.toList (off + p * te.kd.size) nv).toArray) ?_ (fun a' ha => by cases ha; exact hst) (fun h => by cases h)
    refine h.write hl (.arr (Nat.le_of_eq hlen.symm)) rfl hbk rfl (.inr ⟨b, off, cap, _, t', ?_, ?_, h8, setRow_heap w b cells _ t' _ h9, ?_, ?_⟩)
    · rw [hg, hlen]
    · rw [hlen]; exact h7
    · rw [List.size_toArray, splice_length hfit]; simpa using h10
    · have how : Owns e.rt G b := ⟨r, _, hl, rfl, hbk⟩
      have mono : ∀ {kk : Kd} {q : kk.den} {cs : List Value}, Rd w (Stab Z e.rt G w) kk q cs → Rd (w.setRow b (splice cells.toList (off + p * te.kd.size) nv).toArray) (Stab Z (setR e.rt r (some (.arr te.kd (l.take p ++ (ys.take n ++ l.drop (p + k)))))) G (w.setRow b (splice cells.toList (off + p * te.kd.size) nv).toArray)) kk q cs := by
        intro kk q cs
        refine Rd.mono fun b' hb'' => ⟨⟨?_, fun ho => hb''.2 ?_⟩, setRow_other w b b' _ fun e0 => hb''.2 (e0 ▸ how)⟩
        · have : (w.setRow b (splice cells.toList (off + p * te.kd.size) nv).toArray).heap.size = w.heap.size := by simp [World.setRow]
          rw [this]; exact hb''.1
        · obtain ⟨q', z', g1, g2, g3⟩ := ho
          by_cases hq : q' = r
          · subst hq; exact ⟨q', _, hl, rfl, g3⟩
          · rw [look_setR, if_neg hq] at g1; exact ⟨q', z', g1, g2, g3⟩
      have get : ∀ q : Nat, (splice cells.toList (off + p * te.kd.size) nv).toArray[q]? = (splice cells.toList (off + p * te.kd.size) nv)[q]? := fun q => by simp
      have old : ∀ j q, l[j]? = some q → (j < p ∨ p + k ≤ j) → ∃ cs, Rd (w.setRow b (splice cells.toList (off + p * te.kd.size) nv).toArray) (Stab Z (setR e.rt r (some (.arr te.kd (l.take p ++ (ys.take n ++ l.drop (p + k)))))) G (w.setRow b (splice cells.toList (off + p * te.kd.size) nv).toArray)) te.kd q cs ∧ ∀ m v, cs[m]? = some v → (splice cells.toList (off + p * te.kd.size) nv).toArray[off + j * te.kd.size + m]? = some v := by
        intro j q hj hjk
        obtain ⟨cs, h12, h13⟩ := h11 j q hj
        have hcl := Rd.length h12
        refine ⟨cs, mono h12, fun m v hm => ?_⟩
        have hml : m < te.kd.size := by rw [← hcl]; exact (List.getElem?_eq_some_iff.1 hm).1
        rw [get, splice_get hfit]
        rcases hjk with hlt | hge
        · have : (j + 1) * te.kd.size ≤ p * te.kd.size := Nat.mul_le_mul_right _ hlt
          rw [Nat.succ_mul] at this
          rw [if_pos (by omega)]
          simpa using h13 m v hm
        · have : (p + k) * te.kd.size ≤ j * te.kd.size := Nat.mul_le_mul_right _ hge
          rw [Nat.add_mul] at this
          rw [if_neg (by omega), if_neg (by omega)]
          simpa using h13 m v hm
      intro j q hj
      by_cases hj1 : j < p
      · rw [List.getElem?_append_left (by simp; omega), List.getElem?_take, if_pos hj1] at hj
        exact old j q hj (.inl hj1)
      · rw [List.getElem?_append_right (by simp; omega)] at hj
        have hpl : (l.take p).length = p := by simp; omega
        rw [hpl] at hj
        by_cases hj2 : j - p < k
        · rw [List.getElem?_append_left (by omega)] at hj
          obtain ⟨cs, h12, h13⟩ := hrow'.2 _ q hj
          have hcl := Rd.length h12
          refine ⟨cs, mono h12, fun m v hm => ?_⟩
          have h14 := h13 m v hm
          have hlt := (List.getElem?_eq_some_iff.1 h14).1
          have hmj : j * te.kd.size = p * te.kd.size + (j - p) * te.kd.size := by rw [← Nat.add_mul]; congr 1; omega
          rw [get, splice_get hfit, if_neg (by omega), if_pos (by omega), show off + j * te.kd.size + m - (off + p * te.kd.size) = (j - p) * te.kd.size + m by omega]
          exact h14
        · rw [List.getElem?_append_right (by omega), hkl, List.getElem?_drop, show p + k + (j - p - k) = j by omega] at hj
          exact old j q hj (.inr (by omega))
theorem sound_copy (h : Rel Z e a w G) (hT : TTok P tt) {o : Oper} {args : Array Operand} {ats : Array TypeId} (ho : o.op = .call { callee := .builtin .copy, args, argTypes := ats }) (hp : (opPg tt sig o).run C e s = some (us, s')) : Sound1 P o us Z e a w := by
  simp only [opPg, ho, builtinPg] at hp
  split at hp
  case h_2 => exact run_fail hp
  rename_i x y t t' hargs hats
  obtain rfl : args = #[x, y] := by simpa using congrArg List.toArray hargs
  obtain rfl : ats = #[t, t'] := by simpa using congrArg List.toArray hats
  obtain ⟨sv, s1, hsv, hp2⟩ := run_opv h hp
  obtain ⟨xv, s2, hxv, hp3⟩ := run_opv h hp2
  clear hp hp2
  unfold copyOp at hp3
  split at hp3
  case h_2 => exact run_fail hp3
  rename_i ti hti
  split at hp3
  case h_2 => exact run_fail hp3
  rename_i te hte
  obtain ⟨hck, hp4⟩ := run_bif_fail hp3
  clear hp3
  simp only [Bool.and_eq_true] at hck
  obtain ⟨hok, hsl, hpos⟩ := hck
  have hpos' := blt_true hpos
  have hkd : 0 < te.kd.size := by
    obtain ⟨i, z, dd, hi, _, hs1, hb1, _, hz, _, _, hokz⟩ := (hT _ _ hte).info
    rw [(hokz hok).1]; exact hpos'
  have hlist := run_listOf (P := P) h hkd hxv hp4
  clear hp4
  obtain ⟨ys, s3, hy, hp5⟩ := hlist
  have hr : ∀ v w1, (Builtin.copy_ #[t, t'] o.type #[a.eval x, a.eval y]).run P w = .ok v w1 → (execOp a.eval o).run P w = .ok (.value v) w1 := by
    intro v w1 hrun
    rw [call_builtin ho]
    simp [builtin, hrun]
  split at hp5
  · rename_i r
    simp only [Pg.run] at hp5
    split at hp5
    case h_2 => exact run_fail hp5
    rename_i d' xs hl
    split at hp5
    case h_2 => exact run_fail hp5
    rename_i l hcast
    obtain ⟨hab, hy'⟩ := castL_eq hcast
    subst hab; subst hy'
    obtain rfl : us = _ := run_ret hp5
    have hx : a.eval x = G r := RowRel.row (show RowRel e.rt r _ _ from hsv) (.inl ⟨rfl, hl⟩)
    refine sound_copy_base h hT hti hte hsl hok hpos' hr hl (p := 0) (n := xs.length) (by omega) ?_ hy
    have h0 : ArrOk w (Stab Z e.rt G w) te.kd xs (G r) := h.mem.roots r _ hl
    rw [hx]
    rcases h0 with ⟨h6, ad, h7⟩ | ⟨b, off, cp, cells, t', h6, h7, h8, h9, h10, h11⟩
    · subst h6
      exact ⟨ad, 0, 0, ad, 0, h7, h7, Nat.le_refl _, Nat.le_refl _, .inr ⟨rfl, rfl⟩⟩
    · exact ⟨_, _, cp, _, cp, h6, h6, h7, by omega, .inl ⟨_, rfl, by simp [addr_add], by omega⟩⟩
  · rename_i r p n
    simp only [Pg.run] at hp5
    split at hp5
    case h_2 => exact run_fail hp5
    rename_i d' xs hl
    split at hp5
    case h_2 => exact run_fail hp5
    rename_i l hcast
    obtain ⟨hab, hy'⟩ := castL_eq hcast
    subst hab; subst hy'
    obtain rfl : us = _ := run_ret hp5
    obtain ⟨hle, hsub⟩ := RowRel.row (show RowRel e.rt r _ _ from hsv) (.inl ⟨rfl, hl⟩)
    exact sound_copy_base h hT hti hte hsl hok hpos' hr hl hle hsub hy
  · exact run_fail hp5
end
end Go.Am
set_option linter.unusedVariables false
set_option linter.unusedSimpArgs false
namespace Go.Am
open Go

section
variable {P : Program} {tt : TT} {sig : Sig} {C : Nat → Pk → Option Pk} {Z : Base} {e : Env} {a : Act} {w w' : World} {G : Gh} {s s' : Seen} {us : List Up}

theorem All2.split {α β : Type} {R : α → β → Prop} : ∀ {l l' : List α} {m : List β}, All2 R (l ++ l') m → ∃ m₁ m₂, m = m₁ ++ m₂ ∧ All2 R l m₁ ∧ All2 R l' m₂
  | [], _, m, h => ⟨[], m, rfl, trivial, h⟩
  | _ :: l, l', [], h => h.elim
  | _ :: l, l', b :: m, h => by
    obtain ⟨m₁, m₂, h1, h2, h3⟩ := All2.split h.2
    exact ⟨b :: m₁, m₂, by rw [h1]; rfl, ⟨h.1, h2⟩, h3⟩
theorem Rd.dflt {S : Nat → Prop} : ∀ {k : Kd} {cs : List Value}, All2 (fun a b => zrel a b = true) (zatoms k) cs → Rd w S k k.dflt cs
  | .int k, [v], h => by have : v = .int k 0 := zrel_rel (A := w) (S := S) (rt := []) (G := fun _ => .nilIface) h.1; rw [this]; rfl
  | .bool, [v], h => by have : v = .bool false := zrel_rel (A := w) (S := S) (rt := []) (G := fun _ => .nilIface) h.1; rw [this]; rfl
  | .str, [v], h => by have : v = .string ByteArray.empty := zrel_rel (A := w) (S := S) (rt := []) (G := fun _ => .nilIface) h.1; rw [this]; rfl
  | .sl e, [v], h => by
    have : v = .slice none 0 0 := zrel_rel (A := w) (S := S) (rt := []) (G := fun _ => .nilIface) h.1
    rw [this]; exact ⟨_, rfl, .inl ⟨rfl, none, 0, rfl, fun _ => rfl⟩⟩
  | .pr a b, cs, h => by
    obtain ⟨m₁, m₂, rfl, h1, h2⟩ := All2.split h
    exact ⟨m₁, m₂, rfl, Rd.dflt h1, Rd.dflt h2⟩
  | .int _, [], h => h.elim
  | .bool, [], h => h.elim
  | .str, [], h => h.elim
  | .sl _, [], h => h.elim
  | .int _, _ :: _ :: _, h => h.2.elim
  | .bool, _ :: _ :: _, h => h.2.elim
  | .str, _ :: _ :: _, h => h.2.elim
  | .sl _, _ :: _ :: _, h => h.2.elim
def zvals : Kd → List Value
  | .int k => [.int k 0]
  | .bool => [.bool false]
  | .str => [.string ByteArray.empty]
  | .sl _ => [.slice none 0 0]
  | .pr a b => zvals a ++ zvals b
theorem zvals_z : ∀ k : Kd, All2 (fun a b => zrel a b = true) (zatoms k) (zvals k)
  | .int _ => by simp [zatoms, zvals, All2, zrel]
  | .bool => by simp [zatoms, zvals, All2, zrel]
  | .str => by simp [zatoms, zvals, All2, zrel]
  | .sl _ => by simp [zatoms, zvals, All2, zrel]
  | .pr a b => (zvals_z a).append (zvals_z b)
theorem ofCells_rel {S : Nat → Prop} {rt : Roots} {d : Kd} {as : List Atom} {vs : List Value} {x : d.den} (h : All2 (AtomRel w S rt G) as vs) (ho : ofCells d as = some x) : Rd w S d x vs := by
  unfold ofCells at ho
  cases hb : Nat.beq as.length d.size with
  | false => rw [hb] at ho; cases ho
  | true =>
    rw [hb] at ho
    simp only [cond_true] at ho
    have hl := Nat.eq_of_beq_eq_true hb
    have h1 := setCells_rel (w := w) (S := S) (G := G) (Rd.dflt (zvals_z d)) ho h (by omega)
    have hz : (zvals d).length = d.size := by rw [← (zvals_z d).length, zatoms_length]
    have : splice (zvals d) 0 vs = vs := by
      unfold splice
      have := h.length
      rw [List.take_zero, List.nil_append, List.drop_eq_nil_of_le (by omega), List.append_nil]
    rw [this] at h1
    exact h1

theorem sound_makeSlice (h : Rel Z e a w G) (hT : TTok P tt) {o : Oper} {t : Nat} {n c : Operand} (ho : o.op = .makeSlice t n c) (hp : (opPg tt sig o).run C e s = some (us, s'))
    (hk : ∀ d ti te k s1, o.dst = some d → tt.get t = some ti → tt.get ti.elem = some te → te.kd = .sl k → (bif te.ok && (ti.sl && (Nat.beq te.size 1 && Nat.ble te.bytes 128)) then opv n fun n => opv c fun c => intV n fun _ n => intV c fun _ c => .chk (decide (0 ≤ n)) (.chk (decide (n ≤ c)) (.chk (decide (c ≤ LIM)) (newRow d 4000 (.map (.rr k (List.replicate n.toNat []) none)) (.mp (d, 4000)) []))) else .fail).run C e s1 = some (us, s') → Sound1 P o us Z e a w) : Sound1 P o us Z e a w := by
  simp only [opPg, ho] at hp
  split at hp
  case h_2 => exact run_fail hp
  rename_i d ti hd hti
  split at hp
  case h_2 => exact run_fail hp
  rename_i te hte
  rcases run_bif hp with ⟨_, hp⟩ | ⟨_, hp⟩
  · split at hp
    · rename_i k hkd
      exact hk d ti te k _ hd hti hte hkd hp
    · exact run_fail hp
  obtain ⟨hck, hp1⟩ := run_bif_fail hp
  simp only [Bool.and_eq_true] at hck
  obtain ⟨hok, hsl, hpos, hby⟩ := hck
  obtain ⟨nv, s1, hnv, hp2⟩ := run_opv h hp1
  obtain ⟨cv, s2, hcv, hp3⟩ := run_opv h hp2
  obtain ⟨kn, l, rfl, hp4⟩ := run_intV hp3
  obtain ⟨kc, m, rfl, hp5⟩ := run_intV hp4
  obtain ⟨h0, hp6⟩ := run_chk hp5
  obtain ⟨h1, hp7⟩ := run_chk hp6
  obtain ⟨h2, hp8⟩ := run_chk hp7
  have h0' := of_decide_eq_true h0
  have h1' := of_decide_eq_true h1
  have h2' : m ≤ 1099511627776 := of_decide_eq_true h2
  obtain ⟨hq, rfl⟩ := run_newRow hp8
  obtain ⟨i, z, dd, hi, _, hs1, hb1, _, hz, _, _, hokz⟩ := (hT _ _ hte).info
  obtain ⟨hks, hzc⟩ := hokz hok
  have hby' : i.bytes ≤ 128 := by rw [hb1]; exact Nat.le_of_ble_eq_true hby
  have hzl : z.cells.size = te.kd.size := by
    have := hzc.length
    rw [zatoms_length] at this
    simpa using this.symm
  have hbytes : (i.bytes : Int) * m ≤ 281474976710656 := by
    have h3 : (i.bytes : Int) ≤ 128 := by omega
    have h4 : (i.bytes : Int) * m ≤ 128 * m := Int.mul_le_mul_of_nonneg_right h3 (by omega)
    omega
  have hrun := run_make (P := P) w t ti.elem i z ((hT _ _ hti).slice hsl) hi hz kn kc l m h0' h1' hbytes (by omega)
  have hx := atom_int hnv
  have hy := atom_int hcv
  have hgr : Grown w (w.alloc (.cells (madeCells z.cells (m.toNat * i.size)) ti.elem)) := ⟨rfl, rfl, rfl, by simp, fun b hb => heap_alloc_old w _ b hb⟩
  have hgb : ∀ b, Bk (.slice (some ⟨w.heap.size, 0, none⟩) l.toNat m.toNat) b → w.heap.size ≤ b := by
    intro b hb
    simp [Bk, blkOf] at hb
    omega
  have hsz : i.size = te.kd.size := by rw [hs1, hks]
  have hpos' : 0 < te.kd.size := by rw [hks]; exact blt_true hpos
  have hrel := h.new (x := .arr te.kd (List.replicate l.toNat te.kd.dflt)) hq hgr hgb (by
    show ArrOk _ _ _ _ (setG G (d, 4000) _ (d, 4000))
    rw [setG_same]
    have hlen : (List.replicate l.toNat te.kd.dflt).length = l.toNat := by simp
    have := arr_new (w := w.alloc (.cells (madeCells z.cells (m.toNat * i.size)) ti.elem)) (S := Stab Z (setR e.rt (d, 4000) (some (.arr te.kd (List.replicate l.toNat te.kd.dflt)))) (setG G (d, 4000) (.slice (some ⟨w.heap.size, 0, none⟩) l.toNat m.toNat)) (w.alloc (.cells (madeCells z.cells (m.toNat * i.size)) ti.elem)))
      (d := te.kd) (xs := List.replicate l.toNat te.kd.dflt) (nv := (madeCells z.cells (m.toNat * i.size)).toList.take (l.toNat * te.kd.size)) (cap := m.toNat) (heap_alloc_new w _) ?_ ?_ (by rw [hlen]; omega) (by rw [size_madeCells, hsz]; exact Nat.le_refl _) (by unfold LIM at *; omega)
    · rw [hlen] at this; exact this
    · have hmul : l.toNat * te.kd.size ≤ m.toNat * te.kd.size := Nat.mul_le_mul_right _ (by omega)
      refine ⟨by rw [hlen, List.length_take, Array.length_toList, size_madeCells, hsz]; omega, fun j y hj => ?_⟩
      have hjl := (List.getElem?_eq_some_iff.1 hj).1
      rw [hlen] at hjl
      have hy' : y = te.kd.dflt := by
        rw [List.getElem?_replicate, if_pos hjl] at hj; cases hj; rfl
      subst hy'
      refine ⟨z.cells.toList, Rd.dflt hzc, fun k v hk => ?_⟩
      have hkl : k < te.kd.size := by have := (List.getElem?_eq_some_iff.1 hk).1; rw [Array.length_toList, hzl] at this; exact this
      have hm2 : (j + 1) * te.kd.size ≤ l.toNat * te.kd.size := Nat.mul_le_mul_right _ hjl
      rw [Nat.succ_mul] at hm2
      rw [List.getElem?_take, if_pos (by omega)]
      have hmod : (j * te.kd.size + k) % te.kd.size = k := by rw [Nat.add_comm, Nat.add_mul_mod_self_right]; exact Nat.mod_eq_of_lt hkl
      have hlt : j * te.kd.size + k < m.toNat * i.size := by rw [hsz]; omega
      have hv : z.cells[k]? = some v := by simpa using hk
      have hv2 : z.cells[k]! = v := by simp [getElem!_def, hv]
      simp [madeCells, hlt, hzl, hmod, hv2]
    · intro q v hq'
      rw [List.getElem?_take] at hq'
      split at hq'
      · simpa using hq'
      · cases hq')
  refine Sound1.made hd (e' := e.up (.rt (d, 4000) (some (.arr te.kd (List.replicate l.toNat te.kd.dflt))))) rfl ?_ hrel ?_ (u := .slice (some ⟨w.heap.size, 0, none⟩) l.toNat m.toNat)
  · simp only [execOp, ho, hx, hy]
    rw [Sem.run_bind, hrun]; rfl
  · refine show RowRel (setR e.rt (d, 4000) _) (d, 4000) _ _ from RowRel.of_row (.inl ⟨rfl, by rw [look_setR, if_pos rfl]⟩) ?_ rfl
    rw [setG_same]

/-! ### Literals -/

theorem foldl_set : ∀ (l : List Value) (off k : Nat) (cs : Array Value), off + k + l.length ≤ cs.size → ((l.zipIdx k).foldl (fun (cs : Array Value) (x : Value × Nat) => cs.setIfInBounds (off + x.2) x.1) cs).toList = splice cs.toList (off + k) l
  | [], off, k, cs, _ => by simp [splice]
  | v :: l, off, k, cs, h => by
    simp only [List.zipIdx_cons, List.foldl_cons]
    rw [foldl_set l off (k + 1) _ (by simp at h ⊢; omega)]
    apply List.ext_getElem?
    intro q
    simp at h
    rw [splice_get (by simp; omega), splice_get (by simp; omega)]
    simp only [setIf_toList, List.getElem?_set, List.length_cons, Array.length_toList]
    by_cases q1 : q < off + k
    · rw [if_pos (by omega), if_pos q1, if_neg (by omega)]
    · by_cases q2 : q = off + k
      · subst q2
        simp [show off + k < cs.size by omega]
      · rw [if_neg (by omega), if_neg q1]
        by_cases q3 : q < off + (k + 1) + l.length
        · rw [if_pos q3, if_pos (by omega), show q - (off + k) = (q - (off + (k + 1))) + 1 by omega, List.getElem?_cons_succ]
        · rw [if_neg q3, if_neg (by omega), if_neg (by omega)]
theorem fill_cons {place : Nat → Option (Nat × Nat)} {cells : Array Value} {i off size : Nat} {v : Value} {rest : List (Nat × Value)} (hp : place i = some (off, size)) (hv : v.cells.size = size) (hf : off + size ≤ cells.size) :
    ∃ cells', Instr.fill place cells ((i, v) :: rest) = Instr.fill place cells' rest ∧ cells'.toList = splice cells.toList off v.cells.toList := by
  refine ⟨v.cells.zipIdx.foldl (fun cs (c, j) => cs.setIfInBounds (off + j) c) cells, ?_, ?_⟩
  · have h1 : ¬ (v.cells.size ≠ size ∨ off + v.cells.size > cells.size) := by omega
    simp only [Instr.fill, hp]
    simp only [bne_iff_ne, Bool.or_eq_true, decide_eq_true_eq, ne_eq] at *
    rw [if_neg (by simpa [hv] using hf)]
  · have := foldl_set v.cells.toList off 0 cells (by simp; omega)
    rw [← Array.foldl_toList, Array.toList_zipIdx]
    simpa using this

theorem cells_of_val {A : Atom → Value → Prop} (hd : ∀ x u, A x u → x.live = true → u.oneCell' = true) {v : AV} {u : Value} (h : AVRel A v u) (hv : isVal v = true) : All2 A (atoms v) u.cells.toList := by
  cases v with
  | one x => exact atoms_cells hd h (by simpa [atoms, isVal] using hv) (.inl (by simp [atoms]))
  | agg l => exact atoms_cells hd h hv (.inr ⟨l, rfl⟩)
  | tup l => cases hv

theorem fillA_fill {A : Atom → Value → Prop} {fl : List (Nat × Nat × Bool)} {place : Nat → Option (Nat × Nat)} (hpl : ∀ (i off n : Nat) (ag : Bool), fl[i]? = some (off, n, ag) → place i = some (off, n)) :
    ∀ {is : List Nat} {ass : List (List Atom)} {us : List Value} {l l' : List Atom} {cells : Array Value}, is.length = us.length → All2 (fun as u => All2 A as u.cells.toList) ass us → All2 A l cells.toList → fillA fl l (is.zip ass) = some l' →
      ∃ cells', Instr.fill place cells (is.zip us) = some cells' ∧ All2 A l' cells'.toList
  | [], [], [], l, l', cells, _, _, hl, hf => by simp [fillA] at hf; subst hf; exact ⟨cells, rfl, hl⟩
  | i :: is, as :: ass, u :: us, l, l', cells, hlen, hA, hl, hf => by
    simp only [List.zip_cons_cons, fillA] at hf
    split at hf
    case h_2 => cases hf
    rename_i off n ag hrow
    cases hb : (Nat.beq as.length n && Nat.ble (off + n) l.length) with
    | false => rw [hb] at hf; cases hf
    | true =>
      rw [hb] at hf
      simp only [cond_true] at hf
      simp only [Bool.and_eq_true] at hb
      have h1 := Nat.eq_of_beq_eq_true hb.1
      have h2 := Nat.le_of_ble_eq_true hb.2
      have h3 := hA.1.length
      have h4 := hl.length
      simp at h3 h4
      obtain ⟨c1, h5, h6⟩ := fill_cons (cells := cells) (v := u) (rest := is.zip us) (hpl i off n ag hrow) (by omega) (by omega)
      have h7 : All2 A (storeBox l off as) c1.toList := by
        rw [h6]
        exact storeBox_all2 hA.1 hl (by simp; omega)
      obtain ⟨c2, h8, h9⟩ := fillA_fill hpl (by simpa using hlen) hA.2 h7 hf
      exact ⟨c2, by rw [List.zip_cons_cons, h5, h8], h9⟩
  | [], [], _ :: _, _, _, _, h, _, _, _ => by simp at h
  | [], _ :: _, [], _, _, _, _, h, _, _ => h.elim
  | [], _ :: _, _ :: _, _, _, _, h, _, _, _ => by simp at h
  | _ :: _, [], [], _, _, _, h, _, _, _ => by simp at h
  | _ :: _, _ :: _, [], _, _, _, h, _, _, _ => by simp at h
  | _ :: _, [], _ :: _, _, _, _, _, h, _, _ => h.elim

theorem fields_mapM {fs : List Field} {szs : List Nat} (h : fs.length = szs.length) (hs : ∀ (i : Nat) (f : Field) (n : Nat), fs[i]? = some f → szs[i]? = some n → ∀ w, (sizeOf f.type).run P w = .ok n w) :
    (fs.mapM fun (f : Field) => (do pure (f.offset, ← sizeOf f.type) : Sem (Nat × Nat))).run P w = .ok ((fs.zip szs).map fun (x : Field × Nat) => (x.1.offset, x.2)) w := by
  induction fs generalizing szs with
  | nil => simp
  | cons f fs ih =>
    cases szs with
    | nil => simp at h
    | cons n szs =>
      have h0 := hs 0 f n (by simp) (by simp) w
      have ih' := ih (szs := szs) (by simpa using h) (fun i f n hf hn => hs (i + 1) f n (by simpa using hf) (by simpa using hn))
      simp only [List.mapM_cons, Sem.run_bind, h0, Result.andThen_ok, ih', Sem.run_pure, List.zip_cons_cons, List.map_cons]

theorem sound_build (h : Rel Z e a w G) (hT : TTok P tt) {o : Oper} {t : Nat} {parts : Array (Nat × Operand)} (ho : o.op = .build t parts) (hp : (opPg tt sig o).run C e s = some (us, s')) : Sound1 P o us Z e a w := by
  simp only [opPg, ho] at hp
  split at hp
  case h_2 => exact run_fail hp
  rename_i ti hti
  obtain ⟨vs, s1, hvs, hp1⟩ := run_opvs h hp
  split at hp1
  case h_2 => exact run_fail hp1
  rename_i l hl
  obtain ⟨hck, hp2⟩ := run_bif_fail hp1
  simp only [Bool.and_eq_true] at hck
  obtain ⟨⟨⟨hag, hval⟩, hlive⟩, hnf⟩ := hck
  rw [run_upD hp2]
  obtain ⟨z, hz, hza, _⟩ := (hT _ _ hti).runZero w
  have hA : All2 (AtomRel w (Stab Z e.rt G w) e.rt G) ti.zero z.cells.toList := hza.mono fun _ _ => zrel_rel
  have hvals : All2 (fun as u => All2 (AtomRel w (Stab Z e.rt G w) e.rt G) as u.cells.toList) (vs.map atoms) ((parts.toList.map (·.2)).map a.eval) := by
    clear hl hp hp1
    generalize (parts.toList.map (·.2)).map a.eval = uss at hvs
    induction vs generalizing uss with
    | nil => cases uss with
      | nil => trivial
      | cons => exact hvs.elim
    | cons v vs ih => cases uss with
      | nil => exact hvs.elim
      | cons u uss =>
        simp only [List.all_cons, Bool.and_eq_true] at hval
        exact ⟨cells_of_val (fun _ _ => AtomRel.one) hvs.1 hval.1, ih hval.2 uss hvs.2⟩
  have fin : ∀ (place : Nat → Option (Nat × Nat)) (cs : Array Value), Instr.fill place z.cells ((parts.toList.map (·.1)).zip ((parts.toList.map (·.2)).map a.eval)) = some cs → All2 (AtomRel w (Stab Z e.rt G w) e.rt G) l cs.toList →
      (∃ fs : Array Field, P.underlying t = some (.struct fs) ∧ (fs.mapM fun (f : Field) => (do pure (f.offset, ← sizeOf f.type) : Sem (Nat × Nat))).run P w = .ok ((ti.fl.map fun (x : Nat × Nat × Bool) => (x.1, x.2.1)).toArray) w ∧ place = (fun i => ((ti.fl.map fun (x : Nat × Nat × Bool) => (x.1, x.2.1)).toArray)[i]?)) → Sound1 P o (upD o.dst (.agg l)) Z e a w := by
    rintro place cs hfill hcs ⟨fs, hu, hm, rfl⟩
    have hzip : (parts.map fun (i, x) => (i, a.eval x)).toList = (parts.toList.map (·.1)).zip ((parts.toList.map (·.2)).map a.eval) := by
      rw [Array.toList_map]
      generalize parts.toList = pl
      induction pl with
      | nil => rfl
      | cons p pl ih => simp [ih]
    refine Sound1.value h (u := .agg cs) ?_ ⟨cs, rfl, hcs⟩
    have : (Instr.build t (parts.map fun (i, x) => (i, a.eval x))).run P w = .ok (.agg cs) w := by
      simp only [Instr.build, Sem.run_bind, hz, Result.andThen_ok, underlying, run_program, hu, hm, hzip, Sem.run_pure]
      rw [hfill]
      rfl
    simp only [execOp, ho, Sem.run_bind, this, Result.andThen_ok, Sem.run_pure]
  have hpl : ∀ (i off n : Nat) (ag : Bool), ti.fl[i]? = some (off, n, ag) → ((ti.fl.map fun (x : Nat × Nat × Bool) => (x.1, x.2.1)).toArray)[i]? = some (off, n) := by
    intro i off n ag hi; simp [hi]
  obtain ⟨cs, hfill, hcs⟩ := fillA_fill hpl (by simp) hvals hA hl
  refine fin _ cs hfill hcs ?_
  by_cases hne : ti.fl = []
  · rw [hne] at hnf; simp at hnf
  · obtain ⟨fs, hu, hsz⟩ := (hT _ _ hti).fields hne
    refine ⟨fs, hu, ?_, rfl⟩
    have hrow : ∀ (i : Nat) (f : Field), fs.toList[i]? = some f → ∃ row, ti.fl[i]? = some row ∧ f.offset = row.1 ∧ ∀ w, (sizeOf f.type).run P w = .ok row.2.1 w := by
      intro i f hf
      have hi := (List.getElem?_eq_some_iff.1 hf).1
      simp at hi
      obtain ⟨fs', fld, j, d, g1, g2, g3, g4, g5, g6, g7, g8⟩ := (hT _ _ hti).field i _ (List.getElem?_eq_getElem (l := ti.fl) (i := i) (by omega))
      rw [hu] at g1; cases g1
      have : f = fld := by
        have : fs[i]? = some f := by simpa using hf
        rw [this] at g2; cases g2; rfl
      subst this
      exact ⟨_, List.getElem?_eq_getElem (by omega), g3, fun w => by simp [sizeOf, typeInfo, g5, g7]⟩
    have hm := fields_mapM (P := P) (w := w) (fs := fs.toList) (szs := ti.fl.map fun (x : Nat × Nat × Bool) => x.2.1) (by simp [hsz]) (fun i f n hf hn => by
      obtain ⟨row, r1, r2, r3⟩ := hrow i f hf
      simp [r1] at hn
      subst hn; exact r3)
    have heq : ((fs.toList.zip (ti.fl.map fun (x : Nat × Nat × Bool) => x.2.1)).map fun (x : Field × Nat) => (x.1.offset, x.2)) = ti.fl.map fun (x : Nat × Nat × Bool) => (x.1, x.2.1) := by
      apply List.ext_getElem
      · simp [hsz]
      · intro i h1 h2
        have hi : i < ti.fl.length := by simpa using h2
        obtain ⟨row, r1, r2, r3⟩ := hrow i fs[i] (by simp)
        rw [List.getElem?_eq_getElem hi] at r1
        cases r1
        simp [r2]
    rw [heq] at hm
    obtain ⟨fl⟩ := fs
    rw [List.mapM_toArray, Sem.run_map, hm]
    rfl

theorem fill_row {size : Nat} : ∀ {us : List Value} {i : Nat} {cells : Array Value}, (∀ u ∈ us, u.cells.size = size) → i * size + us.length * size ≤ cells.size →
    ∃ cells', Instr.fill (fun i => some (i * size, size)) cells ((List.range' i us.length).zip us) = some cells' ∧ cells'.size = cells.size ∧ (∀ q, q < i * size → cells'[q]? = cells[q]?) ∧
      ∀ (j : Nat) (u : Value), us[j]? = some u → ∀ (k : Nat) (v : Value), u.cells.toList[k]? = some v → cells'[(i + j) * size + k]? = some v
  | [], i, cells, _, _ => ⟨cells, rfl, rfl, fun _ _ => rfl, fun j u h => by simp at h⟩
  | u :: us, i, cells, hs, hf => by
    have hu := hs u (by simp)
    rw [List.length_cons, Nat.succ_mul] at hf
    obtain ⟨c1, h1, h2⟩ := fill_cons (place := fun i => some (i * size, size)) (cells := cells) (i := i) (off := i * size) (v := u) (rest := (List.range' (i + 1) us.length).zip us) rfl hu (by omega)
    have hul : u.cells.toList.length = size := by simpa using hu
    have hcl : cells.toList.length = cells.size := by simp
    have hfit : i * size + u.cells.toList.length ≤ cells.toList.length := by omega
    have hlen : c1.toList.length = cells.toList.length := by rw [h2, splice_length hfit]
    have hsz : c1.size = cells.size := by simpa using hlen
    obtain ⟨c2, h3, h4, h5, h6⟩ := fill_row (us := us) (i := i + 1) (cells := c1) (fun u hu => hs u (by simp [hu])) (by rw [hsz, Nat.succ_mul]; omega)
    have get : ∀ q : Nat, c1[q]? = (splice cells.toList (i * size) u.cells.toList)[q]? := fun q => by rw [← h2]; simp
    refine ⟨c2, by rw [List.length_cons, List.range'_succ, List.zip_cons_cons, h1, h3], by rw [h4, hsz], fun q hq => ?_, ?_⟩
    · rw [h5 q (by rw [Nat.succ_mul]; omega), get, splice_get hfit, if_pos hq]; simp
    · intro j u' hj k v hk
      cases j with
      | zero =>
        simp at hj; subst hj
        have hkl := (List.getElem?_eq_some_iff.1 hk).1
        rw [Nat.add_zero, h5 _ (by rw [Nat.succ_mul]; omega), get, splice_get hfit, if_neg (by omega), if_pos (by omega), show i * size + k - i * size = k by omega]
        exact hk
      | succ j =>
        have := h6 j u' (by simpa using hj) k v hk
        rwa [show i + 1 + j = i + (j + 1) by omega] at this

theorem Kd.size_pos : ∀ k : Kd, 0 < k.size
  | .int _ => Nat.one_pos
  | .bool => Nat.one_pos
  | .str => Nat.one_pos
  | .sl _ => Nat.one_pos
  | .pr a b => by have := Kd.size_pos a; simp only [Kd.size]; omega

theorem run_toRos {α : Type} {xx : α × Seen} : ∀ {ls : List (List Atom)} {us : List Value} {s : Seen} {k : List (List Atom) → List Up → Pg α} {e1 : Env}, FrzOf e e1 → Rel Z e1 a w G →
    All2 (fun l u => All2 (AtomRel w (Stab Z e1.rt G w) e1.rt G) l u.cells.toList) ls us → (toRos ls k).run C e s = some xx →
    ∃ ls' ups s', (k ls' ups).run C e s' = some xx ∧ FrzOf e (e1.ups ups) ∧ Rel Z (e1.ups ups) a w G ∧ All2 (fun l u => All2 (AtomRel w (Stab Z (e1.ups ups).rt G w) (e1.ups ups).rt G) l u.cells.toList) ls' us ∧
      (∀ x u, AtomRel w (Stab Z e1.rt G w) e1.rt G x u → AtomRel w (Stab Z (e1.ups ups).rt G w) (e1.ups ups).rt G x u)
  | [], [], s, k, e1, hf, h1, _, hp => ⟨[], [], s, hp, hf, h1, trivial, fun _ _ h => h⟩
  | l :: ls, u :: us, s, k, e1, hf, h1, hl, hp => by
    obtain ⟨l', ups, s1, h2, h3, h4, h5, h6, _, _⟩ := run_toRo hf h1 hl.1 hp
    obtain ⟨ls', ups', s2, g1, g2, g3, g4, g5⟩ := run_toRos h3 h4 (hl.2.mono fun _ _ hx => hx.mono h6) h2
    refine ⟨l' :: ls', ups ++ ups', s2, g1, ?_, ?_, ?_, ?_⟩ <;> rw [Env.ups_append]
    · exact g2
    · exact g3
    · exact ⟨h5.mono g5, g4⟩
    · exact fun x u hx => g5 _ _ (h6 _ _ hx)
  | [], _ :: _, _, _, _, _, _, h, _ => h.elim
  | _ :: _, [], _, _, _, _, _, h, _ => h.elim

theorem mkParts_rel {S : Nat → Prop} {rt : Roots} {d : Kd} : ∀ {ls : List (List Atom)} {us : List Value} {xs : List d.den}, All2 (fun l u => All2 (AtomRel w S rt G) l u.cells.toList) ls us → mkParts d ls = some xs →
    All2 (fun x u => Rd w S d x u.cells.toList) xs us
  | [], [], xs, _, h => by simp [mkParts] at h; subst h; trivial
  | l :: ls, u :: us, xs, hl, h => by
    unfold mkParts at h
    split at h
    case h_2 => cases h
    rename_i x hx
    split at h
    case h_2 => cases h
    rename_i ys hys
    cases h
    exact ⟨ofCells_rel hl.1 hx, mkParts_rel hl.2 hys⟩
  | [], _ :: _, _, h, _ => h.elim
  | _ :: _, [], _, h, _ => h.elim

theorem isByteSl_spec {tt : TT} (hT : TTok P tt) {u : Nat} {ti : TI} (hti : tt.get u = some ti) (h : isByteSl tt ti = true) : ∃ e, P.underlying u = some (.slice e) ∧ P.underlying e = some (.int .u8) := by
  unfold isByteSl at h
  simp only [Bool.and_eq_true] at h
  obtain ⟨h1, h2⟩ := h
  split at h2
  case h_2 => cases h2
  rename_i te hte
  simp only [Bool.and_eq_true, Bool.not_eq_true'] at h2
  obtain ⟨h3, h4, h5⟩ := h2
  refine ⟨_, (hT _ _ hti).slice h1, (hT _ _ hte).int .u8 h3 ?_ h4⟩
  split at h5
  · assumption
  · cases h5
theorem isStrT_spec' {tt : TT} {t : Nat} (hT : TTok P tt) (h : isStrT tt t = true) : P.underlying t = some .string := by
  unfold isStrT at h
  split at h
  case h_2 => cases h
  rename_i ti ht
  simp only [Bool.and_eq_true, Bool.not_eq_true'] at h
  obtain ⟨h1, h2, h3⟩ := h
  refine (hT _ _ ht).str h1 ?_ h2
  split at h3
  · assumption
  · cases h3
theorem bytes_run {S : Nat → Prop} {l : List Int} {u : Value} (h : Elems P w S (.int .u8) l u) : (Conv.bytesToString u).run P w = .ok (.string (bytesOf l)) w := by
  obtain ⟨ad, c, nv, rfl, hc, hf, hr⟩ := h.ex
  have hnv : nv = l.map (Value.int .u8) := by
    apply List.ext_getElem?
    intro j
    have h1 : nv.length = l.length := by rw [hr.1]; simp [Kd.size]
    by_cases hj : j < l.length
    · obtain ⟨cs, h2, h3⟩ := hr.2 j l[j] (List.getElem?_eq_getElem hj)
      have h2' : cs = [.int .u8 l[j]] := h2
      subst h2'
      have := h3 0 _ rfl
      simp only [Kd.size, Nat.mul_one, Nat.add_zero] at this
      rw [this, List.getElem?_map, List.getElem?_eq_getElem hj]; rfl
    · rw [List.getElem?_eq_none (by omega), List.getElem?_eq_none (by simp; omega)]
  cases ad with
  | none =>
    have h1 : nv = [] := by
      have := hf w rfl
      simp only [Builtin.firstCells, Sem.run_pure, Result.ok.injEq] at this
      have := congrArg Array.toList this.1
      simpa using this.symm
    rw [h1] at hnv
    have : l = [] := by cases l with | nil => rfl | cons => cases hnv
    subst this
    rfl
  | some a =>
    have h1 := hf w rfl
    simp only [Builtin.firstCells, Kd.size, Nat.mul_one] at h1
    rw [hnv] at h1
    rw [run_bytesToString w a l.length c l h1]
    congr 2
    have : ∀ (ns : List Int) (s : ByteArray), ns.foldl (fun r n => r.push (UInt8.ofNat n.toNat)) s = ⟨s.data ++ (ns.map fun n => UInt8.ofNat n.toNat).toArray⟩ := by
      intro ns
      induction ns with
      | nil => intro s; simp
      | cons n ns ih =>
        intro s
        rw [List.foldl_cons, ih]
        simp [ByteArray.push]
    rw [this]
    unfold bytesOf
    congr 1
    exact Array.empty_append
theorem sound_convert (h : Rel Z e a w G) (hT : TTok P tt) {o : Oper} {t u : Nat} {x : Operand} (ho : o.op = .convert t u x) (hp : (opPg tt sig o).run C e s = some (us, s')) : Sound1 P o us Z e a w := by
  simp only [opPg, ho] at hp
  split at hp
  case h_2 => exact run_fail hp
  rename_i si ti hsi hti
  rcases run_bif hp with ⟨hb, hp⟩ | ⟨_, hp⟩
  · simp only [Bool.and_eq_true] at hb
    obtain ⟨v, s1, hv, hp⟩ := run_opv h hp
    obtain ⟨l, s2, hl, hp⟩ := run_listOf (P := P) h (d := .int .u8) Nat.one_pos hv hp
    rw [run_upD hp]
    obtain ⟨el, h1, h2⟩ := isByteSl_spec hT hsi hb.1
    have h3 := isStrT_spec' hT hb.2
    refine Sound1.value h (u := .string (bytesOf l)) ?_ (rel_str _)
    obtain ⟨ad, c, nv, hu, _⟩ := hl.ex
    have h4 : (convert t u (a.eval x)).run P w = (Conv.bytesToString (a.eval x)).run P w := by
      rw [hu]; exact run_convert_bytes_string w t u el ad _ c h1 h2 h3
    simp [execOp, ho, h4, bytes_run hl]
  · obtain ⟨v, s1, hv, hp⟩ := run_opv h hp
    split at hp
    case h_2 => exact run_fail hp
    rename_i i n k hk
    obtain ⟨hb, hp⟩ := run_bif_fail hp
    rw [run_upD hp]
    simp only [Bool.and_eq_true, Bool.not_eq_true'] at hb
    have h1 := (hT _ _ hti).int k hb.1 hk hb.2
    obtain ⟨_, _, d, _, hd, _⟩ := (hT _ _ hsi).info
    have hx := atom_int hv
    refine Sound1.value h (u := .int k (k.wrap n)) ?_ (rel_int _ _)
    simp [execOp, ho, hx, convert, underlying, hd, h1, Conv.intToInt]
theorem sound_buildNone (h : Rel Z e a w G) (hT : TTok P tt) {o : Oper} {t d : Nat} {ti te : TI} (hd : o.dst = some d) (hti : tt.get t = some ti) (hte : tt.get ti.elem = some te) (hsl : ti.sl = true) (ho : o.op = .buildSlice t 0 #[])
    (hp3 : (newRow d 4000 (.arr te.kd []) (.whole (d, 4000)) []).run C e s = some (us, s')) : Sound1 P o us Z e a w := by
  obtain ⟨hq, rfl⟩ := run_newRow hp3
  have hrun : (Instr.buildSlice t 0 #[]).run P w = .ok (.slice (some ⟨w.heap.size, 0, none⟩) 0 0) { w with heap := w.heap.push (.cells #[] ti.elem) } := by
    have hsize : ∀ w, (sizeOf ti.elem).run P w = .ok te.size w := fun w => (hT _ _ hte).runSize w
    simp only [Instr.buildSlice, Sem.run_bind, underlying, run_program, Result.andThen_ok, (hT _ _ hti).slice hsl, Sem.run_pure, hsize]
    have hz : Array.range 0 = #[] := Array.eq_empty_of_size_eq_zero (by simp)
    simp [Go.newRow, Instr.fill, hz]
  have hgr := Grown.alloc w (.cells #[] ti.elem)
  have hgb : ∀ b, Bk (.slice (some ⟨w.heap.size, 0, none⟩) 0 0) b → w.heap.size ≤ b := fun b hb => by simp [Bk, blkOf] at hb
  have hrel := h.new (x := .arr te.kd []) hq hgr hgb (by
    show ArrOk _ _ _ _ (setG G (d, 4000) _ (d, 4000))
    rw [setG_same]
    exact .inl ⟨rfl, _, rfl⟩)
  refine Sound1.made hd (e' := e.up (.rt (d, 4000) (some (.arr te.kd [])))) rfl ?_ hrel ?_ (u := .slice (some ⟨w.heap.size, 0, none⟩) 0 0)
  · simp only [execOp, ho]
    simp only [List.map_toArray, List.map_nil, Sem.run_bind, hrun, Result.andThen_ok, Sem.run_pure]
  · refine show RowRel (setR e.rt (d, 4000) _) (d, 4000) _ _ from RowRel.of_row (.inl ⟨rfl, by rw [look_setR, if_pos rfl]⟩) ?_ rfl
    rw [setG_same]
theorem sound_buildSlice (h : Rel Z e a w G) (hT : TTok P tt) {o : Oper} {t n : Nat} {parts : Array (Nat × Operand)} (ho : o.op = .buildSlice t n parts) (hp : (opPg tt sig o).run C e s = some (us, s'))
    (hk : ∀ d ti x v s1, o.dst = some d → tt.get t = some ti → n = 1 → parts = #[(0, x)] → VRel Z e G w v (a.eval x) → (rrBuild tt d ti v).run C e s1 = some (us, s') → Sound1 P o us Z e a w) : Sound1 P o us Z e a w := by
  simp only [opPg, ho] at hp
  split at hp
  case h_2 => exact run_fail hp
  rename_i d ti hd hti
  rcases run_bif hp with ⟨_, hp⟩ | ⟨_, hp⟩
  · split at hp
    · rename_i x hpa
      obtain ⟨hn, hp⟩ := run_bif_fail hp
      obtain ⟨v, s1, hv, hp⟩ := run_opv h hp
      exact hk d ti x v _ hd hti (Nat.eq_of_beq_eq_true hn) (by simpa using congrArg List.toArray hpa) hv hp
    · exact run_fail hp
  split at hp
  case h_2 => exact run_fail hp
  rename_i te hte
  rcases run_bif hp with ⟨h0, hp1⟩ | ⟨_, hp1⟩
  · clear hp
    simp only [Bool.and_eq_true] at h0
    obtain ⟨hn, _, hsl, hpa⟩ := h0
    have hn := Nat.eq_of_beq_eq_true hn
    subst hn
    have hpa : parts = #[] := by simpa using hpa
    subst hpa
    exact sound_buildNone h hT hd hti hte hsl ho hp1
  clear hp
  obtain ⟨hck, hp0⟩ := run_bif_fail hp1
  clear hp1
  simp only [Bool.and_eq_true] at hck
  obtain ⟨hok, hsl, hn0, hn1, hsz, hrange⟩ := hck
  obtain ⟨vs, s1, hvs, hp1⟩ := run_opvs h hp0
  clear hp0
  obtain ⟨hval, hp1'⟩ := run_bif_fail hp1
  clear hp1
  have hvals : All2 (fun as u => All2 (AtomRel w (Stab Z e.rt G w) e.rt G) as u.cells.toList) (vs.map atoms) ((parts.toList.map (·.2)).map a.eval) := by
    clear hp1'
    generalize (parts.toList.map (·.2)).map a.eval = uss at hvs
    induction vs generalizing uss with
    | nil => cases uss with
      | nil => trivial
      | cons => exact hvs.elim
    | cons v vs ih => cases uss with
      | nil => exact hvs.elim
      | cons u uss =>
        simp only [List.all_cons, Bool.and_eq_true] at hval
        exact ⟨cells_of_val (fun _ _ => AtomRel.one) hvs.1 hval.1, ih hval.2 uss hvs.2⟩
  have hros := run_toRos (FrzOf.refl e) h hvals hp1'
  clear hp1'
  obtain ⟨ass, ups, s2, hp2, hf, h1, hass, _⟩ := hros
  split at hp2
  case h_2 => exact run_fail hp2
  rename_i l hl
  obtain ⟨hln, hp3⟩ := run_bif_fail hp2
  clear hp2
  have hln' := Nat.eq_of_beq_eq_true hln
  have hn0' := blt_true hn0
  have hn1' := blt_true hn1
  obtain ⟨hq, rfl⟩ := run_newRow hp3
  have hq1 : look (e.ups ups).rt (d, 4000) = none := by
    rcases hf.rt (d, 4000) with h2 | ⟨d', xs', h2, _⟩ | ⟨l2, h2, _⟩
    · rw [h2]; exact hq
    · rw [hq] at h2; cases h2
    · rw [hq] at h2; cases h2
  obtain ⟨i, z, dd, hi, _, hs1, hb1, _, hz, _, _, hokz⟩ := (hT _ _ hte).info
  obtain ⟨hks, hzc⟩ := hokz hok
  have hsize : ∀ w, (sizeOf ti.elem).run P w = .ok te.kd.size w := fun w => by rw [hks]; exact (hT _ _ hte).runSize w
  have hparts := mkParts_rel hass hl
  have hidx : parts.toList.map (·.1) = List.range' 0 n := by simpa using hrange
  have hplen : parts.toList.length = n := by
    have := congrArg List.length hidx
    simpa using this
  have hzip : (parts.map fun (i, x) => (i, a.eval x)).toList = (List.range' 0 ((parts.toList.map (·.2)).map a.eval).length).zip ((parts.toList.map (·.2)).map a.eval) := by
    rw [Array.toList_map]
    have : ((parts.toList.map (·.2)).map a.eval).length = n := by simpa using hplen
    rw [this, ← hidx]
    generalize parts.toList = pl
    induction pl with
    | nil => rfl
    | cons p pl ih => simp [ih]
  have hul : ((parts.toList.map (·.2)).map a.eval).length = n := by simpa using hplen
  have hus : ∀ u ∈ (parts.toList.map (·.2)).map a.eval, u.cells.size = te.kd.size := by
    intro u hu
    obtain ⟨j, hj⟩ := List.getElem?_of_mem hu
    obtain ⟨x, hx, hr⟩ := hparts.getr hj
    have := Rd.length hr
    simpa using this
  have hkpos := Kd.size_pos te.kd
  have hne : ¬ n * te.kd.size = 0 := by
    have := Nat.mul_pos hn0' hkpos
    omega
  have hzv : (zeroValue ti.elem).run P w = .ok z w := by simp [zeroValue, typeInfo, hi, hz]
  obtain ⟨cells, hfill, hcsz, _, hcells⟩ := fill_row (size := te.kd.size) (us := (parts.toList.map (·.2)).map a.eval) (i := 0) (cells := (Array.range (n * te.kd.size)).map (z.cells[· % z.cells.size]!)) hus (by rw [hul]; simp)
  have hcsz' : cells.size = n * te.kd.size := by rw [hcsz]; simp
  have hmul : n * te.kd.size ≤ 9999 * 1000 := Nat.mul_le_mul (by omega) (by rw [hks]; exact Nat.le_of_ble_eq_true hsz)
  have hbig : ¬ n * te.kd.size > 2 ^ 24 := by omega
  have hrun : (Instr.buildSlice t n (parts.map fun (i, x) => (i, a.eval x))).run P w = .ok (.slice (some ⟨w.heap.size, 0, none⟩) n n) { w with heap := w.heap.push (.cells cells ti.elem) } := by
    simp only [Instr.buildSlice, Sem.run_bind, underlying, run_program, Result.andThen_ok, (hT _ _ hti).slice hsl, Sem.run_pure, hsize, if_neg hbig, hzip, if_neg hne, hzv]
    rw [hfill]
    simp [Go.newRow]
  have hgr := Grown.alloc w (.cells cells ti.elem)
  have hgb : ∀ b, Bk (.slice (some ⟨w.heap.size, 0, none⟩) n n) b → w.heap.size ≤ b := by
    intro b hb
    simp [Bk, blkOf] at hb
    omega
  have hc := Chg.new (x := .arr te.kd l) (g := .slice (some ⟨w.heap.size, 0, none⟩) n n) h1.mem hq1 hgr hgb
  have hrel := h1.new (x := .arr te.kd l) hq1 hgr hgb (by
    show ArrOk _ _ _ _ (setG G (d, 4000) _ (d, 4000))
    rw [setG_same]
    have := arr_new (xs := l) (nv := cells.toList) (cap := n) (w := { w with heap := w.heap.push (.cells cells ti.elem) }) (S := Stab Z (setR (e.ups ups).rt (d, 4000) (some (.arr te.kd l))) (setG G (d, 4000) (.slice (some ⟨w.heap.size, 0, none⟩) n n)) { w with heap := w.heap.push (.cells cells ti.elem) })
      (d := te.kd) (b := w.heap.size) (cells := cells) (u := ti.elem) (by simp) ⟨by simp [hcsz', hln'], fun j y hj => ?_⟩ (fun q v hv => by simpa using hv) (by omega) (by omega)
    · rw [hln'] at this; exact this (by omega)
    · obtain ⟨u, hu, hr⟩ := hparts.get hj
      refine ⟨u.cells.toList, Rd.mono (hc.stab h1.mem) hr, fun k v hk => ?_⟩
      have := hcells j u hu k v hk
      rw [Nat.zero_add] at this
      simpa using this)
  refine Sound1.made hd (e' := (e.ups ups).up (.rt (d, 4000) (some (.arr te.kd l)))) (by rw [Env.ups_append]; rfl) ?_ hrel ?_ (u := .slice (some ⟨w.heap.size, 0, none⟩) n n)
  · simp only [execOp, ho, Sem.run_bind, hrun, Result.andThen_ok, Sem.run_pure]
  · refine show RowRel (setR (e.ups ups).rt (d, 4000) _) (d, 4000) _ _ from RowRel.of_row (.inl ⟨rfl, by rw [look_setR, if_pos rfl]⟩) ?_ rfl
    rw [setG_same]
end
end Go.Am
/- Rows of rows of one's own: made, put behind one another, a row taken out and put in. -/
set_option linter.unusedVariables false
set_option linter.unusedSimpArgs false
namespace Go.Am
open Go

section
variable {P : Program} {tt : TT} {sig : Sig} {C : Nat → Pk → Option Pk} {Z : Base} {e : Env} {a : Act} {w w' : World} {G : Gh} {s s' : Seen} {us : List Up}

theorem Rd.flat {S S' : Nat → Prop} : ∀ {k : Kd} {x : k.den} {cs : List Value}, k.flat = true → Rd w S k x cs → Rd w' S' k x cs
  | .int _, _, _, _, h => h
  | .bool, _, _, _, h => h
  | .str, _, _, _, h => h
  | .sl _, _, _, h, _ => by simp [Kd.flat] at h
  | .pr _ _, _, _, hf, ⟨c₁, c₂, h, h₁, h₂⟩ => by
    simp only [Kd.flat, Bool.and_eq_true] at hf
    exact ⟨c₁, c₂, h, Rd.flat hf.1 h₁, Rd.flat hf.2 h₂⟩
theorem ArrOk.flat {S S' : Nat → Prop} {d : Kd} {xs : List d.den} {v : Value} (hf : d.flat = true) (h : ArrOk w S d xs v) : ArrOk w S' d xs v := by
  rcases h with h | ⟨b, off, cap, cells, t, h1, h2, h3, h4, h5, h6⟩
  · exact .inl h
  · exact .inr ⟨b, off, cap, cells, t, h1, h2, h3, h4, h5, h6.mono fun _ _ => Rd.flat hf⟩

/-- No two of them share a block. -/
def BApart (l : List Value) : Prop := ∀ (i j : Nat) v v' b, l[i]? = some v → l[j]? = some v' → blkOf v = some b → blkOf v' = some b → i = j
theorem BApart.set {o : Value} {l : List Value} (h : BApart (o :: l)) {i : Nat} {g : Value} (hg : ∀ c, blkOf g = some c → ∀ u ∈ o :: l, blkOf u = some c → False) : BApart (o :: l.set i g) := by
  have key : ∀ (k : Nat) v, (o :: l.set i g)[k]? = some v → (k = i + 1 ∧ v = g) ∨ (k ≠ i + 1 ∧ (o :: l)[k]? = some v) := by
    intro k v hk
    cases k with
    | zero => exact .inr ⟨by omega, hk⟩
    | succ k =>
      simp only [List.getElem?_cons_succ] at hk ⊢
      rw [List.getElem?_set] at hk
      split at hk
      · rename_i e0; subst e0
        split at hk
        · exact .inl ⟨rfl, (Option.some.inj hk).symm⟩
        · cases hk
      · rename_i e0; exact .inr ⟨by omega, hk⟩
  intro p q v v' b h1 h2 h3 h4
  rcases key p v h1 with ⟨e1, rfl⟩ | ⟨e1, k1⟩ <;> rcases key q v' h2 with ⟨e2, rfl⟩ | ⟨e2, k2⟩
  · omega
  · exact (hg b h3 v' (List.mem_of_getElem? k2) h4).elim
  · exact (hg b h4 v (List.mem_of_getElem? k1) h3).elim
  · exact h p q v v' b k1 k2 h3 h4
/-- Each body under its list. -/
def Bodies (w : World) (e : Kd) (xs : List (List e.den)) (bodies : List Value) : Prop :=
  ∀ (i : Nat) (x : List e.den) v, xs[i]? = some x → bodies[i]? = some v → ArrOk w (fun _ => False) e x v
theorem Bodies.set {d : Kd} {xs : List (List d.den)} {l : List Value} (h : Bodies w d xs l) (hl : l.length = xs.length) {i : Nat} {y : List d.den} {g : Value} (hy : ArrOk w (fun _ => False) d y g) : Bodies w d (xs.set i y) (l.set i g) := by
  intro j x v hx hv
  rw [List.getElem?_set] at hx hv
  split at hx
  · rename_i e0; subst e0
    split at hx
    · rename_i hlt
      simp only [if_true] at hv
      rw [if_pos (by omega)] at hv
      cases hx; cases hv
      exact hy
    · cases hx
  · rename_i e0
    rw [if_neg e0] at hv
    exact h j x v hx hv
theorem OutOk.hole {h h' : Option Nat} {outer : Value} {l : List Value} (ho : OutOk w h outer l) {i : Nat} {g : Value} (hk : ∀ j, h' ≠ some j → j ≠ i → h ≠ some j)
    (hi : ∀ b o n c cells t, outer = .slice (some ⟨b, o, none⟩) n c → w.heap[b]? = some (.cells cells t (0, 0)) → h' ≠ some i → cells[o + i]? = some g) : OutOk w h' outer (l.set i g) := by
  rcases ho with ⟨h1, a, h2⟩ | ⟨b, off, cap, cells, t, h1, h2, h3, h4, h5, h6⟩
  · subst h1; exact .inl ⟨rfl, a, h2⟩
  · refine .inr ⟨b, off, cap, cells, t, by rw [List.length_set]; exact h1, by rw [List.length_set]; exact h2, h3, h4, h5, fun j v hj hne => ?_⟩
    rw [List.getElem?_set] at hj
    split at hj
    · rename_i e0; subst e0
      split at hj
      · cases hj; exact hi b off _ cap cells t h1 h4 hne
      · cases hj
    · rename_i e0
      exact h6 j v hj (hk j hne fun e1 => e0 e1.symm)
theorem bk_agg {l : List Value} {c : Nat} : Bk (.agg l.toArray) c ↔ ∃ u ∈ l, blkOf u = some c := by
  constructor
  · exact mem_agg
  · rintro ⟨u, hu, hb⟩; exact bk_part hu hb
theorem hdOf_agg (o : Value) (l : List Value) : hdOf (.agg (o :: l).toArray) = o := by simp [hdOf]
theorem bk_set {o : Value} {l : List Value} {i : Nat} {g : Value} {c : Nat} (h : Bk (.agg (o :: l.set i g).toArray) c) : Bk (.agg (o :: l).toArray) c ∨ blkOf g = some c := by
  obtain ⟨u, hu, hb⟩ := bk_agg.1 h
  rcases List.mem_cons.1 hu with rfl | hu
  · exact .inl (bk_agg.2 ⟨u, List.mem_cons_self .., hb⟩)
  · rcases List.mem_or_eq_of_mem_set hu with hu | rfl
    · exact .inl (bk_agg.2 ⟨u, List.mem_cons_of_mem _ hu, hb⟩)
    · exact .inr hb
theorem RrOk.close {S : Nat → Prop} {d : Kd} {xs : List (List d.den)} {i : Nat} {g gq : Value} {ys : List d.den} (hr : RrOk w d xs (some i) g) (hf : d.flat = true)
    (hh : ∃ b o n cap cells t, hdOf g = .slice (some ⟨b, o, none⟩) n cap ∧ w.heap[b]? = some (.cells cells t (0, 0)) ∧ cells[o + i]? = some gq) (ha : ArrOk w S d ys gq) (hsep : ∀ c, Bk g c → Bk gq c → False) :
    ∃ g', RrOk w d (xs.set i ys) none g' ∧ hdOf g' = hdOf g ∧ ∀ c, Bk g' c → Bk g c ∨ Bk gq c := by
  obtain ⟨⟨outer, bodies, rfl, h2, h3, h4, h5⟩⟩ := hr
  obtain ⟨b, o, n, cap, cells, t, k1, k2, k3⟩ := hh
  rw [hdOf_agg] at k1
  refine ⟨.agg (outer :: bodies.set i gq).toArray, ⟨outer, bodies.set i gq, rfl, by simp [h2], ?_, Bodies.set h4 h2 (ArrOk.flat hf ha), BApart.set h5 fun c hc u hu hb => ?_⟩, by rw [hdOf_agg, hdOf_agg], fun c hc => ?_⟩
  · refine h3.hole (fun j _ hj => fun e0 => hj (Option.some.inj e0).symm) fun b' o' n' c' cells' t' e1 e2 _ => ?_
    rw [e1] at k1
    injection k1 with ka _ _
    injection ka with ka
    injection ka with kb ko
    subst kb; subst ko
    rw [e2] at k2
    cases k2
    exact k3
  · exact hsep c (bk_agg.2 ⟨u, hu, hb⟩) (.inl hc)
  · rcases bk_set hc with h | h
    · exact .inl h
    · exact .inr (.inl h)
theorem ArrOk.blk_iff {S : Nat → Prop} {d : Kd} {xs : List d.den} {v : Value} (h : ArrOk w S d xs v) {c : Nat} : Bk v c ↔ blkOf v = some c := ⟨fun hb => h.bk hb, fun hb => .inl hb⟩
/-- Some names have turned, others are gone, the rest is as it was. -/
theorem Rel.change (h : Rel Z e a w G) {rt' : Roots} {G' : Gh} (N : Rid → Prop) (hos : w'.os = w.os) (htp : w'.tape = w.tape) (hou : w'.output = w.output) (hsz : w.heap.size ≤ w'.heap.size)
    (hblk : ∀ b, b < w.heap.size → ¬ Owns e.rt G b → w'.heap[b]? = w.heap[b]?)
    (hold : ∀ p y, look rt' p = some (some y) → ¬ N p → look e.rt p = some (some y) ∧ G' p = G p ∧ (y.own = true → ∀ b, Bk (G p) b → w'.heap[b]? = w.heap[b]?))
    (hg : ∀ q y b, N q → look rt' q = some (some y) → y.own = true → Bk (G' q) b → (∃ p z, look e.rt p = some (some z) ∧ z.own = true ∧ Bk (G p) b ∧ ∀ z', look rt' p = some (some z') → N p) ∨ w.heap.size ≤ b)
    (hsep : ∀ q q' y y' b, N q → N q' → look rt' q = some (some y) → look rt' q' = some (some y') → y.own = true → y'.own = true → Bk (G' q) b → Bk (G' q') b → q = q')
    (ht : Turns e.rt G rt' G')
    (hx : Chg Z e.rt G w rt' G' w' → ∀ q y, N q → look rt' q = some (some y) → RootOk w' (Stab Z rt' G' w') rt' G' q y) : Rel Z { e with rt := rt' } a w' G' := by
  have one : ∀ p y q y' b, ¬ N p → N q → look rt' p = some (some y) → look rt' q = some (some y') → y.own = true → y'.own = true → Bk (G' p) b → Bk (G' q) b → False := by
    intro p y q y' b hp hq h1 h2 h3 h4 h5 h6
    obtain ⟨k1, k2, _⟩ := hold p y h1 hp
    rw [k2] at h5
    rcases hg q y' b hq h2 h4 h6 with ⟨p0, z, m1, m2, m3, m4⟩ | m1
    · have := h.mem.sep p p0 y z b k1 m1 h3 m2 h5 m3
      subst this
      exact hp (m4 _ h1)
    · have := h.mem.own_lt ⟨p, y, k1, h3, h5⟩
      omega
  have hc : Chg Z e.rt G w rt' G' w' :=
    { os := hos, tape := htp, output := hou, size := hsz, block := hblk
      own := fun b ⟨p, y, h1, h2, h3⟩ => by
        by_cases hp : N p
        · rcases hg p y b hp h1 h2 h3 with ⟨p0, z, m1, m2, m3, _⟩ | m1
          · exact .inl ⟨p0, z, m1, m2, m3⟩
          · exact .inr m1
        · obtain ⟨k1, k2, _⟩ := hold p y h1 hp
          rw [k2] at h3
          exact .inl ⟨p, y, k1, h2, h3⟩
      turns := ht }
  refine h.chg hc (hc.mem h.mem (fun p y hp => ?_) (fun p p' y y' b hp hp' ho ho' h1 h2 => ?_))
  · by_cases hn : N p
    · exact .inr (hx hc p y hn hp)
    · exact .inl (hold p y hp hn)
  · by_cases hn : N p <;> by_cases hn' : N p'
    · exact hsep p p' y y' b hn hn' hp hp' ho ho' h1 h2
    · exact (one p' y' p y b hn' hn hp' hp ho' ho h2 h1).elim
    · exact (one p y p' y' b hn hn' hp hp' ho ho' h1 h2).elim
    · obtain ⟨k1, k2, _⟩ := hold p y hp hn
      obtain ⟨m1, m2, _⟩ := hold p' y' hp' hn'
      rw [k2] at h1; rw [m2] at h2
      exact h.mem.sep p p' y y' b k1 m1 ho ho' h1 h2

/-- A row of a row of rows, taken out. -/
theorem sound_take (h : Rel Z e a w G) (hT : TTok P tt) {o : Oper} {t : Nat} {x : Operand} (ho : o.op = .load t x) {d : Nat} {ti : TI} {r : Rid} {i : Nat} (hd : o.dst = some d) (hti : tt.get t = some ti) (hsz : ti.size = 1) (hag : ti.agg = false)
    (hv : VRel Z e G w (.one (.melt r i)) (a.eval x)) (hp : (rrTake d r i).run C e s = some (us, s')) : Sound1 P o us Z e a w := by
  unfold rrTake at hp
  obtain ⟨D, xs, hole, s1, hl, hp⟩ := run_rrOf hp
  split at hp
  · exact run_fail hp
  obtain ⟨hq, rfl⟩ := run_newRow hp
  have hm : MeltRel e.rt G r i (a.eval x) := hv
  unfold MeltRel at hm
  rw [hl] at hm
  obtain ⟨_, hi, b, off, n, cap, hhd, hpx⟩ := hm
  obtain ⟨⟨outer, bodies, h1, h2, h3, h4, h5⟩⟩ := (show RrOk w D xs none (G r) from (h.mem.roots r _ hl).1)
  have hhd' : hdOf (G r) = outer := by rw [h1, hdOf_agg]
  have hlt : i < bodies.length := by omega
  have hbi : bodies[i]? = some bodies[i] := List.getElem?_eq_getElem hlt
  have hne : r ≠ (d, 6000) := fun e0 => by rw [e0, hq] at hl; cases hl
  rw [hhd] at hhd'
  rcases h3 with ⟨k1, _⟩ | ⟨b', off', cap', cells, ty, k1, k2, k3, k4, k5, k6⟩
  · rw [k1] at hlt; simp at hlt
  rw [← hhd'] at k1
  injection k1 with ka kn kc
  injection ka with ka
  injection ka with kb ko
  subst kb; subst ko
  have hcell : cells[off + i]? = some bodies[i] := k6 i _ hbi (by simp)
  obtain ⟨u', hrun, hu'⟩ := loadAt_run (hT _ _ hti) k4 (o := off + i) (cs := [bodies[i]]) (fun j v hj => by
    match j, hj with
    | 0, hj => cases hj; exact hcell
    | j + 1, hj => simp at hj) (by rw [hsz]; rfl)
  have hu : u' = bodies[i] := by
    rcases hu' with ⟨h6, _⟩ | ⟨_, h6⟩
    · rw [hag] at h6; cases h6
    · injection h6 with h6; exact h6.symm
  subst hu
  have hxi : xs[i]? = some (xs.getD i []) := by simp [List.getD, List.getElem?_eq_getElem hi]
  have hai := h4 i _ _ hxi hbi
  have hx0 : bodies[i] ∈ outer :: bodies := List.mem_cons_of_mem _ (List.getElem_mem hlt)
  let g1 : Value := .agg (outer :: bodies.set i (.slice none 0 0)).toArray
  let G' : Gh := setG (setG G r g1) (d, 6000) bodies[i]
  have hG1 : G' r = g1 := by simp only [G']; rw [setG_other hne, setG_same]
  have hG2 : G' (d, 6000) = bodies[i] := setG_same _ _ _
  have hG3 : ∀ p, p ≠ r → p ≠ (d, 6000) → G' p = G p := fun p e1 e2 => by simp only [G']; rw [setG_other e2, setG_other e1]
  let rt' := setR (setR e.rt r (some (.map (.rr D (xs.set i []) (some (i, (d, 6000))))))) (d, 6000) (some (.arr D (xs.getD i [])))
  have hL : ∀ p, look rt' p = if p = (d, 6000) then some (some (.arr D (xs.getD i []))) else if p = r then some (some (.map (.rr D (xs.set i []) (some (i, (d, 6000)))))) else look e.rt p := fun p => by
    simp only [rt']; rw [look_setR, look_setR]
  have hLr : look rt' r = some (some (.map (.rr D (xs.set i []) (some (i, (d, 6000)))))) := by rw [hL, if_neg hne, if_pos rfl]
  have hLq : look rt' (d, 6000) = some (some (.arr D (xs.getD i []))) := by rw [hL, if_pos rfl]
  have hbk1 : ∀ c, Bk g1 c → Bk (G r) c := fun c hc => by
    rcases bk_set hc with hc | hc
    · rw [h1]; exact hc
    · cases hc
  have hbk2 : ∀ c, Bk bodies[i] c → Bk (G r) c := fun c hc => by rw [h1]; exact bk_agg.2 ⟨_, hx0, hai.bk hc⟩
  have hrel : Rel Z { e with rt := rt' } a w G' := by
    refine h.change (fun p => p = r ∨ p = (d, 6000)) rfl rfl rfl (Nat.le_refl _) (fun _ _ _ => rfl) (fun p y hp hn => ?_) (fun q y c hq' hl' _ hb => ?_) (fun q q' y y' c hn hn' _ _ _ _ hb hb' => ?_) (fun p y hlp => ?_) (fun hc q y hn hl' => ?_)
    · have e1 : p ≠ r := fun e0 => hn (.inl e0)
      have e2 : p ≠ (d, 6000) := fun e0 => hn (.inr e0)
      rw [hL, if_neg e2, if_neg e1] at hp
      exact ⟨hp, hG3 p e1 e2, fun _ _ _ => rfl⟩
    · refine .inl ⟨r, _, hl, rfl, ?_, fun _ _ => .inl rfl⟩
      rcases hq' with rfl | rfl
      · rw [hG1] at hb; exact hbk1 c hb
      · rw [hG2] at hb; exact hbk2 c hb
    · have key : Bk g1 c → Bk bodies[i] c → False := fun hb1 hb2 => by
        obtain ⟨u, hu, hub⟩ := bk_agg.1 hb1
        obtain ⟨k, hk, hku⟩ := List.mem_iff_getElem.1 hu
        have hku' : (outer :: bodies.set i (.slice none 0 0))[k]? = some u := by rw [List.getElem?_eq_getElem hk, hku]
        cases k with
        | zero =>
          simp at hku'
          subst hku'
          have := h5 0 (i + 1) _ _ c (by simp) (by simp only [List.getElem?_cons_succ]; exact hbi) hub (hai.bk hb2)
          omega
        | succ k =>
          simp only [List.getElem?_cons_succ, List.getElem?_set] at hku'
          split at hku'
          · cases hku'; cases hub
          · rename_i e0
            have := h5 (k + 1) (i + 1) _ _ c (by simpa using hku') (by simp only [List.getElem?_cons_succ]; exact hbi) hub (hai.bk hb2)
            omega
      rcases hn with rfl | rfl <;> rcases hn' with rfl | rfl
      · rfl
      · rw [hG1] at hb; rw [hG2] at hb'; exact (key hb hb').elim
      · rw [hG2] at hb; rw [hG1] at hb'; exact (key hb' hb).elim
      · rfl
    · by_cases e2 : p = (d, 6000)
      · subst e2; rw [hq] at hlp; cases hlp
      · by_cases e1 : p = r
        · subst e1
          rw [hl] at hlp; cases hlp
          refine ⟨_, hLr, .map ⟨_, _, _, rfl, by simp⟩, fun _ => .inr ⟨⟨_, rfl⟩, ?_⟩⟩
          rw [hG1, hhd]
          simp only [g1]
          rw [hdOf_agg]; exact hhd'.symm
        · exact ⟨y, by rw [hL, if_neg e2, if_neg e1]; exact hlp, .same y, fun _ => .inl (hG3 p e1 e2)⟩
    · rcases hn with rfl | rfl
      · rw [hLr] at hl'; cases hl'
        refine ⟨?_, ?_⟩
        · show RrOk w D (xs.set i []) (some i) (G' q)
          rw [hG1]
          exact ⟨outer, bodies.set i (.slice none 0 0), rfl, by simp [h2], OutOk.hole (h := none) (.inr ⟨b, off, cap', cells, ty, by rw [← hhd', kn, kc], k2, k3, k4, k5, k6⟩) (fun _ _ _ => by simp) (fun _ _ _ _ _ _ _ _ hc => absurd rfl hc), Bodies.set h4 h2 (.inl ⟨rfl, _, rfl⟩), BApart.set h5 fun c hc => by cases hc⟩
        · refine ⟨by simp; omega, ?_⟩
          unfold RowRel
          rw [hLq]
          refine ⟨⟨b, off, n, cap, cells, ty, ?_, k4, by rw [hG2]; exact hcell⟩, trivial⟩
          rw [hG1]; simp only [g1]; rw [hdOf_agg]; exact hhd'.symm
      · rw [hLq] at hl'; cases hl'
        show ArrOk w _ D _ (G' (d, 6000))
        rw [hG2]
        exact ArrOk.blk hai (fun _ hf => hf.elim) fun _ _ => rfl
  refine Sound1.made hd (e' := { e with rt := rt' }) (u := bodies[i]) rfl (by simp [execOp, ho, hpx, hrun]) hrel ?_
  show RowRel rt' (d, 6000) _ _
  unfold RowRel
  rw [hLq]
  refine ⟨hG2.symm, ?_⟩
  rcases hai with ⟨_, _, hai⟩ | ⟨_, _, _, _, _, hai, _⟩ <;> rw [hai] <;> rfl
def outQ (rt : Roots) : Option Rid → Roots
  | none => rt
  | some q => setR rt q none
/-- A row, put into a row of rows. -/
theorem sound_put_core (h : Rel Z e a w G) (hT : TTok P tt) {o : Oper} {t : Nat} {x y : Operand} (ho : o.op = .store t x y) {ti : TI} {r : Rid} {j : Nat} (hd : o.dst = none) (hti : tt.get t = some ti) (hsz : ti.size = 1)
    (hv : VRel Z e G w (.one (.melt r j)) (a.eval x)) {D : Kd} {xs : List (List D.den)} {hole : Option (Nat × Rid)} (hl : look e.rt r = some (some (.map (.rr D xs hole)))) (hh : holeAt hole j = true)
    {l : List D.den} {gy : Value} (hy : a.eval y = gy) (hgy : ArrOk w (fun _ => False) D l gy) {Q : Option Rid}
    (hQ : ∀ c, blkOf gy = some c → ∃ q, Q = some q ∧ Bk (G q) c) (hQ2 : ∀ q, Q = some q → ∃ (d0 : Kd) (xs0 : List d0.den), look e.rt q = some (some (.arr d0 xs0)))
    (hus : e.ups us = { e with rt := setR (outQ e.rt Q) r (some (.map (.rr D (xs.set j l) none))) }) : Sound1 P o us Z e a w := by
  have hm : MeltRel e.rt G r j (a.eval x) := hv
  unfold MeltRel at hm
  rw [hl] at hm
  obtain ⟨_, hi, b, off, n, cap, hhd, hpx⟩ := hm
  obtain ⟨⟨outer, bodies, h1, h2, h3, h4, h5⟩⟩ := (show RrOk w D xs _ (G r) from (h.mem.roots r _ hl).1)
  have hhd' : hdOf (G r) = outer := by rw [h1, hdOf_agg]
  have hlt : j < bodies.length := by omega
  rw [hhd] at hhd'
  rcases h3 with ⟨k1, _⟩ | ⟨b', off', cap', cells, ty, k1, k2, k3, k4, k5, k6⟩
  · rw [k1] at hlt; simp at hlt
  rw [← hhd'] at k1
  injection k1 with ka kn kc
  injection ka with ka
  injection ka with kb ko
  subst kb; subst ko
  have hcl : gy.cells = #[gy] := by rcases hgy with ⟨_, _, hgy⟩ | ⟨_, _, _, _, _, hgy, _⟩ <;> rw [hgy] <;> rfl
  have hone : gy.oneCell' = true := by rcases hgy with ⟨_, _, hgy⟩ | ⟨_, _, _, _, _, hgy, _⟩ <;> rw [hgy] <;> rfl
  have hcs : cells.toList.length = cells.size := by simp
  have hfit : off + j + [gy].length ≤ cells.toList.length := by simp only [List.length_singleton]; omega
  have hrun := store_run (P := P) (w := w) (fun w => (hT _ _ hti).runSize w) k4 (o := off + j) (v := gy) (by rw [hcl, hsz]; rfl) (by rw [hsz]; omega) (by rw [hcl]; intro v hv; simp at hv; rw [hv]; exact hone)
  rw [hcl] at hrun
  have hbr : Bk (G r) b := by rw [h1]; exact bk_part (List.mem_cons_self ..) (by rw [← hhd']; simp [blkOf]; omega)
  have hrq : ∀ q, Q = some q → q ≠ r := fun q hq e0 => by
    obtain ⟨d0, xs0, h6⟩ := hQ2 q hq
    rw [e0, hl] at h6; cases h6
  let g1 : Value := .agg (outer :: bodies.set j gy).toArray
  let rt' := setR (outQ e.rt Q) r (some (.map (.rr D (xs.set j l) none)))
  have hL : ∀ p, look rt' p = if p = r then some (some (.map (.rr D (xs.set j l) none))) else if Q = some p then some none else look e.rt p := fun p => by
    simp only [rt']
    rw [look_setR]
    by_cases e1 : p = r
    · rw [if_pos e1, if_pos e1]
    · rw [if_neg e1, if_neg e1]
      cases Q with
      | none => rw [if_neg (by simp)]; rfl
      | some q =>
        unfold outQ
        rw [look_setR]
        by_cases e2 : p = q
        · rw [if_pos e2, if_pos (by rw [e2])]
        · rw [if_neg e2, if_neg (fun e0 => e2 (Option.some.inj e0).symm)]
  have hLr : look rt' r = some (some (.map (.rr D (xs.set j l) none))) := by rw [hL, if_pos rfl]
  have hother : ∀ c, c ≠ b → (w.setRow b (splice cells.toList (off + j) [gy]).toArray).heap[c]? = w.heap[c]? := fun c hc => setRow_other w b c _ hc
  have hap : BApart (outer :: bodies.set j gy) := BApart.set h5 fun c hc u hu hub => by
    obtain ⟨q, hq, hbq⟩ := hQ c hc
    obtain ⟨d0, xs0, h6⟩ := hQ2 q hq
    exact hrq q hq (h.mem.sep q r _ _ c h6 hl rfl rfl hbq (by rw [h1]; exact bk_agg.2 ⟨u, hu, hub⟩))
  have hbo := Bodies.set h4 h2 (i := j) hgy
  refine Sound1.skip hd (G' := setG G r g1) (w' := w.setRow b (splice cells.toList (off + j) [gy]).toArray) (by simp [execOp, ho, hpx, hy, hrun]) ?_
  rw [hus]
  refine h.change (fun p => p = r) rfl rfl rfl (by simp [World.setRow]) (fun c _ hc => hother c fun e0 => hc ⟨r, _, hl, rfl, by rw [e0]; exact hbr⟩) (fun p z hlp hn => ?_) (fun q z c hq' hl' _ hb => ?_) (fun q q' _ _ c hn hn' _ _ _ _ _ _ => hn.trans hn'.symm) (fun p z hlp => ?_) (fun hc q z hn hl' => ?_)
  · rw [hL, if_neg hn] at hlp
    by_cases e1 : Q = some p
    · rw [if_pos e1] at hlp; cases hlp
    · rw [if_neg e1] at hlp
      exact ⟨hlp, setG_other hn, fun hown c hc => hother c fun e0 => hn (h.mem.sep p r _ _ c hlp hl hown rfl hc (by rw [e0]; exact hbr))⟩
  · subst hq'
    rw [setG_same] at hb
    rcases bk_set hb with hb | hb
    · exact .inl ⟨q, _, hl, rfl, by rw [h1]; exact hb, fun _ _ => rfl⟩
    · obtain ⟨q0, hq0, hbq⟩ := hQ c hb
      obtain ⟨d0, xs0, h6⟩ := hQ2 q0 hq0
      exact .inl ⟨q0, _, h6, rfl, hbq, fun z' hz' => by rw [hL, if_neg (hrq q0 hq0), if_pos hq0] at hz'; cases hz'⟩
  · by_cases e1 : p = r
    · subst e1
      rw [hl] at hlp; cases hlp
      refine ⟨_, hLr, .map ⟨_, _, _, rfl, by simp⟩, fun _ => .inr ⟨⟨_, rfl⟩, ?_⟩⟩
      rw [setG_same, hhd]
      simp only [g1]
      rw [hdOf_agg]; exact hhd'.symm
    · by_cases e2 : Q = some p
      · obtain ⟨d0, xs0, h6⟩ := hQ2 p e2
        rw [h6] at hlp; cases hlp
        exact ⟨none, by rw [hL, if_neg e1, if_pos e2], .gone _, fun hc => absurd rfl hc⟩
      · exact ⟨z, by rw [hL, if_neg e1, if_neg e2]; exact hlp, .same z, fun _ => .inl (setG_other e1)⟩
  · subst hn
    rw [hLr] at hl'; cases hl'
    refine ⟨?_, trivial⟩
    show RrOk _ D (xs.set j l) none (setG G q g1 q)
    rw [setG_same]
    refine ⟨outer, bodies.set j gy, rfl, by simp [h2], .inr ⟨b, off, cap', _, ty, ?_, ?_, k3, setRow_heap w b cells _ ty _ k4, ?_, fun i v hiv _ => ?_⟩, fun i x0 v hx0 hv0 => ?_, hap⟩
    · rw [List.length_set, ← hhd', kn, kc]
    · rw [List.length_set]; exact k2
    · rw [List.size_toArray, splice_length hfit]; omega
    · have get : ∀ p : Nat, (splice cells.toList (off + j) [gy]).toArray[p]? = (splice cells.toList (off + j) [gy])[p]? := fun p => by simp
      rw [get, splice_get hfit]
      rw [List.getElem?_set] at hiv
      by_cases e1 : j = i
      · subst e1
        rw [if_pos rfl, if_pos hlt] at hiv
        rw [if_neg (by omega), if_pos (by simp)]
        simpa using hiv
      · rw [if_neg e1] at hiv
        have hne : hole.map (·.1) ≠ some i := fun e0 => by
          cases hole with
          | none => cases e0
          | some p =>
            have := Nat.eq_of_beq_eq_true (show Nat.beq p.1 j = true from hh)
            have h9 : p.1 = i := Option.some.inj e0
            omega
        have h8 := k6 i v hiv hne
        simp only [List.length_singleton]
        by_cases e2 : off + i < off + j
        · rw [if_pos e2]; simpa using h8
        · rw [if_neg e2, if_neg (by omega)]; simpa using h8
    · have h9 := hbo i x0 v hx0 hv0
      refine ArrOk.blk h9 (fun _ hf => hf.elim) fun c hc => hother c fun e0 => ?_
      have := hap 0 (i + 1) outer v b (by simp) (by simp only [List.getElem?_cons_succ]; exact hv0) (by rw [← hhd']; simp [blkOf]; omega) (by rw [← e0]; exact h9.bk hc)
      omega
theorem sound_put (h : Rel Z e a w G) (hT : TTok P tt) {o : Oper} {t : Nat} {x y : Operand} (ho : o.op = .store t x y) {ti : TI} {r : Rid} {j : Nat} {v : AV} (hd : o.dst = none) (hti : tt.get t = some ti) (hsz : ti.size = 1)
    (hv : VRel Z e G w (.one (.melt r j)) (a.eval x)) (hv2 : VRel Z e G w v (a.eval y)) (hp : (rrPut r j v).run C e s = some (us, s')) : Sound1 P o us Z e a w := by
  unfold rrPut at hp
  obtain ⟨D, xs, hole, s1, hl, hp⟩ := run_rrOf hp
  obtain ⟨hh, hp1⟩ := run_chk hp
  clear hp
  split at hp1
  · have hp := hp1
    obtain rfl : us = _ := run_ret hp
    have hx : a.eval y = .slice none 0 0 := hv2
    exact sound_put_core h hT ho hd hti hsz hv hl hh hx (.inl ⟨rfl, none, rfl⟩) (Q := none) (fun c hc => by cases hc) (fun q hq => by cases hq) rfl
  · rename_i q
    have hp := hp1
    clear hp1
    simp only [Pg.run] at hp
    split at hp
    case h_2 => exact run_fail hp
    rename_i d' ys hlq
    split at hp
    case h_2 => exact run_fail hp
    rename_i l hcast
    obtain ⟨hab, hy⟩ := castL_eq hcast
    subst hab
    subst hy
    obtain ⟨hf, hp⟩ := run_bif_fail hp
    obtain rfl : us = _ := run_ret hp
    have hx : a.eval y = G q := RowRel.row (show RowRel e.rt q _ _ from hv2) (.inl ⟨rfl, hlq⟩)
    have hq0 : ArrOk w _ d' ys (G q) := h.mem.roots q _ hlq
    exact sound_put_core h hT ho hd hti hsz hv hl hh hx (ArrOk.flat hf hq0) (Q := some q) (fun c hc => ⟨q, rfl, .inl hc⟩) (fun q' hq' => by cases hq'; exact ⟨_, _, hlq⟩) rfl
  · exact run_fail hp1
theorem out_first {o : Value} {l : List Value} (h : OutOk w none o l) : ∃ ad c, o = .slice ad l.length c ∧ l.length ≤ c ∧ ∀ w' : World, w'.heap = w.heap → (Builtin.firstCells 1 l.length o).run P w' = .ok l.toArray w' := by
  rcases h with ⟨rfl, a, rfl⟩ | ⟨b, off, cap, cells, t, rfl, k2, k3, k4, k5, k6⟩
  · exact ⟨a, 0, rfl, Nat.le_refl _, fun w' _ => by cases a <;> simp [Builtin.firstCells, loadCells, loadCellsFrom]⟩
  · exact ⟨_, cap, rfl, k2, fun w' hw => firstCells_some 1 l.length b off _ _ (hw ▸ k4) (by simp) fun q v hq => k6 q v hq (by simp)⟩
/-- The rows of one, behind those of another. -/
theorem append_outer {t u ty : TypeId} (ht : P.underlying t = some (.slice u)) {i : TypeInfo} {z : Value} (hi : P.info? u = some i) (hz : i.zero = some z) (hzs : z.cells.size = 1) (hs : i.size = 1) (hby : i.bytes ≤ 128) {o1 o2 : Value} {b1 b2 : List Value}
    (h1 : OutOk w none o1 b1) (h2 : OutOk w none o2 b2) (hv : ∀ v ∈ b2, v.oneCell' = true) (hlim : b1.length + b2.length ≤ LIM) :
    ∃ w1 g, (Builtin.append_ #[t, t] ty #[o1, o2]).run P w = .ok g w1 ∧ w1.os = w.os ∧ w1.tape = w.tape ∧ w1.output = w.output ∧ w.heap.size ≤ w1.heap.size ∧ (∀ b, b < w.heap.size → blkOf o1 ≠ some b → w1.heap[b]? = w.heap[b]?) ∧
      OutOk w1 none g (b1 ++ b2) ∧ (∀ c, blkOf g = some c → blkOf o1 = some c ∨ w.heap.size ≤ c) ∧ g.oneCell' = true := by
  obtain ⟨a1, c1, e1, k1, f1⟩ := out_first (P := P) h1
  obtain ⟨a2, c2, e2, k2, f2⟩ := out_first (P := P) h2
  have hsize : ∀ w, (sizeOf u).run P w = .ok 1 w := fun w => by simp [sizeOf, typeInfo, hi, hs]
  by_cases hroom : b1.length + b2.length ≤ c1
  · by_cases hm : b2 = []
    · subst hm
      refine ⟨w, o1, ?_, rfl, rfl, rfl, Nat.le_refl _, fun _ _ _ => rfl, by rw [List.append_nil]; exact h1, fun c hc => .inl hc, by rw [e1]; rfl⟩
      rw [e1]
      exact append_zero ht hsize k1 (xa := a2) (c := c2) (by rw [e2]; rfl)
    · have hnl : 0 < b2.length := List.length_pos_iff.2 hm
      rcases h1 with ⟨hn, a, h1⟩ | ⟨b, off, cap, cells, t', h1, m2, m3, m4, m5, m6⟩
      · rw [h1] at e1; injection e1; omega
      · rw [h1] at e1
        injection e1 with ea en ec
        subst ec
        have hfit : off + b1.length * 1 + b2.length ≤ cells.size := by omega
        have hfit' : off + b1.length * 1 + b2.length ≤ cells.toList.length := by simpa using hfit
        have hrun := append_room (P := P) (w := w) (ty := ty) ht hsize m4 (n := b1.length) (cap := cap) e2 (f2 w rfl) hv hroom hfit
        rw [← h1] at hrun
        refine ⟨_, _, hrun, rfl, rfl, rfl, by simp [World.setRow], fun b' _ hb' => setRow_other w b b' _ fun e0 => hb' (by rw [h1, e0]; simp [blkOf]; omega), .inr ⟨b, off, cap, _, t', by rw [List.length_append], by rw [List.length_append]; exact hroom, m3, setRow_heap w b cells _ t' _ m4, ?_, fun j v hj _ => ?_⟩, fun c hc => .inl (by rw [h1]; exact hc), rfl⟩
        · rw [List.size_toArray, splice_length hfit']; simpa using m5
        · have get : ∀ p : Nat, (splice cells.toList (off + b1.length * 1) b2).toArray[p]? = (splice cells.toList (off + b1.length * 1) b2)[p]? := fun p => by simp
          rw [get, splice_get hfit']
          by_cases hjl : j < b1.length
          · rw [List.getElem?_append_left hjl] at hj
            rw [if_pos (by omega)]
            simpa using m6 j v hj (by simp)
          · rw [List.getElem?_append_right (by omega)] at hj
            have hlt := (List.getElem?_eq_some_iff.1 hj).1
            rw [if_neg (by omega), if_pos (by omega), show off + j - (off + b1.length * 1) = j - b1.length by omega]
            exact hj
  · have hrun := append_grow (P := P) (w := w) (ty := ty) ht hi hz (ad := a1) (n := b1.length) (cap := c1) (os := b1) (by rw [hs, ← e1]; exact f1 w.drew rfl) (x := o2) e2 (by rw [hs]; exact f2 w.drew rfl) (by omega) hlim hby
    rw [← e1] at hrun
    have hgr : Grown w (w.drew.alloc (.cells ((b1 ++ b2).toArray ++ Builtin.zeroCells z.cells (grownCap w (b1.length + b2.length) c1 u - (b1.length + b2.length))) u)) :=
      ⟨rfl, rfl, rfl, by simp, fun b hb' => heap_alloc_old w.drew _ b hb'⟩
    have hlen : (b1 ++ b2).length = b1.length + b2.length := by simp
    have hge := grownCap_ge w (b1.length + b2.length) c1 u
    refine ⟨_, _, hrun, hgr.os, hgr.tape, hgr.output, hgr.size, fun b hlt _ => hgr.block b hlt, .inr ⟨w.heap.size, 0, grownCap w (b1.length + b2.length) c1 u, _, u, by rw [hlen], by rw [hlen]; exact hge, ⟨by omega, ?_⟩, heap_alloc_new w.drew _, ?_, fun j v hj _ => ?_⟩, fun c hc => .inr ?_, rfl⟩
    · have := grownCap_le_maxLen w (b1.length + b2.length) c1 u (by unfold maxLen; unfold LIM at hlim; omega)
      unfold maxLen at this
      exact this
    · rw [Array.size_append, List.size_toArray, hlen, size_zeroCells, hzs]; omega
    · rw [Nat.zero_add, Array.getElem?_append_left (by simpa using (List.getElem?_eq_some_iff.1 hj).1)]
      simpa using hj
    · simp [blkOf] at hc
      omega
theorem rrElem_spec (w0 : World) (hT : TTok P tt) {t : Nat} {ti : TI} (hti : tt.get t = some ti) (h : rrElem tt ti = true) (hsl : ti.sl = true) :
    P.underlying t = some (.slice ti.elem) ∧ ∃ i z, P.info? ti.elem = some i ∧ i.zero = some z ∧ i.size = 1 ∧ i.bytes ≤ 128 ∧ z.cells = #[.slice none 0 0] := by
  refine ⟨(hT _ _ hti).slice hsl, ?_⟩
  unfold rrElem at h
  split at h
  case h_2 => cases h
  rename_i te hte
  simp only [Bool.and_eq_true] at h
  obtain ⟨h1, h2, h3, h4⟩ := h
  obtain ⟨i, z, dd, hi, _, hs1, hb1, _, hz, _, _, hokz⟩ := (hT _ _ hte).info
  obtain ⟨_, hzc⟩ := hokz h1
  split at h4
  case h_2 => cases h4
  rename_i k hk
  rw [hk] at hzc
  refine ⟨i, z, hi, hz, by rw [hs1]; exact Nat.eq_of_beq_eq_true h2, by rw [hb1]; exact Nat.le_of_ble_eq_true h3, ?_⟩
  cases hzl : z.cells.toList with
  | nil => rw [hzl] at hzc; exact hzc.elim
  | cons v l => cases l with
    | nil =>
      rw [hzl] at hzc
      have : v = .slice none 0 0 := zrel_rel (A := w0) (S := fun _ => True) (rt := []) (G := fun _ => .nilIface) hzc.1
      rw [this] at hzl
      simpa using congrArg List.toArray hzl
    | cons v2 l => rw [hzl] at hzc; exact hzc.2.elim
theorem Bodies.one {d : Kd} {xs : List (List d.den)} {l : List Value} (h : Bodies w d xs l) (hl : l.length = xs.length) : ∀ v ∈ l, v.oneCell' = true := fun v hv => by
  obtain ⟨i, hi, e1⟩ := List.mem_iff_getElem.1 hv
  have := h i xs[i] v (List.getElem?_eq_getElem (by omega)) (by rw [List.getElem?_eq_getElem hi, e1])
  rcases this with ⟨_, _, h⟩ | ⟨_, _, _, _, _, h, _⟩ <;> rw [h] <;> rfl
theorem Bodies.append {d : Kd} {xs ys : List (List d.den)} {l m : List Value} (h : Bodies w d xs l) (hl : l.length = xs.length) (k : Bodies w d ys m) : Bodies w d (xs ++ ys) (l ++ m) := by
  intro i x v hx hv
  by_cases hi : i < xs.length
  · rw [List.getElem?_append_left hi] at hx
    rw [List.getElem?_append_left (by omega)] at hv
    exact h i x v hx hv
  · rw [List.getElem?_append_right (by omega)] at hx
    rw [List.getElem?_append_right (by omega), hl] at hv
    exact k _ x v hx hv
theorem Bodies.blk {d : Kd} {xs : List (List d.den)} {l : List Value} (h : Bodies w d xs l) (hl : l.length = xs.length) (hb : ∀ v ∈ l, ∀ c, blkOf v = some c → w'.heap[c]? = w.heap[c]?) : Bodies w' d xs l := fun i x v hx hv =>
  ArrOk.blk (h i x v hx hv) (fun _ hf => hf.elim) fun c hc => hb v (List.mem_of_getElem? hv) c ((h i x v hx hv).bk hc)
theorem BApart.sub {l m : List Value} (h : BApart l) (f : Nat → Nat) (hf : ∀ i j, f i = f j → i = j) (hm : ∀ i v, m[i]? = some v → blkOf v = none ∨ l[f i]? = some v) : BApart m := fun i j v v' b h1 h2 h3 h4 => by
  rcases hm i v h1 with k | k
  · rw [k] at h3; cases h3
  · rcases hm j v' h2 with k' | k'
    · rw [k'] at h4; cases h4
    · exact hf i j (h (f i) (f j) v v' b k k' h3 h4)
theorem BApart.nodup {l : List Value} (h : ∀ (i j : Nat) v v' b, i < j → l[i]? = some v → l[j]? = some v' → blkOf v = some b → blkOf v' = some b → False) : BApart l := fun i j v v' b h1 h2 h3 h4 => by
  rcases Nat.lt_trichotomy i j with hl | hl | hl
  · exact (h i j v v' b hl h1 h2 h3 h4).elim
  · exact hl
  · exact (h j i v' v b hl h2 h1 h4 h3).elim
/-- One row of rows out of two; the first one may be nothing. -/
theorem sound_rrAppend_core (h : Rel Z e a w G) {o : Oper} {d t : Nat} {ti : TI} (hT : TTok P tt) (hti : tt.get t = some ti) (hsl : ti.sl = true) (hel : rrElem tt ti = true) (hd : o.dst = some d)
    {o1 o2 : Value} (hr : ∀ v w1, (Builtin.append_ #[t, t] o.type #[o1, o2]).run P w = .ok v w1 → (execOp a.eval o).run P w = .ok (.value v) w1)
    {D : Kd} {xs ys : List (List D.den)} {b1 b2 : List Value} (l1 : b1.length = xs.length) (l2 : b2.length = ys.length) (h1 : OutOk w none o1 b1) (h2 : OutOk w none o2 b2) (m1 : Bodies w D xs b1) (m2 : Bodies w D ys b2)
    (a1 : BApart (o1 :: b1)) (a2 : BApart (o2 :: b2)) (hlim : xs.length + ys.length ≤ LIM) (hq : look e.rt (d, 4000) = none)
    {R : Option Rid} {q : Rid} {z : Root} (hlq : look e.rt q = some (some z)) (hoq : z.own = true) (hbq : ∀ u ∈ o2 :: b2, ∀ c, blkOf u = some c → Bk (G q) c)
    (hR : ∀ r, R = some r → r ≠ q ∧ ∃ z, look e.rt r = some (some z) ∧ z.own = true) (hbr : ∀ u ∈ o1 :: b1, ∀ c, blkOf u = some c → ∃ r, R = some r ∧ Bk (G r) c)
    {us : List Up} (hus : e.ups us = ({ e with rt := setR (setR (outQ e.rt R) q none) (d, 4000) (some (.map (.rr D (xs ++ ys) none))) } : Env).up (.tm d (.one (.mp (d, 4000))))) : Sound1 P o us Z e a w := by
  obtain ⟨ht, i, zz, hi, hz, hs, hby, hzc⟩ := rrElem_spec w hT hti hel hsl
  obtain ⟨w1, g, hrun, c1, c2, c3, c4, c5, c6, c7, c8⟩ := append_outer (P := P) (w := w) (ty := o.type) ht hi hz (by rw [hzc]; rfl) hs hby h1 h2 (m2.one l2) (by rw [l1, l2]; exact hlim)
  have hrq : ∀ r, R = some r → r ≠ q := fun r hr => (hR r hr).1
  -- which block is whose
  have own1 : ∀ u ∈ o1 :: b1, ∀ c, blkOf u = some c → c < w.heap.size ∧ Owns e.rt G c := fun u hu c hc => by
    obtain ⟨r, hr, hb⟩ := hbr u hu c hc
    obtain ⟨_, z, k1, k2⟩ := hR r hr
    have : Owns e.rt G c := ⟨r, z, k1, k2, hb⟩
    exact ⟨h.mem.own_lt this, this⟩
  have own2 : ∀ u ∈ o2 :: b2, ∀ c, blkOf u = some c → c < w.heap.size ∧ Owns e.rt G c := fun u hu c hc => by
    have : Owns e.rt G c := ⟨q, z, hlq, hoq, hbq u hu c hc⟩
    exact ⟨h.mem.own_lt this, this⟩
  have cross : ∀ u ∈ o1 :: b1, ∀ v ∈ o2 :: b2, ∀ c, blkOf u = some c → blkOf v = some c → False := fun u hu v hv c hc hc' => by
    obtain ⟨r, hr, hb⟩ := hbr u hu c hc
    obtain ⟨hne, z', k1, k2⟩ := hR r hr
    exact hne (h.mem.sep r q z' z c k1 hlq k2 hoq hb (hbq v hv c hc'))
  have kk1 : ∀ v ∈ b1, ∀ c, blkOf v = some c → w1.heap[c]? = w.heap[c]? := fun v hv c hc => c5 c (own1 v (List.mem_cons_of_mem _ hv) c hc).1 fun e0 => by
    obtain ⟨k, hk, e1⟩ := List.mem_iff_getElem.1 hv
    have := a1 0 (k + 1) o1 v c (by simp) (by simp [List.getElem?_eq_getElem hk, e1]) e0 hc
    omega
  have kk2 : ∀ v ∈ b2, ∀ c, blkOf v = some c → w1.heap[c]? = w.heap[c]? := fun v hv c hc => c5 c (own2 v (List.mem_cons_of_mem _ hv) c hc).1 fun e0 => cross o1 (List.mem_cons_self ..) v (List.mem_cons_of_mem _ hv) c e0 hc
  have hbo : Bodies w1 D (xs ++ ys) (b1 ++ b2) := (m1.blk l1 kk1).append l1 (m2.blk l2 kk2)
  have hap : BApart (g :: (b1 ++ b2)) := by
    have hg : ∀ v ∈ b1 ++ b2, ∀ c, blkOf g = some c → blkOf v = some c → False := fun v hv c hc hc' => by
      rcases List.mem_append.1 hv with hv | hv
      · rcases c7 c hc with k | k
        · obtain ⟨j, hj, e1⟩ := List.mem_iff_getElem.1 hv
          have := a1 0 (j + 1) o1 v c (by simp) (by simp [List.getElem?_eq_getElem hj, e1]) k hc'
          omega
        · exact absurd (own1 v (List.mem_cons_of_mem _ hv) c hc').1 (Nat.not_lt.2 k)
      · rcases c7 c hc with k | k
        · exact cross o1 (List.mem_cons_self ..) v (List.mem_cons_of_mem _ hv) c k hc'
        · exact absurd (own2 v (List.mem_cons_of_mem _ hv) c hc').1 (Nat.not_lt.2 k)
    refine BApart.nodup fun i j v v' c hij hv hv' hc hc' => ?_
    cases j with
    | zero => omega
    | succ j =>
      simp only [List.getElem?_cons_succ] at hv'
      cases i with
      | zero =>
        simp at hv; subst hv
        exact hg v' (List.mem_of_getElem? hv') c hc hc'
      | succ i =>
        simp only [List.getElem?_cons_succ] at hv
        by_cases hi' : i < b1.length
        · rw [List.getElem?_append_left hi'] at hv
          by_cases hj' : j < b1.length
          · rw [List.getElem?_append_left hj'] at hv'
            have := a1 (i + 1) (j + 1) v v' c (by simp only [List.getElem?_cons_succ]; exact hv) (by simp only [List.getElem?_cons_succ]; exact hv') hc hc'
            omega
          · rw [List.getElem?_append_right (by omega)] at hv'
            exact cross v (List.mem_cons_of_mem _ (List.mem_of_getElem? hv)) v' (List.mem_cons_of_mem _ (List.mem_of_getElem? hv')) c hc hc'
        · rw [List.getElem?_append_right (by omega)] at hv hv'
          have := a2 (i - b1.length + 1) (j - b1.length + 1) v v' c (by simp only [List.getElem?_cons_succ]; exact hv) (by simp only [List.getElem?_cons_succ]; exact hv') hc hc'
          omega
  let g1 : Value := .agg (g :: (b1 ++ b2)).toArray
  let rt' := setR (setR (outQ e.rt R) q none) (d, 4000) (some (.map (.rr D (xs ++ ys) none)))
  have hLo : ∀ p, look (outQ e.rt R) p = if R = some p then some none else look e.rt p := fun p => by
    cases R with
    | none => rw [if_neg (by simp)]; rfl
    | some r =>
      unfold outQ
      rw [look_setR]
      by_cases e2 : p = r
      · rw [if_pos e2, if_pos (by rw [e2])]
      · rw [if_neg e2, if_neg (fun e0 => e2 (Option.some.inj e0).symm)]
  have hL : ∀ p, look rt' p = if p = (d, 4000) then some (some (.map (.rr D (xs ++ ys) none))) else if p = q then some none else if R = some p then some none else look e.rt p := fun p => by
    simp only [rt']; rw [look_setR, look_setR, hLo]
  have hLn : look rt' (d, 4000) = some (some (.map (.rr D (xs ++ ys) none))) := by rw [hL, if_pos rfl]
  have hnq : q ≠ (d, 4000) := fun e0 => by rw [e0, hq] at hlq; cases hlq
  have hnr : ∀ r, R = some r → r ≠ (d, 4000) := fun r hr e0 => by obtain ⟨_, z', k1, _⟩ := hR r hr; rw [e0, hq] at k1; cases k1
  have hrel : Rel Z { e with rt := rt' } a w1 (setG G (d, 4000) g1) := by
    refine h.change (fun p => p = (d, 4000)) c1 c2 c3 c4 (fun c hlt hc => c5 c hlt fun e0 => hc (own1 o1 (List.mem_cons_self ..) c e0).2) (fun p y hlp hn => ?_) (fun p y c hp hl' _ hb => ?_) (fun p p' _ _ c hn hn' _ _ _ _ _ _ => hn.trans hn'.symm) (fun p y hlp => ?_) (fun hc p y hn hl' => ?_)
    · rw [hL, if_neg hn] at hlp
      by_cases e1 : p = q
      · rw [if_pos e1] at hlp; cases hlp
      · rw [if_neg e1] at hlp
        by_cases e2 : R = some p
        · rw [if_pos e2] at hlp; cases hlp
        · rw [if_neg e2] at hlp
          refine ⟨hlp, setG_other hn, fun hown c hc => c5 c (h.mem.own_lt ⟨p, y, hlp, hown, hc⟩) fun e0 => ?_⟩
          obtain ⟨r, hr, hb⟩ := hbr o1 (List.mem_cons_self ..) c e0
          obtain ⟨_, z', k1, k2⟩ := hR r hr
          exact e2 (by rw [hr, h.mem.sep r p z' y c k1 hlp k2 hown hb hc])
    · subst hp
      rw [setG_same] at hb
      obtain ⟨u, hu, hub⟩ := bk_agg.1 hb
      have f1 : ∀ v ∈ o1 :: b1, blkOf v = some c → ∃ p z, look e.rt p = some (some z) ∧ z.own = true ∧ Bk (G p) c ∧ ∀ z', look rt' p = some (some z') → p = (d, 4000) := fun v hv hc => by
        obtain ⟨r, hr, hb⟩ := hbr v hv c hc
        obtain ⟨hne, z', k1, k2⟩ := hR r hr
        exact ⟨r, z', k1, k2, hb, fun z2 hz2 => by rw [hL, if_neg (hnr r hr), if_neg hne, if_pos hr] at hz2; cases hz2⟩
      rcases List.mem_cons.1 hu with rfl | hu
      · rcases c7 c hub with k | k
        · exact .inl (f1 o1 (List.mem_cons_self ..) k)
        · exact .inr k
      · rcases List.mem_append.1 hu with hu | hu
        · exact .inl (f1 u (List.mem_cons_of_mem _ hu) hub)
        · exact .inl ⟨q, z, hlq, hoq, hbq u (List.mem_cons_of_mem _ hu) c hub, fun z2 hz2 => by rw [hL, if_neg hnq, if_pos rfl] at hz2; cases hz2⟩
    · by_cases e0 : p = (d, 4000)
      · subst e0; rw [hq] at hlp; cases hlp
      · by_cases e1 : p = q
        · subst e1
          rw [hlq] at hlp; cases hlp
          exact ⟨none, by rw [hL, if_neg e0, if_pos rfl], .gone _, fun hc => absurd rfl hc⟩
        · by_cases e2 : R = some p
          · obtain ⟨_, z', k1, k2⟩ := hR p e2
            rw [k1] at hlp; cases hlp
            exact ⟨none, by rw [hL, if_neg e0, if_neg e1, if_pos e2], .gone _, fun hc => absurd rfl hc⟩
          · exact ⟨y, by rw [hL, if_neg e0, if_neg e1, if_neg e2]; exact hlp, .same y, fun _ => .inl (setG_other e0)⟩
    · subst hn
      rw [hLn] at hl'; cases hl'
      refine ⟨?_, trivial⟩
      show RrOk _ D _ none (setG G (d, 4000) g1 (d, 4000))
      rw [setG_same]
      exact ⟨g, b1 ++ b2, rfl, by simp [l1, l2], c6, hbo, hap⟩
  refine Sound1.made hd (e' := { e with rt := rt' }) (u := g) hus (hr _ _ hrun) hrel ?_
  show MapRel rt' (d, 4000) _ _
  unfold MapRel
  rw [hLn]
  exact ⟨by rw [setG_same]; simp only [g1]; rw [hdOf_agg], c8⟩
theorem castR_eq {a b : Kd} {x : List (List a.den)} {y : List (List b.den)} (h : castD (fun k => List (List k.den)) a b x = some y) : ∃ e : a = b, e ▸ x = y := by
  unfold castD at h
  split at h
  · rename_i hb
    exact ⟨Kd.eq_of_beq hb, Option.some.inj h⟩
  · cases h
theorem sound_rrAppend (h : Rel Z e a w G) (hT : TTok P tt) {o : Oper} {d t : Nat} {sv xv : AV} {su xu : Value} (hd : o.dst = some d) (hsv : VRel Z e G w sv su) (hxv : VRel Z e G w xv xu)
    (hp : (rrAppend tt d t sv xv).run C e s = some (us, s')) (hr : ∀ v w1, (Builtin.append_ #[t, t] o.type #[su, xu]).run P w = .ok v w1 → (execOp a.eval o).run P w = .ok (.value v) w1) : Sound1 P o us Z e a w := by
  unfold rrAppend at hp
  split at hp
  case h_2 => exact run_fail hp
  rename_i ti hti
  obtain ⟨hc, hp9⟩ := run_bif_fail hp
  clear hp
  have hp := hp9
  clear hp9
  simp only [Bool.and_eq_true] at hc
  obtain ⟨hsl, hel⟩ := hc
  split at hp
  case h_2 => exact run_fail hp
  rename_i q
  obtain ⟨D, ys, hole, s1, hl, hp9⟩ := run_rrOf hp
  clear hp
  have hp := hp9
  clear hp9
  split at hp
  · exact run_fail hp
  obtain ⟨⟨o2, b2, g2, l2, h2, m2, a2⟩⟩ := (show RrOk w D ys none (G q) from (h.mem.roots q _ hl).1)
  have hxu : xu = o2 := by
    have : xu = hdOf (G q) := MapRel.hd (show MapRel e.rt q _ _ from hxv) hl
    rw [this, g2, hdOf_agg]
  subst hxu
  have hbq : ∀ u ∈ xu :: b2, ∀ c, blkOf u = some c → Bk (G q) c := fun u hu c hc => by rw [g2]; exact bk_agg.2 ⟨u, hu, hc⟩
  split at hp
  · obtain ⟨hlim, hp⟩ := run_chk hp
    obtain ⟨hq, rfl⟩ := run_newRow hp
    have hx : su = .slice none 0 0 := hsv
    have hlim' := of_decide_eq_true hlim
    exact sound_rrAppend_core h (D := D) (xs := []) (ys := ys) (b1 := []) hT hti hsl hel hd hr rfl l2 (.inl ⟨rfl, none, hx⟩) h2 (fun i x v hx => by simp at hx) m2 (fun i j v v' c k1 k2 k3 => by
      cases i with
      | zero => simp at k1; subst k1; rw [hx] at k3; cases k3
      | succ i => simp at k1) a2 (by simpa using hlim') hq (R := none) hl rfl hbq (fun r hr => by cases hr) (fun u hu c hc => by simp at hu; subst hu; rw [hx] at hc; cases hc) rfl
  · rename_i r
    obtain ⟨D', xs, hole', s2, hl', hp9⟩ := run_rrOf hp
    clear hp
    have hp := hp9
    clear hp9
    split at hp
    · exact run_fail hp
    rcases run_bif hp with ⟨_, hp⟩ | ⟨hrq, hp⟩
    · exact run_fail hp
    split at hp
    case h_2 => exact run_fail hp
    rename_i l hcast
    obtain ⟨hab, hy⟩ := castR_eq hcast
    subst hab
    subst hy
    obtain ⟨hlim, hp9⟩ := run_chk hp
    clear hp
    have hp := hp9
    clear hp9
    obtain ⟨hq, rfl⟩ := run_newRow hp
    obtain ⟨⟨o1, b1, g1, l1, h1, m1, a1⟩⟩ := (show RrOk w D' xs none (G r) from (h.mem.roots r _ hl').1)
    have hsu : su = o1 := by
      have : su = hdOf (G r) := MapRel.hd (show MapRel e.rt r _ _ from hsv) hl'
      rw [this, g1, hdOf_agg]
    subst hsu
    have hne : r ≠ q := fun e0 => by rw [e0, Rid.beq_refl] at hrq; cases hrq
    exact sound_rrAppend_core h hT hti hsl hel hd hr l1 l2 h1 h2 m1 m2 a1 a2 (of_decide_eq_true hlim) hq (R := some r) hl rfl hbq (fun r' hr' => by cases hr'; exact ⟨hne, _, hl', rfl⟩) (fun u hu c hc => ⟨r, rfl, by rw [g1]; exact bk_agg.2 ⟨u, hu, hc⟩⟩) rfl
  · exact run_fail hp
theorem OutOk.fresh {b cap : Nat} {cells : Array Value} {ty : TypeId} {l : List Value} (hb : w.heap[b]? = some (.cells cells ty (0, 0))) (hl : l.length ≤ cap) (hc : cap ≤ cells.size) (hm : cap ≤ 9223372036854775807) (hv : ∀ (i : Nat) v, l[i]? = some v → cells[i]? = some v) :
    OutOk w none (.slice (some ⟨b, 0, none⟩) l.length cap) l := by
  by_cases h0 : cap = 0
  · subst h0
    have : l = [] := List.eq_nil_of_length_eq_zero (by omega)
    subst this
    exact .inl ⟨rfl, _, rfl⟩
  · exact .inr ⟨b, 0, cap, cells, ty, rfl, hl, ⟨by omega, hm⟩, hb, by omega, fun i v hi _ => by rw [Nat.zero_add]; exact hv i v hi⟩
/-- A row of one row. -/
theorem sound_rrBuild (h : Rel Z e a w G) (hT : TTok P tt) {o : Oper} {d t : Nat} {x : Operand} {ti : TI} {v : AV} (ho : o.op = .buildSlice t 1 #[(0, x)]) (hd : o.dst = some d) (hti : tt.get t = some ti) (hv : VRel Z e G w v (a.eval x))
    (hp : (rrBuild tt d ti v).run C e s = some (us, s')) : Sound1 P o us Z e a w := by
  unfold rrBuild at hp
  obtain ⟨hc, hp1⟩ := run_bif_fail hp
  clear hp
  simp only [Bool.and_eq_true] at hc
  obtain ⟨hsl, hel⟩ := hc
  split at hp1
  case h_2 => exact run_fail hp1
  rename_i q
  simp only [Pg.run] at hp1
  split at hp1
  case h_2 => exact run_fail hp1
  rename_i D ys hlq
  obtain ⟨hf, hp2⟩ := run_bif_fail hp1
  clear hp1
  obtain ⟨hq, rfl⟩ := run_newRow hp2
  have hx : a.eval x = G q := RowRel.row (show RowRel e.rt q _ _ from hv) (.inl ⟨rfl, hlq⟩)
  have hq0 : ArrOk w _ D ys (G q) := h.mem.roots q _ hlq
  obtain ⟨ht, i, z, hi, hz, hs, hby, hzc⟩ := rrElem_spec w hT hti hel hsl
  have hsize : ∀ w, (sizeOf ti.elem).run P w = .ok 1 w := fun w => by simp [sizeOf, typeInfo, hi, hs]
  have hzv : (zeroValue ti.elem).run P w = .ok z w := by simp [zeroValue, typeInfo, hi, hz]
  have hcl : (a.eval x).cells = #[a.eval x] := by rw [hx]; rcases hq0 with ⟨_, _, hq0⟩ | ⟨_, _, _, _, _, hq0, _⟩ <;> rw [hq0] <;> rfl
  obtain ⟨cells, hfill, hcsz, _, hcells⟩ := fill_row (size := 1) (us := [a.eval x]) (i := 0) (cells := (Array.range (1 * 1)).map (z.cells[· % z.cells.size]!)) (fun u hu => by simp at hu; rw [hu, hcl]; rfl) (by simp)
  have hcsz' : cells.size = 1 := by rw [hcsz]; simp
  have hc0 : cells[0]? = some (G q) := by
    have := hcells 0 (a.eval x) (by simp) 0 (a.eval x) (by rw [hcl]; simp)
    rw [hx] at this
    simpa using this
  have hrun : (Instr.buildSlice t 1 #[(0, a.eval x)]).run P w = .ok (.slice (some ⟨w.heap.size, 0, none⟩) 1 1) { w with heap := w.heap.push (.cells cells ti.elem) } := by
    simp only [Instr.buildSlice, Sem.run_bind, underlying, run_program, Result.andThen_ok, ht, Sem.run_pure, hsize]
    rw [if_neg (by omega), if_neg (by omega)]
    simp only [Sem.run_bind, hzv, Result.andThen_ok, Sem.run_pure]
    simp only [List.length_singleton, List.range'_one, List.zip_cons_cons, List.zip_nil_right] at hfill
    rw [hfill]
    simp [Go.newRow]
  have hgr := Grown.alloc w (.cells cells ti.elem)
  let g1 : Value := .agg (.slice (some ⟨w.heap.size, 0, none⟩) 1 1 :: [G q]).toArray
  have hbg : ∀ b, Bk g1 b → Bk (G q) b ∨ w.heap.size ≤ b := fun b hb => by
    obtain ⟨u, hu, hub⟩ := bk_agg.1 hb
    rcases List.mem_cons.1 hu with rfl | hu
    · right; simp [blkOf] at hub; omega
    · left; simp at hu; rw [hu] at hub; exact .inl hub
  have hne : q ≠ (d, 4000) := fun e0 => by rw [e0, hq] at hlq; cases hlq
  have hlt : ∀ b, blkOf (G q) = some b → b < w.heap.size := fun b hb => h.mem.own_lt ⟨q, _, hlq, rfl, .inl hb⟩
  have hrel := h.replace (q := (d, 4000)) (x := .map (.rr D [ys] none)) (g := g1) (w' := { w with heap := w.heap.push (.cells cells ti.elem) }) hlq hq rfl rfl rfl hgr.size (fun b hlt _ => hgr.block b hlt) hbg (by
    refine ⟨?_, trivial⟩
    show RrOk _ D [ys] none (setG G (d, 4000) g1 (d, 4000))
    rw [setG_same]
    refine ⟨_, [G q], rfl, rfl, ?_, fun i x v hx hv => ?_, BApart.nodup fun i j v v' b hij h1 h2 h3 h4 => ?_⟩
    · exact OutOk.fresh (l := [G q]) (b := w.heap.size) (cap := 1) (cells := cells) (ty := ti.elem) (by simp) (Nat.le_refl _) (by omega) (by omega) (fun i v hi => by
        cases i with
        | zero => cases hi; exact hc0
        | succ i => simp at hi)
    · cases i with
      | zero =>
        cases hx; cases hv
        exact ArrOk.blk (ArrOk.flat (S' := fun _ => False) hf hq0) (fun _ hf => hf.elim) fun c hc => hgr.block c (hlt c (hq0.bk hc))
      | succ i => simp at hx
    · cases j with
      | zero => omega
      | succ j => cases j with
        | zero =>
          cases i with
          | zero =>
            cases h1; cases h2
            have := hlt b h4
            simp [blkOf] at h3
            omega
          | succ i => omega
        | succ j => simp at h2)
  refine Sound1.made hd (e' := { e with rt := setR (setR e.rt q none) (d, 4000) (some (.map (.rr D [ys] none))) }) (u := .slice (some ⟨w.heap.size, 0, none⟩) 1 1) rfl ?_ hrel ?_
  · simp only [execOp, ho]
    simp only [List.map_toArray, List.map_cons, List.map_nil, Sem.run_bind, hrun, Result.andThen_ok, Sem.run_pure]
  · show MapRel (setR (setR e.rt q none) (d, 4000) _) (d, 4000) _ _
    unfold MapRel
    rw [look_setR, if_pos rfl]
    exact ⟨by rw [setG_same]; simp only [g1]; rw [hdOf_agg], rfl⟩
/-- Rows that are nothing. -/
theorem sound_rrMake (h : Rel Z e a w G) (hT : TTok P tt) {o : Oper} {d t : Nat} {n c : Operand} {ti te : TI} {k : Kd} (ho : o.op = .makeSlice t n c) (hd : o.dst = some d) (hti : tt.get t = some ti) (hte : tt.get ti.elem = some te) (hkd : te.kd = .sl k)
    (hp : (bif te.ok && (ti.sl && (Nat.beq te.size 1 && Nat.ble te.bytes 128)) then opv n fun n => opv c fun c => intV n fun _ n => intV c fun _ c => .chk (decide (0 ≤ n)) (.chk (decide (n ≤ c)) (.chk (decide (c ≤ LIM)) (newRow d 4000 (.map (.rr k (List.replicate n.toNat []) none)) (.mp (d, 4000)) []))) else .fail).run C e s = some (us, s')) : Sound1 P o us Z e a w := by
  obtain ⟨hck, hp1⟩ := run_bif_fail hp
  clear hp
  simp only [Bool.and_eq_true] at hck
  obtain ⟨hok, hsl, hsz, hby⟩ := hck
  have hel : rrElem tt ti = true := by unfold rrElem; rw [hte]; simp [hok, hsz, hby, hkd]
  obtain ⟨nv, s1, hnv, hp2⟩ := run_opv h hp1
  obtain ⟨cv, s2, hcv, hp3⟩ := run_opv h hp2
  obtain ⟨kn, l, rfl, hp4⟩ := run_intV hp3
  obtain ⟨kc, m, rfl, hp5⟩ := run_intV hp4
  obtain ⟨h0, hp6⟩ := run_chk hp5
  obtain ⟨h1, hp7⟩ := run_chk hp6
  obtain ⟨h2, hp8⟩ := run_chk hp7
  have h0' := of_decide_eq_true h0
  have h1' := of_decide_eq_true h1
  have h2' : m ≤ 1099511627776 := of_decide_eq_true h2
  obtain ⟨hq, rfl⟩ := run_newRow hp8
  obtain ⟨ht, i, z, hi, hz, hs, hby', hzc⟩ := rrElem_spec w hT hti hel hsl
  have hbytes : (i.bytes : Int) * m ≤ 281474976710656 := by
    have h3 : (i.bytes : Int) ≤ 128 := by omega
    have h4 : (i.bytes : Int) * m ≤ 128 * m := Int.mul_le_mul_of_nonneg_right h3 (by omega)
    omega
  have hrun := run_make (P := P) w t ti.elem i z ht hi hz kn kc l m h0' h1' hbytes (by omega)
  have hx := atom_int hnv
  have hy := atom_int hcv
  have hgr : Grown w (w.alloc (.cells (madeCells z.cells (m.toNat * i.size)) ti.elem)) := ⟨rfl, rfl, rfl, by simp, fun b hb => heap_alloc_old w _ b hb⟩
  let g1 : Value := .agg (.slice (some ⟨w.heap.size, 0, none⟩) l.toNat m.toNat :: List.replicate l.toNat (.slice none 0 0)).toArray
  have hgb : ∀ b, Bk g1 b → w.heap.size ≤ b := fun b hb => by
    obtain ⟨u, hu, hub⟩ := bk_agg.1 hb
    rcases List.mem_cons.1 hu with rfl | hu
    · simp [blkOf] at hub; omega
    · rw [(List.mem_replicate.1 hu).2] at hub; cases hub
  have hrel := h.new (x := .map (.rr k (List.replicate l.toNat []) none)) (g := g1) hq hgr hgb (by
    refine ⟨?_, trivial⟩
    show RrOk _ k _ none (setG G (d, 4000) g1 (d, 4000))
    rw [setG_same]
    refine ⟨_, List.replicate l.toNat (.slice none 0 0), rfl, by simp, ?_, fun i x v hx hv => ?_, BApart.nodup fun i j v v' b hij h1 h2 h3 h4 => ?_⟩
    · have := OutOk.fresh (w := w.alloc (.cells (madeCells z.cells (m.toNat * i.size)) ti.elem)) (l := List.replicate l.toNat (Value.slice none 0 0)) (b := w.heap.size) (cap := m.toNat) (heap_alloc_new w _) (by simp; omega) (by rw [size_madeCells, hs]; omega) (by omega) (fun j v hj => by
        have hjl := (List.getElem?_eq_some_iff.1 hj).1
        simp at hjl
        have hv : v = .slice none 0 0 := by
          rw [List.getElem?_replicate, if_pos (by omega)] at hj; cases hj; rfl
        subst hv
        have hlt : j < m.toNat * i.size := by rw [hs]; omega
        simp [madeCells, hlt, hzc, Nat.mod_one])
      rw [List.length_replicate] at this
      exact this
    · rw [List.getElem?_replicate] at hx hv
      split at hx
      · rename_i hlt
        rw [if_pos hlt] at hv
        cases hx; cases hv
        exact .inl ⟨rfl, none, rfl⟩
      · cases hx
    · cases j with
      | zero => omega
      | succ j =>
        simp only [List.getElem?_cons_succ, List.getElem?_replicate] at h2
        split at h2
        · cases h2; cases h4
        · cases h2)
  refine Sound1.made hd (e' := e.up (.rt (d, 4000) (some (.map (.rr k (List.replicate l.toNat []) none))))) rfl ?_ hrel ?_ (u := .slice (some ⟨w.heap.size, 0, none⟩) l.toNat m.toNat)
  · simp only [execOp, ho, hx, hy]
    rw [Sem.run_bind, hrun]; rfl
  · show MapRel (setR e.rt (d, 4000) _) (d, 4000) _ _
    unfold MapRel
    rw [look_setR, if_pos rfl]
    exact ⟨by rw [setG_same]; simp only [g1]; rw [hdOf_agg], rfl⟩
/-- A part of a row of one's own that is made zero. -/
theorem sound_clear (h : Rel Z e a w G) (hT : TTok P tt) {o : Oper} {args : Array Operand} {ats : Array TypeId} (ho : o.op = .call { callee := .builtin .clear, args, argTypes := ats }) (hp : (opPg tt sig o).run C e s = some (us, s')) : Sound1 P o us Z e a w := by
  simp only [opPg, ho, builtinPg] at hp
  split at hp
  case h_2 => exact run_fail hp
  rename_i x t hargs hats
  obtain rfl : args = #[x] := by simpa using congrArg List.toArray hargs
  obtain rfl : ats = #[t] := by simpa using congrArg List.toArray hats
  obtain ⟨xv, s1, hxv, hp2⟩ := run_opv h hp
  clear hp
  unfold clearOp at hp2
  split at hp2
  case h_2 => exact run_fail hp2
  rename_i ti hti
  split at hp2
  case h_2 => exact run_fail hp2
  rename_i te hte
  obtain ⟨hck, hp3⟩ := run_bif_fail hp2
  clear hp2
  simp only [Bool.and_eq_true] at hck
  obtain ⟨hok, hsl, hpos⟩ := hck
  have hpos' := blt_true hpos
  split at hp3
  case h_2 => exact run_fail hp3
  rename_i r p n
  simp only [Pg.run] at hp3
  split at hp3
  case h_2 => exact run_fail hp3
  rename_i d' xs hl
  split at hp3
  case h_2 => exact run_fail hp3
  rename_i l hcast
  obtain ⟨hab, hy'⟩ := castL_eq hcast
  subst hab; subst hy'
  obtain rfl : us = _ := run_ret hp3
  obtain ⟨hn, hs⟩ := RowRel.row (show RowRel e.rt r _ _ from hxv) (.inl ⟨rfl, hl⟩)
  obtain ⟨i, z, dd, hi, _, hs1, hb1, _, hz, _, _, hokz⟩ := (hT _ _ hte).info
  obtain ⟨hks, hzc⟩ := hokz hok
  have hkd : 0 < te.kd.size := by omega
  have ht := (hT _ _ hti).slice hsl
  have hzl : z.cells.size = te.kd.size := by
    have := hzc.length
    rw [zatoms_length] at this
    simpa using this.symm
  have hzv : ∀ w, (zeroValue ti.elem).run P w = .ok z w := fun w => by simp [zeroValue, typeInfo, hi, hz]
  obtain ⟨a', m, cap, a'', cap', hg, hus, h2, h3, h4⟩ := hs
  let ys : List te.kd.den := List.replicate n te.kd.dflt
  let nv := (Builtin.zeroCells z.cells n).toList
  have hnl : nv.length = n * te.kd.size := by simp only [nv]; rw [Array.length_toList, size_zeroCells, hzl]
  have hrow : ∀ S : Nat → Prop, Row te.kd.size (Rd w S te.kd) ys nv := fun S => by
    refine ⟨by rw [hnl]; simp [ys], fun j y hj => ?_⟩
    have hjl := (List.getElem?_eq_some_iff.1 hj).1
    have hjn : j < n := by simpa [ys] using hjl
    have hy' : y = te.kd.dflt := by
      simp only [ys] at hj
      rw [List.getElem?_replicate, if_pos hjn] at hj; cases hj; rfl
    subst hy'
    refine ⟨z.cells.toList, Rd.dflt hzc, fun k v hk => ?_⟩
    have hkl : k < te.kd.size := by have := (List.getElem?_eq_some_iff.1 hk).1; rw [Array.length_toList, hzl] at this; exact this
    have hm2 : (j + 1) * te.kd.size ≤ n * te.kd.size := Nat.mul_le_mul_right _ hjn
    rw [Nat.succ_mul] at hm2
    have hmod : (j * te.kd.size + k) % te.kd.size = k := by rw [Nat.add_comm, Nat.add_mul_mod_self_right]; exact Nat.mod_eq_of_lt hkl
    have hlt : j * te.kd.size + k < n * te.kd.size := by omega
    have hv : z.cells[k]? = some v := by simpa using hk
    have hv2 : z.cells[k]! = v := by simp [getElem!_def, hv]
    simp only [nv]
    rw [Array.getElem?_toList]
    simp [Builtin.zeroCells, hzl, hlt, hmod, hv2]
  have fin : ∀ (w1 : World), Rel Z (e.up (.rt r (some (.arr te.kd (xs.take p ++ (ys ++ xs.drop (p + n))))))) a w1 G → (Builtin.clear_ #[t] o.type #[a.eval x]).run P w = .ok (.tuple #[]) w1 →
      Sound1 P o (.rt r (some (.arr te.kd (xs.take p ++ (ys ++ xs.drop (p + n))))) :: upD o.dst (.tup [])) Z e a w := by
    intro w1 hrel hrun Q
    unfold Oper.wp
    rw [call_builtin ho]
    simp only [builtin, List.map_toArray, List.map_cons, List.map_nil, Sem.run_bind, hrun, Result.andThen_ok, Sem.run_pure, Oper.upon_value]
    exact ⟨G, hrel.putD (v := .tup []) (u := .tuple #[]) ⟨#[], rfl, trivial⟩⟩
  by_cases hn0 : n = 0
  · subst hn0
    have hl' : xs.take p ++ (ys ++ xs.drop (p + 0)) = xs := by simp [ys]
    refine fin w ?_ ?_
    · rw [hl']
      show Rel Z { e with rt := setR e.rt r _ } a w G
      rw [setR_same hl]
      exact h
    · rw [hus]
      cases a'' <;> simp [Builtin.clear_, underlying, ht]
  · rcases h4 with ⟨ad', rfl, rfl, h5⟩ | ⟨h5, _⟩
    case inr => omega
    have h0 : ArrOk w (Stab Z e.rt G w) te.kd xs (G r) := h.mem.roots r _ hl
    rcases h0 with ⟨h6, _⟩ | ⟨b, off, cp, cells, t', h6, h7, h8, h9, h10, h11⟩
    · subst h6; simp at hn; omega
    rw [hg] at h6
    simp only [Value.slice.injEq, Option.some.injEq] at h6
    obtain ⟨rfl, rfl, rfl⟩ := h6
    rw [addr_add] at hus
    have hmul : (p + n) * te.kd.size ≤ cap * te.kd.size := Nat.mul_le_mul_right _ (by omega)
    rw [Nat.add_mul] at hmul
    have hcl0 : cells.toList.length = cells.size := by simp
    have hfit : off + p * te.kd.size + nv.length ≤ cells.toList.length := by omega
    have hst := run_storeCells_at P b (off + p * te.kd.size) t' nv 0 cells w h9 (by omega) ((hrow (Stab Z e.rt G w)).one hkd)
    simp only [Nat.add_zero] at hst
    have hyl : ys.length = n := by simp [ys]
    have hlen : (xs.take p ++ (ys ++ xs.drop (p + n))).length = xs.length := by
      simp only [List.length_append, hyl, List.length_take, List.length_drop]
      omega
    have hbk : Bk (G r) b := by rw [hg]; simp [Bk, blkOf]; omega
    refine fin (w.setRow b (splice cells.toList (off + p * te.kd.size) nv).toArray) ?_ ?_
    · refine h.write hl (.arr (Nat.le_of_eq hlen.symm)) rfl hbk rfl (.inr ⟨b, off, cap, _, t', ?_, ?_, h8, setRow_heap w b cells _ t' _ h9, ?_, ?_⟩)
      · rw [hg, hlen]
      · rw [hlen]; exact h7
      · rw [List.size_toArray, splice_length hfit]; simpa using h10
      · have how : Owns e.rt G b := ⟨r, _, hl, rfl, hbk⟩
        have mono : ∀ {kk : Kd} {q : kk.den} {cs : List Value}, Rd w (Stab Z e.rt G w) kk q cs → Rd (w.setRow b (splice cells.toList (off + p * te.kd.size) nv).toArray) (Stab Z (setR e.rt r (some (.arr te.kd (xs.take p ++ (ys ++ xs.drop (p + n)))))) G (w.setRow b (splice cells.toList (off + p * te.kd.size) nv).toArray)) kk q cs := by
          intro kk q cs
          refine Rd.mono fun b' hb'' => ⟨⟨?_, fun ho => hb''.2 ?_⟩, setRow_other w b b' _ fun e0 => hb''.2 (e0 ▸ how)⟩
          · have : (w.setRow b (splice cells.toList (off + p * te.kd.size) nv).toArray).heap.size = w.heap.size := by simp [World.setRow]
            rw [this]; exact hb''.1
          · obtain ⟨q', z', g1, g2, g3⟩ := ho
            by_cases hq : q' = r
            · subst hq; exact ⟨q', _, hl, rfl, g3⟩
            · rw [look_setR, if_neg hq] at g1; exact ⟨q', z', g1, g2, g3⟩
        have get : ∀ q : Nat, (splice cells.toList (off + p * te.kd.size) nv).toArray[q]? = (splice cells.toList (off + p * te.kd.size) nv)[q]? := fun q => by simp
        have old : ∀ j q, xs[j]? = some q → (j < p ∨ p + n ≤ j) → ∃ cs, Rd (w.setRow b (splice cells.toList (off + p * te.kd.size) nv).toArray) (Stab Z (setR e.rt r (some (.arr te.kd (xs.take p ++ (ys ++ xs.drop (p + n)))))) G (w.setRow b (splice cells.toList (off + p * te.kd.size) nv).toArray)) te.kd q cs ∧ ∀ m v, cs[m]? = some v → (splice cells.toList (off + p * te.kd.size) nv).toArray[off + j * te.kd.size + m]? = some v := by
          intro j q hj hjk
          obtain ⟨cs, h12, h13⟩ := h11 j q hj
          have hcl := Rd.length h12
          refine ⟨cs, mono h12, fun m v hm => ?_⟩
          have hml : m < te.kd.size := by rw [← hcl]; exact (List.getElem?_eq_some_iff.1 hm).1
          rw [get, splice_get hfit]
          rcases hjk with hlt | hge
          · have : (j + 1) * te.kd.size ≤ p * te.kd.size := Nat.mul_le_mul_right _ hlt
            rw [Nat.succ_mul] at this
            rw [if_pos (by omega)]
            simpa using h13 m v hm
          · have : (p + n) * te.kd.size ≤ j * te.kd.size := Nat.mul_le_mul_right _ hge
            rw [Nat.add_mul] at this
            rw [if_neg (by omega), if_neg (by omega)]
            simpa using h13 m v hm
        intro j q hj
        by_cases hj1 : j < p
        · rw [List.getElem?_append_left (by simp; omega), List.getElem?_take, if_pos hj1] at hj
          exact old j q hj (.inl hj1)
        · rw [List.getElem?_append_right (by simp; omega)] at hj
          have hpl : (xs.take p).length = p := by simp; omega
          rw [hpl] at hj
          by_cases hj2 : j - p < n
          · rw [List.getElem?_append_left (by omega)] at hj
            obtain ⟨cs, h12, h13⟩ := (hrow (Stab Z e.rt G w)).2 _ q hj
            have hcl := Rd.length h12
            refine ⟨cs, mono h12, fun m v hm => ?_⟩
            have h14 := h13 m v hm
            have hlt := (List.getElem?_eq_some_iff.1 h14).1
            have hmj : j * te.kd.size = p * te.kd.size + (j - p) * te.kd.size := by rw [← Nat.add_mul]; congr 1; omega
            rw [get, splice_get hfit, if_neg (by omega), if_pos (by omega), show off + j * te.kd.size + m - (off + p * te.kd.size) = (j - p) * te.kd.size + m by omega]
            exact h14
          · rw [List.getElem?_append_right (by omega), hyl, List.getElem?_drop, show p + n + (j - p - n) = j by omega] at hj
            exact old j q hj (.inr (by omega))
    · rw [hus]
      have hst' : (storeCells ⟨b, off + p * te.kd.size, none⟩ nv).run P w = .ok () (w.setRow b (splice cells.toList (off + p * te.kd.size) nv).toArray) := hst
      cases n with
      | zero => exact absurd rfl hn0
      | succ n =>
        simp only [nv] at hst'
        simp [Builtin.clear_, underlying, ht, hzv, hst', nv]
end
end Go.Am
set_option linter.unusedVariables false
set_option linter.unusedSimpArgs false
namespace Go.Am
open Go

/-! ### What is handed over -/

abbrev outRt (st : St) : Roots := ptab st.out

theorem look_append : ∀ (l : Roots) (m : Rid) (y : Option Root), look l m = none → ∀ s, look (l ++ [(m, y)]) s = look (setR l m y) s
  | [], m, y, _, s => by simp [look, setR]
  | (q, z) :: l, m, y, h, s => by
    have hq : Rid.beq m q = false := by
      cases hb : Rid.beq m q with
      | false => rfl
      | true => simp [look, hb] at h
    have hl : look l m = none := by simpa [look, hq] using h
    simp only [List.cons_append, setR, hq, cond_false, look]
    rw [look_append l m y hl s]
theorem outRt_add {st : St} {m : Rid} {x : Root} {mp : List (Rid × Use)} {c : Nat} (h : look (outRt st) m = none) (s : Rid) :
    look (outRt { mp := mp, cnt := c, out := st.out ++ [(m, x)] }) s = if s = m then some (some x) else look (outRt st) s := by
  show look (ptab (st.out ++ [(m, x)])) s = _
  unfold ptab
  rw [List.map_append]
  show look (outRt st ++ [(m, some x)]) s = _
  rw [look_append _ _ _ h, look_setR]
theorem findU_cons (r s : Rid) (u : Use) (l : List (Rid × Use)) : findU ((r, u) :: l) s = if s = r then some u else findU l s := by
  show (bif Rid.beq s r then some u else findU l s) = _
  by_cases h : s = r
  · subst h; simp [Rid.beq_refl]
  · simp [Rid.beq_false h, h]

/-- The same kind of thing, at the same place. -/
def Alike (x : Root) (g : Value) (x' : Root) (g' : Value) : Prop :=
  (∃ l l', x = .box l ∧ x' = .box l' ∧ g' = g) ∨ (∃ (e : Kd) (xs : List e.den), x = .arr e xs ∧ x' = .arr e xs ∧ g' = g) ∨ ∃ m m', x = .map m ∧ x' = .map m' ∧ hdOf g' = hdOf g
theorem Alike.box (l l' : List Atom) (g : Value) : Alike (.box l) g (.box l') g := .inl ⟨l, l', rfl, rfl, rfl⟩
theorem Alike.arr (e : Kd) (xs : List e.den) (g : Value) : Alike (.arr e xs) g (.arr e xs) g := .inr (.inl ⟨e, xs, rfl, rfl, rfl⟩)
theorem Alike.map (m m' : Mp) {g g' : Value} (h : hdOf g' = hdOf g) : Alike (.map m) g (.map m') g' := .inr (.inr ⟨m, m', rfl, rfl, h⟩)

section
variable {P : Program} {tt : TT} {sig : Sig} {C : Nat → Pk → Option Pk} {Z : Base} {e : Env} {a : Act} {w w' : World} {G : Gh} {s s' : Seen} {us : List Up} {b : Nat}

/-- How far the handing over has come: the rows that are only read lie so in e1; the names that are handed over mean in H what they mean here. -/
structure Cn (Z : Base) (e : Env) (a : Act) (w : World) (G : Gh) (b : Nat) (e1 : Env) (st : St) (H : Gh) : Prop where
  fz : FrzOf e e1
  rel : Rel Z e1 a w G
  ro : ∀ r, findU st.mp r = some .ro → (∃ d xs, look e1.rt r = some (some (.fro d xs))) ∨ look e1.rt r = some none
  nro : ∀ r, findU st.mp r ≠ some .ro → look e1.rt r = look e.rt r
  mem : ∀ r u, (r, u) ∈ st.mp → findU st.mp r = some u
  own : ∀ r m, findU st.mp r = some (.own m) → ∃ x x', look e.rt r = some (some x) ∧ look (outRt st) m = some (some x') ∧ Alike x (G r) x' (H m)
  gone : ∀ r m, findU st.mp r = some (.gone m) → ∃ x, look e.rt r = some (some x) ∧ x.own = true
  names : ∀ m x, look (outRt st) m = some x → m.1 = b ∧ m.2 < st.cnt
  src : ∀ m x, look (outRt st) m = some x → (∃ y, x = some y ∧ y.own = true) ∧ ∀ c, Bk (H m) c → ∃ r x0, (findU st.mp r = some (.own m) ∨ findU st.mp r = some (.gone m)) ∧ look e.rt r = some (some x0) ∧ x0.own = true ∧ Bk (G r) c
  roots : ∀ m x, look (outRt st) m = some (some x) → RootOk w (Stab Z e1.rt G w) (outRt st) H m x

structure Le (Z : Base) (w : World) (G : Gh) (e1 : Env) (st : St) (H : Gh) (e2 : Env) (st' : St) (H' : Gh) : Prop where
  stab : ∀ c, Stab Z e1.rt G w c → Stab Z e2.rt G w c
  same : ∀ m x, look (outRt st) m = some x → look (outRt st') m = some x ∧ H' m = H m
  turns : Turns e1.rt G e2.rt G

theorem Le.refl {e1 : Env} {st : St} {H : Gh} : Le Z w G e1 st H e1 st H := ⟨fun _ h => h, fun _ _ h => ⟨h, rfl⟩, Turns.refl _ _⟩
theorem Turn.trans {x y z : Option Root} (h : Turn x y) (k : Turn y z) : Turn x z := by
  cases h with
  | same => exact k
  | gone x => cases k; exact .gone x
  | box => cases k with
    | same => exact .box
    | gone => exact .gone _
    | box => exact .box
  | arr h => cases k with
    | same => exact .arr h
    | gone => exact .gone _
    | arr k => exact .arr (Nat.le_trans h k)
    | frz k => exact .frz (Nat.le_trans h k)
  | frz h => cases k with
    | same => exact .frz h
    | gone => exact .gone _
  | map h => cases k with
    | same => exact .map h
    | gone => exact .gone _
    | map k => exact .map (Mp.le_trans h k)
theorem Turn.none {y : Option Root} (h : Turn none y) : y = none := by cases h; rfl
theorem SameG.trans {y z : Option Root} {g g' g'' : Value} (h : y ≠ none → SameG y g' g) (k : SameG z g'' g') (ht : Turn y z) (hz : z ≠ none) : SameG z g'' g := by
  have hy : y ≠ none := fun e0 => hz (by subst e0; exact ht.none)
  have h' := h hy
  rcases k with k | ⟨k1, k2⟩
  · rw [k]
    rcases h' with h' | ⟨⟨m, h1⟩, h2⟩
    · exact .inl h'
    · refine .inr ⟨?_, h2⟩
      subst h1
      cases ht with
      | same => exact ⟨_, rfl⟩
      | gone => exact absurd rfl hz
      | map => exact ⟨_, rfl⟩
  · exact .inr ⟨k1, k2.trans h'.hd⟩
theorem Turns.trans {rt rt' rt'' : Roots} {G G' G'' : Gh} (h : Turns rt G rt' G') (k : Turns rt' G' rt'' G'') : Turns rt G rt'' G'' := fun r x hl => by
  obtain ⟨y, h1, h2, h3⟩ := h r x hl
  obtain ⟨z, k1, k2, k3⟩ := k r y h1
  exact ⟨z, k1, h2.trans k2, fun hz => SameG.trans h3 (k3 hz) k2 hz⟩
theorem Le.trans {e1 e2 e3 : Env} {st st' st'' : St} {H H' H'' : Gh} (h : Le Z w G e1 st H e2 st' H') (k : Le Z w G e2 st' H' e3 st'' H'') : Le Z w G e1 st H e3 st'' H'' :=
  ⟨fun c hc => k.stab c (h.stab c hc), fun m x hm => let ⟨h1, h2⟩ := h.same m x hm; let ⟨k1, k2⟩ := k.same m x h1; ⟨k1, k2.trans h2⟩, h.turns.trans k.turns⟩
theorem Le.out {e1 e2 : Env} {st st' : St} {H H' : Gh} (h : Le Z w G e1 st H e2 st' H') : Turns (outRt st) H (outRt st') H' := fun m x hm => let ⟨h1, h2⟩ := h.same m x hm; ⟨x, h1, .same x, fun _ => .inl h2⟩
/-- What is handed over stays what it is. -/
theorem Le.atom {e1 e2 : Env} {st st' : St} {H H' : Gh} (h : Le Z w G e1 st H e2 st' H') {x : Atom} {u : Value} (hx : AtomRel w (Stab Z e1.rt G w) (outRt st) H x u) : AtomRel w (Stab Z e2.rt G w) (outRt st') H' x u :=
  AtomRel.step (fun c hc => ⟨h.stab c hc, rfl⟩) h.out hx
theorem Le.val {e1 e2 : Env} {st st' : St} {H H' : Gh} (h : Le Z w G e1 st H e2 st' H') {x : Atom} {u : Value} (hx : AtomRel w (Stab Z e1.rt G w) e1.rt G x u) : AtomRel w (Stab Z e2.rt G w) e2.rt G x u :=
  AtomRel.step (fun c hc => ⟨h.stab c hc, rfl⟩) h.turns hx
theorem Le.box {e1 e2 : Env} {st st' : St} {H H' : Gh} (h : Le Z w G e1 st H e2 st' H') {r : Rid} {c : Nat} {u : Value} (hx : BoxRel e1.rt G r c u) : BoxRel e2.rt G r c u := BoxRel.turn h.turns hx
theorem Le.obox {e1 e2 : Env} {st st' : St} {H H' : Gh} (h : Le Z w G e1 st H e2 st' H') {r : Rid} {c : Nat} {u : Value} (hx : BoxRel (outRt st) H r c u) : BoxRel (outRt st') H' r c u := BoxRel.turn h.out hx
theorem RootOk.grow {S S' : Nat → Prop} {rt rt' : Roots} {H H' : Gh} (hs : ∀ c, S c → S' c) (ht : Turns rt H rt' H') {m : Rid} (hm : H' m = H m) : ∀ {x : Root}, RootOk w S rt H m x → RootOk w S' rt' H' m x
  | .box l, ⟨b, vs, t, h1, h2, h3, h4⟩ => ⟨b, vs, t, by rw [hm]; exact h1, h2, h3.mono fun _ _ h => AtomRel.step (fun c hc => ⟨hs c hc, rfl⟩) ht h, h4⟩
  | .arr d xs, h => by
    show ArrOk w S' d xs (H' m)
    rw [hm]; exact ArrOk.blk h (fun c hc => ⟨hs c hc, rfl⟩) fun _ _ => rfl
  | .fro d xs, h => by
    show SlV w S' d.size (Rd w S' d) xs (H' m)
    rw [hm]; exact SlV.mono (fun c hc => ⟨hs c hc, rfl⟩) (fun _ _ => Rd.mono fun c hc => ⟨hs c hc, rfl⟩) h
  | .map m, h => by
    exact ⟨by rw [hm]; exact h.1, HoleOk.turn h.2 h.1 ht hm fun _ _ => rfl⟩

/-- A row that is only to be read. -/
theorem Cn.freeze {e1 : Env} {st : St} {H : Gh} (h : Cn Z e a w G b e1 st H) {r : Rid} (hu : findU st.mp r = none ∨ findU st.mp r = some .ro) {d : Kd} {xs : List d.den} {own : Bool}
    (hl : (own = true ∧ look e.rt r = some (some (.arr d xs))) ∨ (own = false ∧ look e.rt r = some (some (.fro d xs)))) :
    ∃ e2, Cn Z e a w G b e2 { st with mp := (r, .ro) :: st.mp } H ∧ Le Z w G e1 st H e2 { st with mp := (r, .ro) :: st.mp } H ∧ look e2.rt r = some (some (.fro d xs)) := by
  have hr := h.fz.row hl
  have h2 := h.rel.frz hr
  have hst : ∀ c, Stab Z e1.rt G w c → Stab Z (e1.up (.rt r (some (.fro d xs)))).rt G w c := fun c hc => ⟨hc.1, fun ho => hc.2 (Owns.frz (Z := Z) (w := w) ho).1⟩
  have hf : ∀ q, q ≠ r → findU ((r, Use.ro) :: st.mp) q = findU st.mp q := fun q hq => by rw [findU_cons, if_neg hq]
  have hs : look (e1.up (.rt r (some (.fro d xs)))).rt r = some (some (.fro d xs)) := by simp [Env.up, look_setR]
  have ho : ∀ q, q ≠ r → look (e1.up (.rt r (some (.fro d xs)))).rt q = look e1.rt q := fun q hq => by simp [Env.up, look_setR, hq]
  have back : ∀ q u, u ≠ Use.ro → findU ((r, Use.ro) :: st.mp) q = some u → findU st.mp q = some u := fun q u hne hq => by
    rw [findU_cons] at hq
    split at hq
    · cases hq; exact absurd rfl hne
    · exact hq
  have fwd : ∀ q u, u ≠ Use.ro → findU st.mp q = some u → findU ((r, Use.ro) :: st.mp) q = some u := fun q u hne hq => by
    rw [findU_cons, if_neg]
    · exact hq
    · intro e0; subst e0
      rcases hu with hu | hu <;> rw [hu] at hq <;> cases hq
      exact hne rfl
  refine ⟨e1.up (.rt r (some (.fro d xs))), ⟨h.fz.step hl, h2, fun q hq => ?_, fun q hq => ?_, fun q u hq => ?_, fun q m hq => ?_, fun q m hq => ?_, h.names, fun m x hm => ?_, fun m x hm => ?_⟩, ⟨hst, fun _ _ hm => ⟨hm, rfl⟩, Turns.set (fun y hy => ?_) fun _ _ => rfl⟩, hs⟩
  · by_cases hqr : q = r
    · subst hqr; exact .inl ⟨d, xs, hs⟩
    · rw [ho q hqr]; exact h.ro q (by rw [← hf q hqr]; exact hq)
  · by_cases hqr : q = r
    · subst hqr; exact absurd (by rw [findU_cons, if_pos rfl]) hq
    · rw [ho q hqr]; exact h.nro q (by rw [← hf q hqr]; exact hq)
  · rcases List.mem_cons.1 hq with hq | hq
    · cases hq; rw [findU_cons, if_pos rfl]
    · have h3 := h.mem q u hq
      by_cases hqr : q = r
      · subst hqr
        rcases hu with hu | hu <;> rw [hu] at h3 <;> cases h3
        rw [findU_cons, if_pos rfl]
      · rw [hf q hqr]; exact h3
  · exact h.own q m (back q _ (by simp) hq)
  · exact h.gone q m (back q _ (by simp) hq)
  · obtain ⟨h3, h4⟩ := h.src m x hm
    refine ⟨h3, fun c hc => ?_⟩
    obtain ⟨q, x0, h5, h6⟩ := h4 c hc
    exact ⟨q, x0, h5.imp (fwd q _ (by simp)) (fwd q _ (by simp)), h6⟩
  · exact RootOk.grow hst (Turns.refl _ _) rfl (h.roots m x hm)
  · rcases hr with hr | hr <;> rw [hr] at hy <;> cases hy
    · exact ⟨.frz (Nat.le_refl _), fun _ => rfl⟩
    · exact ⟨.same _, fun _ => rfl⟩

/-- A variable that is lent: nobody owns it meanwhile. -/
theorem Owns.lend {rt : Roots} {r : Rid} {c : Nat} (h : Owns (setR rt r none) G c) : Owns rt G c := by
  obtain ⟨q, x, h1, h2, h3⟩ := h
  by_cases hq : q = r
  · subst hq; rw [look_setR, if_pos rfl] at h1; cases h1
  · rw [look_setR, if_neg hq] at h1; exact ⟨q, x, h1, h2, h3⟩
theorem Rel.lend (h : Rel Z e a w G) {r : Rid} {x : Root} (hl : look e.rt r = some (some x)) : Rel Z (e.up (.rt r none)) a w G := by
  have hc : Chg Z e.rt G w (setR e.rt r none) G w :=
    { os := rfl, tape := rfl, output := rfl, size := Nat.le_refl _, block := fun _ _ _ => rfl
      own := fun c hb => .inl hb.lend
      turns := Turns.set (fun y hy => by rw [hl] at hy; cases hy; exact ⟨.gone _, fun h => absurd rfl h⟩) fun _ _ => rfl }
  refine h.chg hc (hc.mem h.mem (fun q y hq => ?_) (fun q q' y y' c hq hq' ho ho' h1 h2 => ?_))
  · by_cases hs : q = r
    · subst hs; rw [look_setR, if_pos rfl] at hq; cases hq
    · rw [look_setR, if_neg hs] at hq
      exact .inl ⟨hq, rfl, fun _ _ _ => rfl⟩
  · by_cases hs : q = r
    · subst hs; rw [look_setR, if_pos rfl] at hq; cases hq
    · by_cases hs' : q' = r
      · subst hs'; rw [look_setR, if_pos rfl] at hq'; cases hq'
      · rw [look_setR, if_neg hs] at hq
        rw [look_setR, if_neg hs'] at hq'
        exact h.mem.sep q q' y y' c hq hq' ho ho' h1 h2
theorem Cn.lend {e1 : Env} {st : St} {H : Gh} (h : Cn Z e a w G b e1 st H) {r : Rid} (hu : findU st.mp r = none) {x : Root} (hl : look e.rt r = some (some x)) (hx : x.lends = true) :
    Cn Z e a w G b (e1.up (.rt r none)) { st with mp := (r, .ro) :: st.mp } H ∧ Le Z w G e1 st H (e1.up (.rt r none)) { st with mp := (r, .ro) :: st.mp } H := by
  have hl1 : look e1.rt r = some (some x) := by rw [h.nro r (by rw [hu]; simp)]; exact hl
  have h2 := h.rel.lend hl1
  have hst : ∀ c, Stab Z e1.rt G w c → Stab Z (e1.up (.rt r none)).rt G w c := fun c hc => ⟨hc.1, fun ho => hc.2 ho.lend⟩
  have hs : look (e1.up (.rt r none)).rt r = some none := by simp [Env.up, look_setR]
  have ho : ∀ q, q ≠ r → look (e1.up (.rt r none)).rt q = look e1.rt q := fun q hq => by simp [Env.up, look_setR, hq]
  have hf : ∀ q, q ≠ r → findU ((r, Use.ro) :: st.mp) q = findU st.mp q := fun q hq => by rw [findU_cons, if_neg hq]
  have back : ∀ q u, u ≠ Use.ro → findU ((r, Use.ro) :: st.mp) q = some u → findU st.mp q = some u := fun q u hne hq => by
    rw [findU_cons] at hq
    split at hq
    · cases hq; exact absurd rfl hne
    · exact hq
  have fwd : ∀ q u, u ≠ Use.ro → findU st.mp q = some u → findU ((r, Use.ro) :: st.mp) q = some u := fun q u hne hq => by
    rw [findU_cons, if_neg]
    · exact hq
    · intro e0; subst e0
      rw [hu] at hq; cases hq
  refine ⟨⟨⟨h.fz.tm, h.fz.ag, fun q => ?_⟩, h2, fun q hq => ?_, fun q hq => ?_, fun q u hq => ?_, fun q m hq => ?_, fun q m hq => ?_, h.names, fun m x hm => ?_, fun m x hm => ?_⟩, ⟨hst, fun _ _ hm => ⟨hm, rfl⟩, Turns.set (fun y hy => ?_) fun _ _ => rfl⟩⟩
  · by_cases hqr : q = r
    · subst hqr; exact .inr (.inr ⟨x, hl, hx, hs⟩)
    · rw [ho q hqr]; exact h.fz.rt q
  · by_cases hqr : q = r
    · subst hqr; exact .inr hs
    · rw [ho q hqr]; exact h.ro q (by rw [← hf q hqr]; exact hq)
  · by_cases hqr : q = r
    · subst hqr; exact absurd (by rw [findU_cons, if_pos rfl]) hq
    · rw [ho q hqr]; exact h.nro q (by rw [← hf q hqr]; exact hq)
  · rcases List.mem_cons.1 hq with hq | hq
    · cases hq; rw [findU_cons, if_pos rfl]
    · have h3 := h.mem q u hq
      by_cases hqr : q = r
      · subst hqr; rw [hu] at h3; cases h3
      · rw [hf q hqr]; exact h3
  · exact h.own q m (back q _ (by simp) hq)
  · exact h.gone q m (back q _ (by simp) hq)
  · obtain ⟨h3, h4⟩ := h.src m x hm
    refine ⟨h3, fun c hc => ?_⟩
    obtain ⟨q, x0, h5, h6⟩ := h4 c hc
    exact ⟨q, x0, h5.imp (fwd q _ (by simp)) (fwd q _ (by simp)), h6⟩
  · exact RootOk.grow hst (Turns.refl _ _) rfl (h.roots m x hm)
  · rw [hl1] at hy; cases hy
    exact ⟨.gone _, fun h => absurd rfl h⟩

/-- One name more that is handed over. -/
theorem Cn.add {e1 : Env} {st : St} {H : Gh} (h : Cn Z e a w G b e1 st H) {x' : Root} {g : Value} (ho : x'.own = true) {mp : List (Rid × Use)}
    (hx : RootOk w (Stab Z e1.rt G w) (outRt { mp := mp, cnt := st.cnt + 1, out := st.out ++ [((b, st.cnt), x')] }) (setG H (b, st.cnt) g) (b, st.cnt) x')
    (hmp : (mp = st.mp ∧ ∀ c, ¬ Bk g c) ∨ ∃ r x0, findU st.mp r = none ∧ look e.rt r = some (some x0) ∧ x0.own = true ∧ (∀ c, Bk g c → Bk (G r) c) ∧
      ((mp = (r, .own (b, st.cnt)) :: st.mp ∧ Alike x0 (G r) x' g) ∨ mp = (r, .gone (b, st.cnt)) :: st.mp)) :
    Cn Z e a w G b e1 { mp := mp, cnt := st.cnt + 1, out := st.out ++ [((b, st.cnt), x')] } (setG H (b, st.cnt) g) ∧
    Le Z w G e1 st H e1 { mp := mp, cnt := st.cnt + 1, out := st.out ++ [((b, st.cnt), x')] } (setG H (b, st.cnt) g) := by
  have hno : look (outRt st) (b, st.cnt) = none := by
    cases hl : look (outRt st) (b, st.cnt) with
    | none => rfl
    | some x => exact absurd (h.names _ _ hl).2 (Nat.lt_irrefl _)
  have hl' := fun s => outRt_add (x := x') (mp := mp) (c := st.cnt + 1) hno s
  have hsame : ∀ m x, look (outRt st) m = some x → look (outRt { mp := mp, cnt := st.cnt + 1, out := st.out ++ [((b, st.cnt), x')] }) m = some x ∧ setG H (b, st.cnt) g m = H m := fun m x hm => by
    have hne : m ≠ (b, st.cnt) := fun e0 => by rw [e0, hno] at hm; cases hm
    exact ⟨by rw [hl', if_neg hne]; exact hm, setG_other hne⟩
  have hturn : Turns (outRt st) H (outRt { mp := mp, cnt := st.cnt + 1, out := st.out ++ [((b, st.cnt), x')] }) (setG H (b, st.cnt) g) := fun m x hm => let ⟨h1, h2⟩ := hsame m x hm; ⟨x, h1, .same x, fun _ => .inl h2⟩
  have fwd : ∀ q u, findU st.mp q = some u → findU mp q = some u := fun q u hq => by
    rcases hmp with ⟨rfl, _⟩ | ⟨r, x0, hr, _, _, _, ⟨rfl, _⟩ | rfl⟩
    · exact hq
    all_goals
      rw [findU_cons, if_neg]
      · exact hq
      · intro e0; subst e0; rw [hr] at hq; cases hq
  have back : ∀ q u, findU mp q = some u → findU st.mp q = some u ∨ ∃ x0, look e.rt q = some (some x0) ∧ x0.own = true ∧ ((u = .own (b, st.cnt) ∧ Alike x0 (G q) x' g) ∨ u = .gone (b, st.cnt)) := fun q u hq => by
    rcases hmp with ⟨rfl, _⟩ | ⟨r, x0, hr, h1, h2, _, ⟨rfl, h3⟩ | rfl⟩
    · exact .inl hq
    all_goals
      rw [findU_cons] at hq
      split at hq
      · rename_i e0; subst e0; cases hq
        first | exact .inr ⟨x0, h1, h2, .inl ⟨rfl, h3⟩⟩ | exact .inr ⟨x0, h1, h2, .inr rfl⟩
      · exact .inl hq
  refine ⟨⟨h.fz, h.rel, fun q hq => ?_, fun q hq => ?_, fun q u hq => ?_, fun q m hq => ?_, fun q m hq => ?_, fun m x hm => ?_, fun m x hm => ?_, fun m x hm => ?_⟩, fun _ hc => hc, hsame, Turns.refl _ _⟩
  · rcases back q _ hq with hq | ⟨_, _, _, ⟨hq, _⟩ | hq⟩
    · exact h.ro q hq
    · cases hq
    · cases hq
  · exact h.nro q fun hq' => hq (fwd q _ hq')
  · have h3 : (q, u) ∈ st.mp ∨ findU mp q = some u := by
      rcases hmp with ⟨rfl, _⟩ | ⟨r, x0, hr, h1, h2, _, ⟨rfl, h3⟩ | rfl⟩
      · exact .inl hq
      all_goals
        rcases List.mem_cons.1 hq with hq | hq
        · cases hq; exact .inr (by rw [findU_cons, if_pos rfl])
        · exact .inl hq
    rcases h3 with h3 | h3
    · exact fwd q u (h.mem q u h3)
    · exact h3
  · rcases back q _ hq with hq | ⟨x0, h1, h2, ⟨hq, h3⟩ | hq⟩
    · obtain ⟨x, x'', h2, h3, h4⟩ := h.own q m hq
      obtain ⟨h5, h6⟩ := hsame m _ h3
      exact ⟨x, x'', h2, h5, by rw [h6]; exact h4⟩
    · cases hq
      exact ⟨x0, x', h1, by rw [hl', if_pos rfl], by rw [setG_same]; exact h3⟩
    · cases hq
  · rcases back q _ hq with hq | ⟨x0, h1, h2, ⟨hq, h3⟩ | hq⟩
    · exact h.gone q m hq
    · cases hq
    · exact ⟨x0, h1, h2⟩
  · rw [hl'] at hm
    split at hm
    · rename_i e0; subst e0; exact ⟨rfl, Nat.lt_succ_self _⟩
    · obtain ⟨h1, h2⟩ := h.names m x hm
      exact ⟨h1, Nat.lt_succ_of_lt h2⟩
  · rw [hl'] at hm
    split at hm
    · rename_i e0; subst e0; cases hm
      refine ⟨⟨x', rfl, ho⟩, fun c hc => ?_⟩
      rw [setG_same] at hc
      rcases hmp with ⟨_, h1⟩ | ⟨r, x0, hr, h1, h2, h3, ⟨rfl, _⟩ | rfl⟩
      · exact absurd hc (h1 c)
      · exact ⟨r, x0, .inl (by rw [findU_cons, if_pos rfl]), h1, h2, h3 c hc⟩
      · exact ⟨r, x0, .inr (by rw [findU_cons, if_pos rfl]), h1, h2, h3 c hc⟩
    · rename_i hne
      obtain ⟨h1, h2⟩ := h.src m x hm
      refine ⟨h1, fun c hc => ?_⟩
      rw [setG_other hne] at hc
      obtain ⟨q, x0, h3, h4⟩ := h2 c hc
      exact ⟨q, x0, h3.imp (fwd q _) (fwd q _), h4⟩
  · rw [hl'] at hm
    split at hm
    · rename_i e0; subst e0; cases hm; exact hx
    · rename_i hne
      exact RootOk.grow (fun _ h => h) hturn (setG_other hne) (h.roots m x hm)
/-- One name more, made of two that are handed over for good. -/
theorem Cn.add2 {e1 : Env} {st : St} {H : Gh} (h : Cn Z e a w G b e1 st H) {x' : Root} {g : Value} (ho : x'.own = true) {r q : Rid} {x0 y0 : Root}
    (hx : RootOk w (Stab Z e1.rt G w) (outRt { mp := (q, .gone (b, st.cnt)) :: (r, .own (b, st.cnt)) :: st.mp, cnt := st.cnt + 1, out := st.out ++ [((b, st.cnt), x')] }) (setG H (b, st.cnt) g) (b, st.cnt) x')
    (hr : findU st.mp r = none) (hq : findU st.mp q = none) (hrq : r ≠ q) (hlr : look e.rt r = some (some x0)) (hor : x0.own = true) (hlq : look e.rt q = some (some y0)) (hoq : y0.own = true)
    (hg : ∀ c, Bk g c → Bk (G r) c ∨ Bk (G q) c) (hal : Alike x0 (G r) x' g) :
    Cn Z e a w G b e1 { mp := (q, .gone (b, st.cnt)) :: (r, .own (b, st.cnt)) :: st.mp, cnt := st.cnt + 1, out := st.out ++ [((b, st.cnt), x')] } (setG H (b, st.cnt) g) ∧
    Le Z w G e1 st H e1 { mp := (q, .gone (b, st.cnt)) :: (r, .own (b, st.cnt)) :: st.mp, cnt := st.cnt + 1, out := st.out ++ [((b, st.cnt), x')] } (setG H (b, st.cnt) g) := by
  have hno : look (outRt st) (b, st.cnt) = none := by
    cases hl : look (outRt st) (b, st.cnt) with
    | none => rfl
    | some x => exact absurd (h.names _ _ hl).2 (Nat.lt_irrefl _)
  generalize hmp : (q, Use.gone (b, st.cnt)) :: (r, Use.own (b, st.cnt)) :: st.mp = mp at hx ⊢
  have hl' := fun s => outRt_add (x := x') (mp := mp) (c := st.cnt + 1) hno s
  have hsame : ∀ m x, look (outRt st) m = some x → look (outRt { mp := mp, cnt := st.cnt + 1, out := st.out ++ [((b, st.cnt), x')] }) m = some x ∧ setG H (b, st.cnt) g m = H m := fun m x hm => by
    have hne : m ≠ (b, st.cnt) := fun e0 => by rw [e0, hno] at hm; cases hm
    exact ⟨by rw [hl', if_neg hne]; exact hm, setG_other hne⟩
  have hturn : Turns (outRt st) H (outRt { mp := mp, cnt := st.cnt + 1, out := st.out ++ [((b, st.cnt), x')] }) (setG H (b, st.cnt) g) := fun m x hm => let ⟨h1, h2⟩ := hsame m x hm; ⟨x, h1, .same x, fun _ => .inl h2⟩
  have hf : ∀ p, findU mp p = if p = q then some (.gone (b, st.cnt)) else if p = r then some (.own (b, st.cnt)) else findU st.mp p := fun p => by
    rw [← hmp, findU_cons, findU_cons]
  have fwd : ∀ p u, findU st.mp p = some u → findU mp p = some u := fun p u hp => by
    rw [hf, if_neg (fun e0 => by subst e0; rw [hq] at hp; cases hp), if_neg (fun e0 => by subst e0; rw [hr] at hp; cases hp)]
    exact hp
  have back : ∀ p u, findU mp p = some u → findU st.mp p = some u ∨ (p = q ∧ u = .gone (b, st.cnt)) ∨ (p = r ∧ u = .own (b, st.cnt)) := fun p u hp => by
    rw [hf] at hp
    split at hp
    · rename_i e0; exact .inr (.inl ⟨e0, (Option.some.inj hp).symm⟩)
    · split at hp
      · rename_i e0; exact .inr (.inr ⟨e0, (Option.some.inj hp).symm⟩)
      · exact .inl hp
  have fr : findU mp r = some (.own (b, st.cnt)) := by rw [hf, if_neg hrq, if_pos rfl]
  have fq : findU mp q = some (.gone (b, st.cnt)) := by rw [hf, if_pos rfl]
  refine ⟨⟨h.fz, h.rel, fun p hp => ?_, fun p hp => ?_, fun p u hp => ?_, fun p m hp => ?_, fun p m hp => ?_, fun m x hm => ?_, fun m x hm => ?_, fun m x hm => ?_⟩, fun _ hc => hc, hsame, Turns.refl _ _⟩
  · rcases back p _ hp with hp | ⟨_, hp⟩ | ⟨_, hp⟩
    · exact h.ro p hp
    · cases hp
    · cases hp
  · exact h.nro p fun hp' => hp (fwd p _ hp')
  · subst hmp
    rcases List.mem_cons.1 hp with hp | hp
    · cases hp; exact fq
    · rcases List.mem_cons.1 hp with hp | hp
      · cases hp; exact fr
      · exact fwd p u (h.mem p u hp)
  · rcases back p _ hp with hp | ⟨_, hp⟩ | ⟨hp, hm⟩
    · obtain ⟨x, x'', h2, h3, h4⟩ := h.own p m hp
      obtain ⟨h5, h6⟩ := hsame m _ h3
      exact ⟨x, x'', h2, h5, by rw [h6]; exact h4⟩
    · cases hp
    · subst hp; cases hm
      exact ⟨x0, x', hlr, by rw [hl', if_pos rfl], by rw [setG_same]; exact hal⟩
  · rcases back p _ hp with hp | ⟨hp, _⟩ | ⟨_, hp⟩
    · exact h.gone p m hp
    · subst hp; exact ⟨y0, hlq, hoq⟩
    · cases hp
  · rw [hl'] at hm
    split at hm
    · rename_i e0; subst e0; exact ⟨rfl, Nat.lt_succ_self _⟩
    · obtain ⟨h1, h2⟩ := h.names m x hm
      exact ⟨h1, Nat.lt_succ_of_lt h2⟩
  · rw [hl'] at hm
    split at hm
    · rename_i e0; subst e0; cases hm
      refine ⟨⟨x', rfl, ho⟩, fun c hc => ?_⟩
      rw [setG_same] at hc
      rcases hg c hc with h1 | h1
      · exact ⟨r, x0, .inl fr, hlr, hor, h1⟩
      · exact ⟨q, y0, .inr fq, hlq, hoq, h1⟩
    · rename_i hne
      obtain ⟨h1, h2⟩ := h.src m x hm
      refine ⟨h1, fun c hc => ?_⟩
      rw [setG_other hne] at hc
      obtain ⟨p, x0, h3, h4⟩ := h2 c hc
      exact ⟨p, x0, h3.imp (fwd p _) (fwd p _), h4⟩
  · rw [hl'] at hm
    split at hm
    · rename_i e0; subst e0; cases hm; exact hx
    · rename_i hne
      exact RootOk.grow (fun _ h => h) hturn (setG_other hne) (h.roots m x hm)
end
end Go.Am
set_option linter.unusedVariables false
set_option linter.unusedSimpArgs false
namespace Go.Am
open Go

section
variable {P : Program} {tt : TT} {sig : Sig} {C : Nat → Pk → Option Pk} {Z : Base} {e : Env} {a : Act} {w w' : World} {G : Gh} {s s' : Seen} {us : List Up} {b : Nat}
variable {α : Type} {xx : α × Seen}

theorem plain_rel {S : Nat → Prop} {rt rt' : Roots} {G G' : Gh} : ∀ {x : Atom} {u : Value}, AtomRel w S rt G x u → x.plain = true → AtomRel w S rt' G' x u ∧ x.live = true
  | .int _ _, _, h, _ => ⟨h, rfl⟩
  | .bool _, _, h, _ => ⟨h, rfl⟩
  | .str _, _, h, _ => ⟨h, rfl⟩
  | .nil, _, h, _ => ⟨h, rfl⟩
  | .ro _ _ _, _, h, _ => ⟨h, rfl⟩
  | .fn _ [], _, ⟨vs, h1, h2⟩, _ => ⟨⟨vs, h1, by cases hv : vs.toList with | nil => trivial | cons x l => rw [hv] at h2; exact h2.elim⟩, rfl⟩
  | .fn _ (_ :: _), _, _, h => by simp [Atom.plain] at h
  | .dead, _, _, h => by simp [Atom.plain] at h
  | .whole _, _, _, h => by simp [Atom.plain] at h
  | .part _ _ _, _, _, h => by simp [Atom.plain] at h
  | .box _ _, _, _, h => by simp [Atom.plain] at h
  | .elt _ _ _, _, _, h => by simp [Atom.plain] at h
  | .relt _ _ _, _, _, h => by simp [Atom.plain] at h
  | .rn _ _, _, _, h => by simp [Atom.plain] at h
  | .mp _, _, _, h => by simp [Atom.plain] at h
  | .melt _ _, _, _, h => by simp [Atom.plain] at h

/-- What a step of the handing over brings. -/
abbrev Step (C : Nat → Pk → Option Pk) (Z : Base) (e : Env) (a : Act) (w : World) (G : Gh) (b : Nat) (e1 : Env) (st : St) (H : Gh) {β : Type} (k : β → St → Pg α) (xx : α × Seen) (R : Env → St → Gh → β → Prop) : Prop :=
  ∃ y st' s1 e2 H', (k y st').run C e s1 = some xx ∧ Cn Z e a w G b e2 st' H' ∧ Le Z w G e1 st H e2 st' H' ∧ R e2 st' H' y

abbrev ARel (Z : Base) (w : World) (G : Gh) (u : Value) (e2 : Env) (st : St) (H : Gh) (y : Atom) : Prop := AtomRel w (Stab Z e2.rt G w) (outRt st) H y u ∧ y.live = true

theorem canonRo_ok {e1 : Env} {st : St} {H : Gh} (hc : Cn Z e a w G b e1 st H) {d : Kd} {r : Rid} {f : List d.den → List d.den} {k : Atom → St → Pg α} (hp : (canonRo d r f st k).run C e s = some xx) {u : Value}
    (hu : ∀ e2 xs, Rel Z e2 a w G → Le Z w G e1 st H e2 { st with mp := (r, .ro) :: st.mp } H → look e2.rt r = some (some (.fro d xs)) → AtomRel w (Stab Z e2.rt G w) e2.rt G (.ro d (f xs) false) u) :
    Step C Z e a w G b e1 st H k xx (ARel Z w G u) := by
  unfold canonRo at hp
  have key : ∀ (hu' : findU st.mp r = none ∨ findU st.mp r = some .ro) {s : Seen}, (rowOf r fun e' xs _ => match castD (fun k => List k.den) e' d xs with
      | some l => k (.ro d (f l) false) { st with mp := (r, .ro) :: st.mp }
      | none => .fail).run C e s = some xx → Step C Z e a w G b e1 st H k xx (ARel Z w G u) := by
    intro hu' s hp
    obtain ⟨d', xs, own, s1, hl, hp⟩ := run_rowOf hp
    split at hp
    case h_2 => exact run_fail hp
    rename_i l hcast
    obtain ⟨rfl, rfl⟩ := castL_eq hcast
    obtain ⟨e2, h1, h2, h3⟩ := hc.freeze hu' hl
    exact ⟨_, _, s1, e2, H, hp, h1, h2, hu e2 xs h1.rel h2 h3, rfl⟩
  split at hp
  · exact run_fail hp
  · exact run_fail hp
  · rename_i h1 h2
    refine key ?_ hp
    cases hf : findU st.mp r with
    | none => exact .inl rfl
    | some u => cases u with
      | own m => exact absurd hf (h1 m)
      | ro => exact .inr rfl
      | gone m => exact absurd hf (h2 m)

theorem canonLend_ok {e1 : Env} {st : St} {H : Gh} (hc : Cn Z e a w G b e1 st H) {d : Kd} {r : Rid} {k : Atom → St → Pg α} (hp : (canonLend d r st k).run C e s = some xx) {u : Value} (hx : BoxRel e1.rt G r 0 u) :
    Step C Z e a w G b e1 st H k xx (ARel Z w G u) := by
  unfold canonLend at hp
  split at hp
  · exact run_fail hp
  rename_i hu
  simp only [Pg.run] at hp
  have fin : ∀ {l : List Atom} {e2 : Env} {st2 : St} {x : Atom} {xs : List d.den} {s2 : Seen}, look e.rt r = some (some (.box [x])) → Cn Z e a w G b e2 st2 H → Le Z w G e1 st H e2 st2 H → findU st2.mp r = none →
      (∀ v, AtomRel w (Stab Z e1.rt G w) e1.rt G x v → SlV w (Stab Z e2.rt G w) d.size (Rd w (Stab Z e2.rt G w) d) xs v) →
      (k (.relt (.sl d) xs 0) { st2 with mp := (r, .ro) :: st2.mp }).run C e s2 = some xx → Step C Z e a w G b e1 st H k xx (ARel Z w G u) := by
    intro l e2 st2 x xs s2 hl hc2 hle hu2 hv hp
    have hl1 : look e1.rt r = some (some (.box [x])) := by rw [hc.nro r (by rw [hu]; simp)]; exact hl
    have hl2 : look e2.rt r = some (some (.box [x])) := by rw [hc2.nro r (by rw [hu2]; simp)]; exact hl
    obtain ⟨h3, h4⟩ := hc2.lend hu2 hl rfl
    have hx' := hx
    unfold BoxRel at hx'
    rw [hl1] at hx'
    obtain ⟨bb, hg, rfl⟩ := hx'
    obtain ⟨b', vs, t, h5, h6, h7, _⟩ := hc.rel.mem.roots r _ hl1
    rw [hg] at h5
    simp only [Value.pointer.injEq, Option.some.injEq, Addr.mk.injEq, and_true] at h5
    subst h5
    obtain ⟨v, hvs, hxv⟩ : ∃ v, vs.toList = [v] ∧ AtomRel w (Stab Z e1.rt G w) e1.rt G x v := by
      cases hh : vs.toList with
      | nil => rw [hh] at h7; exact h7.elim
      | cons v t => cases t with
        | nil => rw [hh] at h7; exact ⟨v, rfl, h7.1⟩
        | cons => rw [hh] at h7; exact h7.2.elim
    have hsl := hv v hxv
    have hbk : Bk (G r) bb := by rw [hg]; exact .inl rfl
    have how : Owns e2.rt G bb := ⟨r, _, hl2, rfl, hbk⟩
    have hst : Stab Z (e2.up (.rt r none)).rt G w bb := ⟨.inr ⟨hc2.rel.mem.base bb how, hc2.rel.mem.own_lt how⟩, fun ⟨q, y, g1, g2, g3⟩ => by
      by_cases hq : q = r
      · subst hq; simp [Env.up, look_setR] at g1
      · have g1' : look e2.rt q = some (some y) := by simpa [Env.up, look_setR, hq] using g1
        exact hq (hc2.rel.mem.sep q r y _ bb g1' hl2 g2 rfl g3 hbk)⟩
    refine ⟨_, _, s2, _, H, hp, h3, hle.trans h4, ⟨bb, 0, vs, t, _, [v], rfl, hst, h6, ⟨v, rfl, SlV.mono (fun c hc => ⟨h4.stab c hc, rfl⟩) (fun _ _ => Rd.mono fun c hc => ⟨h4.stab c hc, rfl⟩) hsl⟩, fun j x hj => ?_⟩, rfl⟩
    rw [Nat.zero_add, ← Array.getElem?_toList, hvs]; exact hj
  split at hp
  · rename_i r' hl
    have key : ∀ (hu' : findU st.mp r' = none ∨ findU st.mp r' = some .ro) {s : Seen}, (rowOf r' fun e' xs _ => match castD (fun k => List k.den) e' d xs with
        | some l => k (.relt (.sl d) l 0) { st with mp := (r, .ro) :: (r', .ro) :: st.mp }
        | none => .fail).run C e s = some xx → Step C Z e a w G b e1 st H k xx (ARel Z w G u) := by
      intro hu' s hp
      obtain ⟨d', xs, own, s1, hl', hp⟩ := run_rowOf hp
      split at hp
      case h_2 => exact run_fail hp
      rename_i l hcast
      obtain ⟨rfl, rfl⟩ := castL_eq hcast
      obtain ⟨e2, h1, h2, h3⟩ := hc.freeze hu' hl'
      have hne : r ≠ r' := fun e0 => by
        subst e0
        rcases hl' with ⟨_, hl'⟩ | ⟨_, hl'⟩ <;> rw [hl] at hl' <;> cases hl'
      exact fin (l := []) (st2 := { st with mp := (r', .ro) :: st.mp }) hl h1 h2 (by rw [findU_cons, if_neg hne]; exact hu) (fun v hv => (fro_whole h1.rel h3 (h2.val hv)).1) hp
    split at hp
    · exact run_fail hp
    · exact run_fail hp
    · rename_i h1 h2
      refine key ?_ hp
      cases hf : findU st.mp r' with
      | none => exact .inl rfl
      | some u => cases u with
        | own m => exact absurd hf (h1 m)
        | ro => exact .inr rfl
        | gone m => exact absurd hf (h2 m)
  · rename_i e' xs tg hl
    split at hp
    case h_2 => exact run_fail hp
    rename_i l hcast
    obtain ⟨rfl, rfl⟩ := castL_eq hcast
    exact fin (l := []) (st2 := st) hl hc .refl hu (fun v hv => hv.1) hp
  · exact run_fail hp
theorem castK_eq {a b : Kd} {x : a.den} {y : b.den} (h : castD Kd.den a b x = some y) : ∃ e : a = b, e ▸ x = y := by
  unfold castD at h
  split at h
  · rename_i hb
    exact ⟨Kd.eq_of_beq hb, Option.some.inj h⟩
  · cases h
theorem lendCells_ok : ∀ {l : List Atom} {vs : List Value} {e1 : Env} {st : St} {H : Gh} {s : Seen}, Cn Z e a w G b e1 st H → All2 (AtomRel w (Stab Z e1.rt G w) e1.rt G) l vs → ∀ {k : List Atom → St → Pg α}, (lendCells l st k).run C e s = some xx →
    Step C Z e a w G b e1 st H k xx fun e2 _ H' l' => All2 (AtomRel w (Stab Z e2.rt G w) e2.rt G) l' vs ∧ H' = H
  | [], [], e1, st, H, s, hc, _, k, hp => ⟨[], st, s, e1, H, hp, hc, .refl, trivial, rfl⟩
  | [], _ :: _, _, _, _, _, _, h, _, _ => h.elim
  | _ :: _, [], _, _, _, _, _, h, _, _ => h.elim
  | x :: l, u :: vs, e1, st, H, s, hc, hl, k, hp => by
    have pl : x.plain = true → (lendCells l st fun zs st => k (x :: zs) st).run C e s = some xx → Step C Z e a w G b e1 st H k xx fun e2 _ H' l' => All2 (AtomRel w (Stab Z e2.rt G w) e2.rt G) l' (u :: vs) ∧ H' = H := by
      intro _ hp
      obtain ⟨l', st', s1, e2, H', hp, hc', hle, hl', hH⟩ := lendCells_ok hc hl.2 hp
      exact ⟨_, st', s1, e2, H', hp, hc', hle, ⟨hle.val hl.1, hl'⟩, hH⟩
    have wh : ∀ r, x = .whole r → Step C Z e a w G b e1 st H k xx fun e2 _ H' l' => All2 (AtomRel w (Stab Z e2.rt G w) e2.rt G) l' (u :: vs) ∧ H' = H := by
      rintro r rfl
      unfold lendCells at hp
      have key : ∀ (hu' : findU st.mp r = none ∨ findU st.mp r = some .ro) {s : Seen}, (rowOf r fun e xs _ => lendCells l { st with mp := (r, .ro) :: st.mp } fun zs st => k (.ro e xs false :: zs) st).run C e s = some xx → Step C Z e a w G b e1 st H k xx fun e2 _ H' l' => All2 (AtomRel w (Stab Z e2.rt G w) e2.rt G) l' (u :: vs) ∧ H' = H := by
        intro hu' s hp
        obtain ⟨d', xs, own, s1, hl', hp⟩ := run_rowOf hp
        obtain ⟨e2, h1, h2, h3⟩ := hc.freeze hu' hl'
        obtain ⟨l', st', s1, e3, H', hp, hc', hle, hl2, hH⟩ := lendCells_ok h1 (hl.2.mono fun _ _ h => h2.val h) hp
        exact ⟨_, st', s1, e3, H', hp, hc', h2.trans hle, ⟨hle.val (fro_whole h1.rel h3 (h2.val hl.1)), hl2⟩, hH⟩
      split at hp
      · exact run_fail hp
      · exact run_fail hp
      · rename_i h1 h2
        refine key ?_ hp
        cases hf : findU st.mp r with
        | none => exact .inl rfl
        | some u => cases u with
          | own m => exact absurd hf (h1 m)
          | ro => exact .inr rfl
          | gone m => exact absurd hf (h2 m)
    cases x with
    | whole r => exact wh r rfl
    | _ =>
      obtain ⟨hpl, hp⟩ := run_bif_fail hp
      exact pl hpl hp
theorem canonLends_ok {e1 : Env} {st : St} {H : Gh} (hc : Cn Z e a w G b e1 st H) {d : Kd} {r : Rid} {k : Atom → St → Pg α} (hp : (canonLends d r st k).run C e s = some xx) {u : Value} (hx : BoxRel e1.rt G r 0 u) :
    Step C Z e a w G b e1 st H k xx (ARel Z w G u) := by
  unfold canonLends at hp
  split at hp
  · exact run_fail hp
  rename_i hu
  simp only [Pg.run] at hp
  split at hp
  case h_2 => exact run_fail hp
  rename_i l hl
  have hl1 : look e1.rt r = some (some (.box l)) := by rw [hc.nro r (by rw [hu]; simp)]; exact hl
  obtain ⟨b', vs, t, h5, h6, h7, _⟩ := hc.rel.mem.roots r _ hl1
  obtain ⟨l', st', s1, e2, H', hp, hc2, hle, hl', rfl⟩ := lendCells_ok hc h7 hp
  dsimp only at hp
  split at hp
  case h_2 => exact run_fail hp
  rename_i hu2
  split at hp
  case h_2 => exact run_fail hp
  rename_i y hy
  have hl2 : look e2.rt r = some (some (.box l)) := by rw [hc2.nro r (by rw [hu2]; simp)]; exact hl
  obtain ⟨h3, h4⟩ := hc2.lend hu2 hl rfl
  have hx' := hx
  unfold BoxRel at hx'
  rw [hl1] at hx'
  obtain ⟨bb, hg, rfl⟩ := hx'
  rw [hg] at h5
  simp only [Value.pointer.injEq, Option.some.injEq, Addr.mk.injEq, and_true] at h5
  subst h5
  have hbk : Bk (G r) bb := by rw [hg]; exact .inl rfl
  have how : Owns e2.rt G bb := ⟨r, _, hl2, rfl, hbk⟩
  have hst : Stab Z (e2.up (.rt r none)).rt G w bb := ⟨.inr ⟨hc2.rel.mem.base bb how, hc2.rel.mem.own_lt how⟩, fun ⟨q, y, g1, g2, g3⟩ => by
    by_cases hq : q = r
    · subst hq; simp [Env.up, look_setR] at g1
    · have g1' : look e2.rt q = some (some y) := by simpa [Env.up, look_setR, hq] using g1
      exact hq (hc2.rel.mem.sep q r y _ bb g1' hl2 g2 rfl g3 hbk)⟩
  have hrd := ofCells_rel hl' hy
  refine ⟨_, _, s1, _, H', hp, h3, hle.trans h4, ⟨bb, 0, vs, t, _, vs.toList, rfl, hst, h6, Rd.mono (fun c hc => ⟨h4.stab c hc, rfl⟩) hrd, fun j x hj => ?_⟩, rfl⟩
  rw [Nat.zero_add, ← Array.getElem?_toList]; exact hj
theorem ArrOk.slv {S : Nat → Prop} {d : Kd} {xs : List d.den} {v : Value} (h : ArrOk w (fun _ => False) d xs v) (hs : ∀ b, Bk v b → S b) : SlV w S d.size (Rd w S d) xs v := by
  rcases h with ⟨rfl, a, rfl⟩ | ⟨b, off, cap, cells, t, h1, h2, h3, h4, h5, h6⟩
  · exact .inl ⟨rfl, a, 0, rfl, fun _ => rfl⟩
  · exact .inr ⟨b, off, cap, cells, t, (0, 0), h1, h2, hs b (by rw [h1]; exact bk_slice.2 ⟨by omega, rfl⟩), h4, h6.mono fun _ _ => Rd.mono fun _ h => h.elim⟩
theorem DeeOk.slv {S : Nat → Prop} : ∀ {e : Kd} {xs : List e.den} {g : Value}, DeeOk w e xs g → (∀ b, Bk g b → S b) → SlV w S e.size (Rd w S e) xs (hdOf g)
  | .pr (.int k) (.sl e), xs, g, ⟨outer, bodies, h1, h2, h3, h4, h5⟩, hs => by
    subst h1
    have e0 : hdOf (.agg (outer :: bodies).toArray) = outer := by simp [hdOf]
    rw [e0]
    rcases h3 with ⟨rfl, a, rfl⟩ | ⟨b, off, cap, cells, t, k1, k2, k3, k4, k5, k6, k7⟩
    · exact .inl ⟨rfl, a, 0, rfl, fun _ => rfl⟩
    · refine .inr ⟨b, off, cap, cells, t, (0, 0), k1, k2, hs b (bk_part (List.mem_cons_self ..) (by rw [k1]; simp [blkOf]; omega)), k4, fun i x hx => ?_⟩
      have hi := (List.getElem?_eq_some_iff.1 hx).1
      have hv : bodies[i]? = some bodies[i] := List.getElem?_eq_getElem (by omega)
      obtain ⟨c1, c2⟩ := k6 i x _ hx hv
      have hsl := ArrOk.slv (S := S) (h4 i x _ hx hv) fun b' hb' => by
        rcases hb' with hb' | ⟨cs, hcs, _⟩
        · exact hs b' (bk_part (List.mem_cons_of_mem _ (List.mem_of_getElem? hv)) hb')
        · rcases h4 i x _ hx hv with ⟨_, a, h⟩ | ⟨_, _, _, _, _, h, _⟩ <;> rw [hcs] at h <;> cases h
      refine ⟨[.int k x.1, bodies[i]], ⟨[.int k x.1], [bodies[i]], rfl, rfl, _, rfl, hsl⟩, fun j v hj => ?_⟩
      match j, hj with
      | 0, hj => cases hj; exact c1
      | 1, hj => cases hj; exact c2
      | j + 2, hj => simp at hj
  | .int _, _, _, h, _ | .bool, _, _, h, _ | .str, _, _, h, _ | .sl _, _, _, h, _ => h.elim
  | .pr .bool _, _, _, h, _ | .pr .str _, _, _, h, _ | .pr (.sl _) _, _, _, h, _ | .pr (.pr _ _) _, _, _, h, _ => h.elim
  | .pr (.int _) (.int _), _, _, h, _ | .pr (.int _) .bool, _, _, h, _ | .pr (.int _) .str, _, _, h, _ | .pr (.int _) (.pr _ _), _, _, h, _ => h.elim
theorem RrOk.slv {S : Nat → Prop} {d : Kd} {xs : List (List d.den)} {g : Value} (hr : RrOk w d xs none g) (hs : ∀ b, Bk g b → S b) : SlV w S (Kd.sl d).size (Rd w S (.sl d)) xs (hdOf g) := by
  obtain ⟨⟨outer, bodies, rfl, h2, h3, h4, h5⟩⟩ := hr
  rw [hdOf_agg]
  rcases h3 with ⟨hn, a, rfl⟩ | ⟨b, off, cap, cells, t, k1, k2, k3, k4, k5, k6⟩
  · rw [hn] at h2
    have : xs = [] := List.eq_nil_of_length_eq_zero (by simpa using h2.symm)
    exact .inl ⟨this, a, 0, rfl, fun _ => rfl⟩
  · refine .inr ⟨b, off, cap, cells, t, (0, 0), by rw [k1, h2], by omega, hs b (bk_part (List.mem_cons_self ..) (by rw [k1]; simp [blkOf]; omega)), k4, fun i x hx => ?_⟩
    have hi := (List.getElem?_eq_some_iff.1 hx).1
    have hv : bodies[i]? = some bodies[i] := List.getElem?_eq_getElem (by omega)
    have hsl := ArrOk.slv (S := S) (h4 i x _ hx hv) fun b' hb' => hs b' (bk_part (List.mem_cons_of_mem _ (List.mem_of_getElem? hv)) ((h4 i x _ hx hv).bk hb'))
    refine ⟨[bodies[i]], ⟨_, rfl, hsl⟩, fun j v hj => ?_⟩
    match j, hj with
    | 0, hj =>
      cases hj
      have := k6 i _ hv (by simp)
      simpa [Kd.size] using this
    | j + 1, hj => simp at hj
theorem canonDee_ok {e1 : Env} {st : St} {H : Gh} (hc : Cn Z e a w G b e1 st H) {d : Kd} {r : Rid} {k : Atom → St → Pg α} (hp : (canonDee d r st k).run C e s = some xx) {u : Value} (hx : MapRel e1.rt r (u.oneCell' = true) (u = hdOf (G r))) :
    Step C Z e a w G b e1 st H k xx (ARel Z w G u) := by
  unfold canonDee at hp
  split at hp
  · exact run_fail hp
  rename_i hu
  simp only [Pg.run] at hp
  have hst : ∀ {m : Mp}, look e1.rt r = some (some (.map m)) → ∀ c, Bk (G r) c → Stab Z (e1.up (.rt r none)).rt G w c := fun hl1 c hbk => by
    have how : Owns e1.rt G c := ⟨r, _, hl1, rfl, hbk⟩
    refine ⟨.inr ⟨hc.rel.mem.base c how, hc.rel.mem.own_lt how⟩, fun ⟨q, y, g1, g2, g3⟩ => ?_⟩
    by_cases hq : q = r
    · subst hq; simp [Env.up, look_setR] at g1
    · have g1' : look e1.rt q = some (some y) := by simpa [Env.up, look_setR, hq] using g1
      exact hq (hc.rel.mem.sep q r y _ c g1' hl1 g2 rfl g3 hbk)
  split at hp
  case h_3 => exact run_fail hp
  · rename_i d' xs hl
    split at hp
    case h_2 => exact run_fail hp
    rename_i l hcast
    obtain ⟨rfl, rfl⟩ := castL_eq hcast
    have hl1 : look e1.rt r = some (some (.map (.dee d' xs))) := by rw [hc.nro r (by rw [hu]; simp)]; exact hl
    obtain ⟨h3, h4⟩ := hc.lend hu hl rfl
    have hok : DeeOk w d' xs (G r) := (hc.rel.mem.roots r _ hl1).1
    have hsl := hok.slv (hst hl1)
    rw [← hx.hd hl1] at hsl
    exact ⟨_, _, _, _, H, hp, h3, h4, ⟨hsl, fun h => by cases h⟩, rfl⟩
  · rename_i d' xs hl
    split at hp
    case h_2 => exact run_fail hp
    rename_i l hcast
    obtain ⟨rfl, rfl⟩ := castL_eq hcast
    have hl1 : look e1.rt r = some (some (.map (.rr d' xs none))) := by rw [hc.nro r (by rw [hu]; simp)]; exact hl
    obtain ⟨h3, h4⟩ := hc.lend hu hl rfl
    have hok : RrOk w d' xs none (G r) := (hc.rel.mem.roots r _ hl1).1
    have hsl := hok.slv (hst hl1)
    rw [← hx.hd hl1] at hsl
    exact ⟨_, _, _, _, H, hp, h3, h4, ⟨hsl, fun h => by cases h⟩, rfl⟩
/-- A row of rows of one's own, as one that is handed over. -/
theorem Cn.no {e1 : Env} {st : St} {H : Gh} (hc : Cn Z e a w G b e1 st H) : look (outRt st) (b, st.cnt) = none := by
  cases hl : look (outRt st) (b, st.cnt) with
  | none => rfl
  | some x => exact absurd (hc.names _ _ hl).2 (Nat.lt_irrefl _)
theorem rr_again {e1 : Env} {st : St} {H : Gh} (hc : Cn Z e a w G b e1 st H) {r m : Rid} {k : Atom → St → Pg α} {s : Seen} (hf : findU st.mp r = some (.own m)) (hp : (k (.mp m) st).run C e s = some xx) {u : Value} (hx : MapRel e1.rt r (u.oneCell' = true) (u = hdOf (G r))) :
    Step C Z e a w G b e1 st H k xx (ARel Z w G u) := by
  obtain ⟨x, x', h2, h3, h4⟩ := hc.own r m hf
  have hl1 : look e1.rt r = some (some x) := by rw [hc.nro r (by rw [hf]; simp)]; exact h2
  refine ⟨_, _, _, e1, H, hp, hc, .refl, ?_, rfl⟩
  show MapRel _ _ _ _
  unfold MapRel at hx ⊢
  rw [hl1] at hx
  rw [h3]
  rcases h4 with ⟨_, _, rfl, rfl, h1⟩ | ⟨_, _, rfl, rfl, h1⟩ | ⟨_, _, rfl, rfl, h1⟩
  · exact hx.elim
  · exact hx.elim
  · exact ⟨hx.1.trans h1.symm, hx.2⟩
theorem canonRr_ok {e1 : Env} {st : St} {H : Gh} (hc : Cn Z e a w G b e1 st H) {d : Kd} {r : Rid} {k : Atom → St → Pg α} (hp : (canonRr b d r st k).run C e s = some xx) {u : Value} (hx : MapRel e1.rt r (u.oneCell' = true) (u = hdOf (G r))) :
    Step C Z e a w G b e1 st H k xx (ARel Z w G u) := by
  unfold canonRr at hp
  split at hp
  · exact rr_again hc (by assumption) hp hx
  · exact run_fail hp
  rename_i hu
  simp only [Pg.run] at hp
  split at hp
  case h_2 => exact run_fail hp
  rename_i d' xs hole hl
  split at hp
  case h_2 => exact run_fail hp
  rename_i l hcast
  obtain ⟨hab, hy⟩ := castD_eq hcast
  subst hab
  subst hy
  have hl1 : look e1.rt r = some (some (.map (.rr d' xs hole))) := by rw [hc.nro r (by rw [hu]; simp)]; exact hl
  have h0 := hc.rel.mem.roots r _ hl1
  have hx1 : u.oneCell' = true := hx.one
  split at hp
  · have hok : RootOk w (Stab Z e1.rt G w) (outRt { mp := (r, .own (b, st.cnt)) :: st.mp, cnt := st.cnt + 1, out := st.out ++ [((b, st.cnt), .map (.rr d' xs none))] }) (setG H (b, st.cnt) (G r)) (b, st.cnt) (.map (.rr d' xs none)) := by
      refine ⟨?_, trivial⟩
      rw [setG_same]; exact h0.1
    obtain ⟨h1, h2⟩ := hc.add (x' := .map (.rr d' xs none)) (g := G r) rfl hok (.inr ⟨r, _, hu, hl, rfl, fun _ h => h, .inl ⟨rfl, .map _ _ rfl⟩⟩)
    refine ⟨_, _, _, e1, _, hp, h1, h2, ?_, rfl⟩
    show MapRel _ _ _ _
    unfold MapRel
    rw [outRt_add hc.no, if_pos rfl]
    exact ⟨by rw [setG_same]; exact hx.hd hl1, hx1⟩
  · rename_i i q
    split at hp
    · exact run_fail hp
    rename_i hq
    simp only [Pg.run] at hp
    split at hp
    case h_2 => exact run_fail hp
    rename_i d2 ys hlq
    split at hp
    case h_2 => exact run_fail hp
    rename_i m hcast2
    obtain ⟨hab, hy⟩ := castL_eq hcast2
    subst hab
    subst hy
    obtain ⟨hf, hp⟩ := run_bif_fail hp
    have hlq1 : look e1.rt q = some (some (.arr d2 ys)) := by rw [hc.nro q (by rw [hq]; simp)]; exact hlq
    have hrq : r ≠ q := fun e0 => by subst e0; rw [hl] at hlq; cases hlq
    have hole := h0.2.2
    unfold RowRel at hole
    rw [hlq1] at hole
    obtain ⟨g', hg1, hg2, hg3⟩ := RrOk.close h0.1 hf hole.1 (hc.rel.mem.roots q _ hlq1) fun c h1 h2 => hrq (hc.rel.mem.sep r q _ _ c hl1 hlq1 rfl rfl h1 h2)
    have hok : RootOk w (Stab Z e1.rt G w) (outRt { mp := (q, .gone (b, st.cnt)) :: (r, .own (b, st.cnt)) :: st.mp, cnt := st.cnt + 1, out := st.out ++ [((b, st.cnt), .map (.rr d2 (xs.set i ys) none))] }) (setG H (b, st.cnt) g') (b, st.cnt) (.map (.rr d2 (xs.set i ys) none)) := by
      refine ⟨?_, trivial⟩
      rw [setG_same]; exact hg1
    obtain ⟨h1, h2⟩ := hc.add2 (x' := .map (.rr d2 (xs.set i ys) none)) (g := g') rfl hok hu hq hrq hl rfl hlq rfl hg3 (.map _ _ hg2)
    refine ⟨_, _, _, e1, _, hp, h1, h2, ?_, rfl⟩
    show MapRel _ _ _ _
    unfold MapRel
    rw [outRt_add hc.no, if_pos rfl]
    exact ⟨by rw [setG_same, hg2]; exact hx.hd hl1, hx1⟩
/-- A row of rows of which one is out, handed over with that row. -/
theorem rrh_ok {e1 : Env} {st : St} {H : Gh} (hc : Cn Z e a w G b e1 st H) {d : Kd} {xs : List (List d.den)} {r q m : Rid} {i : Nat} {k : Atom → St → Pg α} {s : Seen} (hu : findU st.mp r = none) (hl : look e.rt r = some (some (.map (.rr d xs (some (i, q)))))) (hm : findU st.mp q = some (.own m))
    (hp : (k (.mp (b, st.cnt)) { mp := (r, .own (b, st.cnt)) :: st.mp, cnt := st.cnt + 1, out := st.out ++ [((b, st.cnt), .map (.rr d xs (some (i, m))))] }).run C e s = some xx) {u : Value} (hx : MapRel e1.rt r (u.oneCell' = true) (u = hdOf (G r))) :
    Step C Z e a w G b e1 st H k xx (ARel Z w G u) := by
  have hl1 : look e1.rt r = some (some (.map (.rr d xs (some (i, q))))) := by rw [hc.nro r (by rw [hu]; simp)]; exact hl
  have h0 := hc.rel.mem.roots r _ hl1
  obtain ⟨x0, x0', k2, k3, k4⟩ := hc.own q m hm
  have k2' : look e1.rt q = some (some x0) := by rw [hc.nro q (by rw [hm]; simp)]; exact k2
  have hmn : m ≠ (b, st.cnt) := fun e0 => by rw [e0, hc.no] at k3; cases k3
  have hok : RootOk w (Stab Z e1.rt G w) (outRt { mp := (r, .own (b, st.cnt)) :: st.mp, cnt := st.cnt + 1, out := st.out ++ [((b, st.cnt), .map (.rr d xs (some (i, m))))] }) (setG H (b, st.cnt) (G r)) (b, st.cnt) (.map (.rr d xs (some (i, m)))) := by
    refine ⟨?_, h0.2.1, ?_⟩
    · rw [setG_same]; exact h0.1
    · have hole := h0.2.2
      unfold RowRel at hole ⊢
      rw [k2'] at hole
      rw [outRt_add hc.no, if_neg hmn, k3]
      rcases k4 with ⟨_, _, rfl, rfl, hG⟩ | ⟨_, _, rfl, rfl, hG⟩ | ⟨_, _, rfl, rfl, hG⟩
      · exact hole.elim
      · exact ⟨by rw [setG_same, setG_other hmn, hG]; exact hole.1, trivial⟩
      · exact hole.elim
  obtain ⟨h1, h2⟩ := hc.add (x' := .map (.rr d xs (some (i, m)))) (g := G r) rfl hok (.inr ⟨r, _, hu, hl, rfl, fun _ h => h, .inl ⟨rfl, .map _ _ rfl⟩⟩)
  refine ⟨_, _, _, e1, _, hp, h1, h2, ?_, rfl⟩
  show MapRel _ _ _ _
  unfold MapRel
  rw [outRt_add hc.no, if_pos rfl]
  exact ⟨by rw [setG_same]; exact hx.hd hl1, hx.one⟩
theorem canonRrh_ok {e1 : Env} {st : St} {H : Gh} (hc : Cn Z e a w G b e1 st H) {d : Kd} {r : Rid} {k : Atom → St → Pg α} (hp : (canonRrh b d r st k).run C e s = some xx) {u : Value} (hx : MapRel e1.rt r (u.oneCell' = true) (u = hdOf (G r))) :
    Step C Z e a w G b e1 st H k xx (ARel Z w G u) := by
  unfold canonRrh at hp
  split at hp
  · exact rr_again hc (by assumption) hp hx
  · exact run_fail hp
  rename_i hu
  simp only [Pg.run] at hp
  split at hp
  case h_2 => exact run_fail hp
  rename_i d' xs i q hl
  split at hp
  case h_2 => exact run_fail hp
  rename_i l hcast
  obtain ⟨hab, hy⟩ := castD_eq hcast
  subst hab
  subst hy
  split at hp
  · rename_i m hm
    exact rrh_ok hc hu hl hm hp hx
  · exact run_fail hp
  · rename_i hq
    simp only [Pg.run] at hp
    split at hp
    case h_2 => exact run_fail hp
    rename_i d2 ys hlq
    split at hp
    case h_2 => exact run_fail hp
    rename_i m hcast2
    obtain ⟨hab, hy⟩ := castL_eq hcast2
    subst hab
    subst hy
    have hlq1 : look e1.rt q = some (some (.arr d2 ys)) := by rw [hc.nro q (by rw [hq]; simp)]; exact hlq
    have hrq : r ≠ q := fun e0 => by subst e0; rw [hl] at hlq; cases hlq
    have hok : RootOk w (Stab Z e1.rt G w) (outRt { mp := (q, .own (b, st.cnt)) :: st.mp, cnt := st.cnt + 1, out := st.out ++ [((b, st.cnt), .arr d2 ys)] }) (setG H (b, st.cnt) (G q)) (b, st.cnt) (.arr d2 ys) := by
      show ArrOk _ _ _ _ _
      rw [setG_same]; exact hc.rel.mem.roots q _ hlq1
    obtain ⟨h1, h2⟩ := hc.add (x' := .arr d2 ys) (g := G q) rfl hok (.inr ⟨q, _, hq, hlq, rfl, fun _ h => h, .inl ⟨rfl, .arr _ _ _⟩⟩)
    obtain ⟨y, st', s1, e2, H', k1, k2, k3, k4⟩ := rrh_ok (C := C) (xx := xx) (k := k) h1 (r := r) (q := q) (m := (b, st.cnt)) (by rw [findU_cons, if_neg hrq]; exact hu) hl (by rw [findU_cons, if_pos rfl]) hp hx
    exact ⟨y, st', s1, e2, H', k1, k2, h2.trans k3, k4⟩
theorem canonA_ok {e1 : Env} {st : St} {H : Gh} (hc : Cn Z e a w G b e1 st H) {sh : Sh0} {x : Atom} {u : Value} (hx : AtomRel w (Stab Z e1.rt G w) e1.rt G x u) {k : Atom → St → Pg α}
    (hp : (canonA b sh x st k).run C e s = some xx) : Step C Z e a w G b e1 st H k xx (ARel Z w G u) := by
  cases sh with
  | any =>
    obtain ⟨hpl, hp⟩ := run_bif_fail (show (bif x.plain then k x st else .fail).run C e s = some xx from hp)
    exact ⟨x, st, s, e1, H, hp, hc, .refl, plain_rel hx hpl⟩
  | ro d =>
    simp only [canonA] at hp
    split at hp
    · have hx' : u = .slice none 0 0 := hx
      subst hx'
      exact ⟨_, _, _, e1, H, hp, hc, .refl, ⟨.inl ⟨rfl, none, 0, rfl, fun _ => rfl⟩, fun h => by cases h⟩, rfl⟩
    · split at hp
      case h_2 => exact run_fail hp
      rename_i l hcast
      obtain ⟨rfl, rfl⟩ := castL_eq hcast
      exact ⟨_, _, _, e1, H, hp, hc, .refl, ⟨hx.1, fun h => by cases h⟩, rfl⟩
    · exact canonRo_ok hc hp fun e2 xs hr hle hl => fro_whole hr hl (hle.val hx)
    · exact canonRo_ok hc hp fun e2 xs hr hle hl => fro_part hr hl (hle.val hx)
    · rename_i r c
      obtain ⟨hb, hp⟩ := run_bif_fail hp
      have hc0 := Nat.eq_of_beq_eq_true hb
      subst hc0
      exact canonLend_ok hc hp hx
    · exact canonDee_ok hc hp hx
    · exact run_fail hp
  | lend d =>
    simp only [canonA] at hp
    split at hp
    · obtain ⟨hb, hp⟩ := run_bif_fail hp
      have hc0 := Nat.eq_of_beq_eq_true hb
      subst hc0
      exact canonLends_ok hc hp hx
    · obtain ⟨hb, hp⟩ := run_bif_fail hp
      have hc0 := Nat.eq_of_beq_eq_true hb
      subst hc0
      split at hp
      case h_2 => exact run_fail hp
      rename_i y hcast
      obtain ⟨rfl, rfl⟩ := castK_eq hcast
      exact ⟨_, _, _, e1, H, hp, hc, .refl, hx, rfl⟩
    · exact run_fail hp
  | map =>
    simp only [canonA] at hp
    split at hp
    case h_2 => exact run_fail hp
    rename_i r
    split at hp
    · exact run_fail hp
    rename_i hf
    simp only [Pg.run] at hp
    split at hp
    case h_2 => exact run_fail hp
    rename_i m hl
    obtain ⟨hshut, hp⟩ := run_bif_fail hp
    have hl1 : look e1.rt r = some (some (.map m)) := by rw [hc.nro r (by rw [hf]; simp)]; exact hl
    have hx' : MapRel e1.rt r (u.oneCell' = true) (u = hdOf (G r)) := hx
    unfold MapRel at hx'
    rw [hl1] at hx'
    have hok : RootOk w (Stab Z e1.rt G w) (outRt { mp := (r, .own (b, st.cnt)) :: st.mp, cnt := st.cnt + 1, out := st.out ++ [((b, st.cnt), .map m)] }) (setG H (b, st.cnt) (G r)) (b, st.cnt) (.map m) := by
      refine ⟨?_, by cases m with
        | rr e xs ho => cases ho with
          | none => trivial
          | some p => cases hshut
        | _ => trivial⟩
      rw [setG_same]; exact (hc.rel.mem.roots r _ hl1).1
    obtain ⟨h1, h2⟩ := hc.add (x' := .map m) (g := G r) rfl hok (.inr ⟨r, _, hf, hl, rfl, fun _ h => h, .inl ⟨rfl, .map _ _ rfl⟩⟩)
    refine ⟨_, _, _, e1, _, hp, h1, h2, ?_, rfl⟩
    have hl : look (outRt { mp := (r, .own (b, st.cnt)) :: st.mp, cnt := st.cnt + 1, out := st.out ++ [((b, st.cnt), .map m)] }) (b, st.cnt) = some (some (.map m)) := by
      rw [outRt_add]
      · rw [if_pos rfl]
      · cases hl : look (outRt st) (b, st.cnt) with
        | none => rfl
        | some x => exact absurd (hc.names _ _ hl).2 (Nat.lt_irrefl _)
    show MapRel _ _ _ _
    unfold MapRel
    rw [hl]
    exact ⟨by rw [setG_same]; exact hx'.1, hx'.2⟩
  | rr d =>
    simp only [canonA] at hp
    split at hp
    · have hx' : u = .slice none 0 0 := hx
      subst hx'
      have hnb : ∀ c, ¬ Bk (.agg [Value.slice none 0 0].toArray) c := fun c hc' => by
        obtain ⟨v, hv, hb⟩ := bk_agg.1 hc'
        simp at hv; subst hv; simp [blkOf] at hb
      have hok : RootOk w (Stab Z e1.rt G w) (outRt { st with cnt := st.cnt + 1, out := st.out ++ [((b, st.cnt), .map (.rr d [] none))] }) (setG H (b, st.cnt) (.agg [Value.slice none 0 0].toArray)) (b, st.cnt) (.map (.rr d [] none)) := by
        refine ⟨?_, trivial⟩
        rw [setG_same]
        refine ⟨.slice none 0 0, [], rfl, rfl, .inl ⟨rfl, none, rfl⟩, fun i x v hx => by simp at hx, fun i j v v' c h1 h2 h3 => ?_⟩
        cases i with
        | zero => simp at h1; subst h1; simp [blkOf] at h3
        | succ i => simp at h1
      obtain ⟨h1, h2⟩ := hc.add (mp := st.mp) (x' := .map (.rr d [] none)) (g := .agg [Value.slice none 0 0].toArray) rfl hok (.inl ⟨rfl, hnb⟩)
      refine ⟨_, _, _, e1, _, hp, h1, h2, ?_, rfl⟩
      show MapRel _ _ _ _
      unfold MapRel
      rw [outRt_add hc.no, if_pos rfl]
      exact ⟨by rw [setG_same]; rfl, rfl⟩
    · exact canonRr_ok hc hp hx
    · exact run_fail hp
  | rrh d =>
    simp only [canonA] at hp
    split at hp
    · exact canonRrh_ok hc hp hx
    · exact run_fail hp
  | own d =>
    simp only [canonA] at hp
    split at hp
    · have hx' : u = .slice none 0 0 := hx
      subst hx'
      have hok : RootOk w (Stab Z e1.rt G w) (outRt { st with cnt := st.cnt + 1, out := st.out ++ [((b, st.cnt), .arr d [])] }) (setG H (b, st.cnt) (.slice none 0 0)) (b, st.cnt) (.arr d []) := by
        show ArrOk _ _ _ _ _
        rw [setG_same]; exact .inl ⟨rfl, none, rfl⟩
      obtain ⟨h1, h2⟩ := hc.add (mp := st.mp) (x' := .arr d []) (g := .slice none 0 0) rfl hok (.inl ⟨rfl, fun c hc => by simp [Bk, blkOf] at hc⟩)
      refine ⟨_, _, _, e1, _, hp, h1, h2, ?_, rfl⟩
      have hl : look (outRt { st with cnt := st.cnt + 1, out := st.out ++ [((b, st.cnt), .arr d [])] }) (b, st.cnt) = some (some (.arr d [])) := by
        rw [outRt_add]
        · rw [if_pos rfl]
        · cases hl : look (outRt st) (b, st.cnt) with
          | none => rfl
          | some x => exact absurd (hc.names _ _ hl).2 (Nat.lt_irrefl _)
      show RowRel _ _ _ _
      unfold RowRel
      rw [hl]
      exact ⟨(setG_same H (b, st.cnt) _).symm, rfl⟩
    · rename_i r
      split at hp
      · rename_i m hf
        obtain ⟨x, x', h2, h3, h4⟩ := hc.own r m hf
        refine ⟨_, _, _, e1, H, hp, hc, .refl, ?_, rfl⟩
        have hl1 : look e1.rt r = some (some x) := by rw [hc.nro r (by rw [hf]; simp)]; exact h2
        have hx' : RowRel e1.rt r (u.oneCell' = true) fun _ _ => u = G r := hx
        unfold RowRel at hx'
        rw [hl1] at hx'
        show RowRel _ _ _ _
        unfold RowRel
        rw [h3]
        rcases h4 with ⟨_, _, rfl, rfl, h1⟩ | ⟨_, _, rfl, rfl, h1⟩ | ⟨_, _, rfl, rfl, h1⟩
        · exact hx'.elim
        · exact ⟨hx'.1.trans h1.symm, hx'.2⟩
        · exact hx'.elim
      · exact run_fail hp
      · rename_i hf
        simp only [Pg.run] at hp
        split at hp
        case h_2 => exact run_fail hp
        rename_i d' xs hl
        split at hp
        case h_2 => exact run_fail hp
        rename_i l hcast
        obtain ⟨rfl, rfl⟩ := castL_eq hcast
        have hl1 : look e1.rt r = some (some (.arr d' xs)) := by rw [hc.nro r (by rw [hf]; simp)]; exact hl
        have hx' : RowRel e1.rt r (u.oneCell' = true) fun _ _ => u = G r := hx
        unfold RowRel at hx'
        rw [hl1] at hx'
        have hok : RootOk w (Stab Z e1.rt G w) (outRt { mp := (r, .own (b, st.cnt)) :: st.mp, cnt := st.cnt + 1, out := st.out ++ [((b, st.cnt), .arr d' xs)] }) (setG H (b, st.cnt) (G r)) (b, st.cnt) (.arr d' xs) := by
          show ArrOk _ _ _ _ _
          rw [setG_same]; exact hc.rel.mem.roots r _ hl1
        obtain ⟨h1, h2⟩ := hc.add (x' := .arr d' xs) (g := G r) rfl hok (.inr ⟨r, _, hf, hl, rfl, fun _ h => h, .inl ⟨rfl, .arr _ _ _⟩⟩)
        refine ⟨_, _, _, e1, _, hp, h1, h2, ?_, rfl⟩
        have hl : look (outRt { mp := (r, .own (b, st.cnt)) :: st.mp, cnt := st.cnt + 1, out := st.out ++ [((b, st.cnt), .arr d' xs)] }) (b, st.cnt) = some (some (.arr d' xs)) := by
          rw [outRt_add]
          · rw [if_pos rfl]
          · cases hl : look (outRt st) (b, st.cnt) with
            | none => rfl
            | some x => exact absurd (hc.names _ _ hl).2 (Nat.lt_irrefl _)
        show RowRel _ _ _ _
        unfold RowRel
        rw [hl]
        exact ⟨hx'.1.trans (setG_same H (b, st.cnt) _).symm, hx'.2⟩
    · rename_i r o n
      split at hp
      · exact run_fail hp
      · rename_i hf
        simp only [Pg.run] at hp
        split at hp
        case h_2 => exact run_fail hp
        rename_i d' xs hl
        split at hp
        case h_2 => exact run_fail hp
        rename_i l hcast
        obtain ⟨rfl, rfl⟩ := castL_eq hcast
        have hl1 : look e1.rt r = some (some (.arr d' xs)) := by rw [hc.nro r (by rw [hf]; simp)]; exact hl
        have hx' : RowRel e1.rt r (u.oneCell' = true) fun d xs => o + n ≤ xs.length ∧ Sub (G r) d.size o n u := hx
        unfold RowRel at hx'
        rw [hl1] at hx'
        obtain ⟨h3, h4⟩ := ArrOk.sub (hc.rel.mem.roots r _ hl1) hx'.1.2 hx'.1.1
        have hok : RootOk w (Stab Z e1.rt G w) (outRt { mp := (r, .gone (b, st.cnt)) :: st.mp, cnt := st.cnt + 1, out := st.out ++ [((b, st.cnt), .arr d' ((xs.drop o).take n))] }) (setG H (b, st.cnt) u) (b, st.cnt) (.arr d' ((xs.drop o).take n)) := by
          show ArrOk _ _ _ _ _
          rw [setG_same]; exact h3
        obtain ⟨h1, h2⟩ := hc.add (x' := .arr d' ((xs.drop o).take n)) (g := u) rfl hok (.inr ⟨r, _, hf, hl, rfl, fun c hc' => by
          exact h4 c hc', .inr rfl⟩)
        refine ⟨_, _, _, e1, _, hp, h1, h2, ?_, rfl⟩
        have hl : look (outRt { mp := (r, .gone (b, st.cnt)) :: st.mp, cnt := st.cnt + 1, out := st.out ++ [((b, st.cnt), .arr d' ((xs.drop o).take n))] }) (b, st.cnt) = some (some (.arr d' ((xs.drop o).take n))) := by
          rw [outRt_add]
          · rw [if_pos rfl]
          · cases hl : look (outRt st) (b, st.cnt) with
            | none => rfl
            | some x => exact absurd (hc.names _ _ hl).2 (Nat.lt_irrefl _)
        show RowRel _ _ _ _
        unfold RowRel
        rw [hl]
        exact ⟨(setG_same H (b, st.cnt) _).symm, hx'.2⟩
    · exact run_fail hp

theorem canonAs_ok : ∀ {ss : List Sh0} {l : List Atom} {vs : List Value} {e1 : Env} {st : St} {H : Gh} {s : Seen}, Cn Z e a w G b e1 st H → All2 (AtomRel w (Stab Z e1.rt G w) e1.rt G) l vs → ∀ {k : List Atom → St → Pg α},
    (canonAs b ss l st k).run C e s = some xx → Step C Z e a w G b e1 st H k xx fun e2 st' H' l' => All2 (AtomRel w (Stab Z e2.rt G w) (outRt st') H') l' vs ∧ l'.all Atom.live = true
  | [], [], [], e1, st, H, s, hc, hl, k, hp => ⟨[], st, s, e1, H, hp, hc, .refl, trivial, rfl⟩
  | sh :: ss, x :: l, u :: vs, e1, st, H, s, hc, hl, k, hp => by
    obtain ⟨y, st', s1, e2, H', hp, hc', hle, hy⟩ := canonA_ok hc hl.1 hp
    obtain ⟨l', st'', s2, e3, H'', hp, hc'', hle', hl'⟩ := canonAs_ok hc' (hl.2.mono fun _ _ h => hle.val h) hp
    exact ⟨y :: l', st'', s2, e3, H'', hp, hc'', hle.trans hle', ⟨hle'.atom hy.1, hl'.1⟩, by simp only [List.all_cons, Bool.and_eq_true]; exact ⟨hy.2, hl'.2⟩⟩
  | [], _ :: _, _, e1, st, H, s, hc, hl, k, hp => run_fail hp
  | _ :: _, [], _, e1, st, H, s, hc, hl, k, hp => run_fail hp
  | [], [], _ :: _, e1, st, H, s, hc, hl, k, hp => hl.elim
  | _ :: _, _ :: _, [], e1, st, H, s, hc, hl, k, hp => hl.elim

theorem canonBox_ok {e1 : Env} {st : St} {H : Gh} (hc : Cn Z e a w G b e1 st H) {ss : List Sh0} {r : Rid} {k : Rid → St → Pg α} (hp : (canonBox b ss r st k).run C e s = some xx) :
    Step C Z e a w G b e1 st H k xx fun e2 st' H' m => ∀ c u, BoxRel e1.rt G r c u → BoxRel (outRt st') H' m c u := by
  unfold canonBox at hp
  split at hp
  · rename_i m hf
    obtain ⟨x, x', h2, h3, h4⟩ := hc.own r m hf
    refine ⟨_, _, _, e1, H, hp, hc, .refl, fun c u hx => ?_⟩
    have hl1 : look e1.rt r = some (some x) := by rw [hc.nro r (by rw [hf]; simp)]; exact h2
    unfold BoxRel at hx ⊢
    rw [hl1] at hx
    rw [h3]
    rcases h4 with ⟨_, _, rfl, rfl, h1⟩ | ⟨_, _, rfl, rfl, h1⟩ | ⟨_, _, rfl, rfl, h1⟩
    · rw [h1]; exact hx
    · exact hx.elim
    · exact hx.elim
  · exact run_fail hp
  · rename_i hf
    simp only [Pg.run] at hp
    split at hp
    case h_2 => exact run_fail hp
    rename_i l hl
    have hl1 : look e1.rt r = some (some (.box l)) := by rw [hc.nro r (by rw [hf]; simp)]; exact hl
    obtain ⟨b0, vs, t, h1, h2, h3, h4⟩ := hc.rel.mem.roots r _ hl1
    obtain ⟨l', st', s1, e2, H', hp, hc', hle, hl', hlive⟩ := canonAs_ok hc h3 hp
    dsimp only at hp
    split at hp
    case h_2 => exact run_fail hp
    rename_i hf'
    have hno : look (outRt st') (b, st'.cnt) = none := by
      cases hl : look (outRt st') (b, st'.cnt) with
      | none => rfl
      | some x => exact absurd (hc'.names _ _ hl).2 (Nat.lt_irrefl _)
    have hadd := fun mp s => outRt_add (x := .box l') (mp := mp) (c := st'.cnt + 1) hno s
    have hok : RootOk w (Stab Z e2.rt G w) (outRt { mp := (r, .own (b, st'.cnt)) :: st'.mp, cnt := st'.cnt + 1, out := st'.out ++ [((b, st'.cnt), .box l')] }) (setG H' (b, st'.cnt) (G r)) (b, st'.cnt) (.box l') := by
      refine ⟨b0, vs, t, by rw [setG_same]; exact h1, h2, hl'.mono fun _ _ h => AtomRel.step (fun c hc => ⟨hc, rfl⟩) (fun m x hm => ⟨x, ?_, .same x, fun _ => ?_⟩) h, hlive⟩
      · rw [hadd, if_neg]
        · exact hm
        · intro e0; rw [e0, hno] at hm; cases hm
      · exact .inl <| setG_other fun e0 => by rw [e0, hno] at hm; cases hm
    obtain ⟨h5, h6⟩ := hc'.add (x' := .box l') (g := G r) rfl hok (.inr ⟨r, _, hf', hl, rfl, fun _ h => h, .inl ⟨rfl, .box _ _ _⟩⟩)
    refine ⟨_, _, _, e2, _, hp, h5, hle.trans h6, fun c u hx => ?_⟩
    unfold BoxRel at hx ⊢
    rw [hl1] at hx
    rw [hadd, if_pos rfl, setG_same]
    exact hx
theorem canonCaps_ok : ∀ {ss : List (List Sh0)} {cs : List (Rid × Nat)} {vs : List Value} {e1 : Env} {st : St} {H : Gh} {s : Seen}, Cn Z e a w G b e1 st H → All2 (fun (rc : Rid × Nat) v => BoxRel e1.rt G rc.1 rc.2 v) cs vs → ∀ {k : List (Rid × Nat) → St → Pg α},
    (canonCaps b ss cs st k).run C e s = some xx → Step C Z e a w G b e1 st H k xx fun e2 st' H' l' => All2 (fun (rc : Rid × Nat) v => BoxRel (outRt st') H' rc.1 rc.2 v) l' vs
  | [], [], [], e1, st, H, s, hc, hl, k, hp => ⟨[], st, s, e1, H, hp, hc, .refl, trivial⟩
  | sh :: ss, (r, c) :: l, u :: vs, e1, st, H, s, hc, hl, k, hp => by
    obtain ⟨y, st', s1, e2, H', hp, hc', hle, hy⟩ := canonBox_ok hc hp
    obtain ⟨l', st'', s2, e3, H'', hp, hc'', hle', hl'⟩ := canonCaps_ok hc' (hl.2.mono fun _ _ h => hle.box h) hp
    exact ⟨(y, c) :: l', st'', s2, e3, H'', hp, hc'', hle.trans hle', hle'.obox (hy c u hl.1), hl'⟩
  | [], _ :: _, _, e1, st, H, s, hc, hl, k, hp => run_fail hp
  | _ :: _, [], _, e1, st, H, s, hc, hl, k, hp => run_fail hp
  | [], [], _ :: _, e1, st, H, s, hc, hl, k, hp => hl.elim
  | _ :: _, _ :: _, [], e1, st, H, s, hc, hl, k, hp => hl.elim
theorem comp_elim {A : Atom → Value → Prop} {g : Bool} {l : List Atom} {u : Value} (h : CompRel A (g, l) u) : ∃ vs, All2 A l vs ∧ ((g = true ∧ ∃ xs : Array Value, u = .agg xs ∧ xs.toList = vs) ∨ (g = false ∧ l.length = 1 ∧ vs = [u])) := by
  cases g with
  | true => obtain ⟨vs, h1, h2⟩ := h; exact ⟨_, h2, .inl ⟨rfl, vs, h1, rfl⟩⟩
  | false => cases l with
    | nil => exact h.elim
    | cons x l => cases l with
      | nil => exact ⟨[u], ⟨h, trivial⟩, .inr ⟨rfl, rfl, rfl⟩⟩
      | cons y l => exact h.elim
theorem comp_intro {A : Atom → Value → Prop} {g : Bool} {l : List Atom} {u : Value} {vs : List Value} (h : All2 A l vs) (hg : (g = true ∧ ∃ xs : Array Value, u = .agg xs ∧ xs.toList = vs) ∨ (g = false ∧ vs = [u])) : CompRel A (g, l) u := by
  rcases hg with ⟨rfl, xs, rfl, rfl⟩ | ⟨rfl, rfl⟩
  · exact ⟨xs, rfl, h⟩
  · cases l with
    | nil => exact h.elim
    | cons x l => cases l with
      | nil => exact h.1
      | cons y l => exact h.2.elim
theorem Le.comp {e1 e2 : Env} {st st' : St} {H H' : Gh} (h : Le Z w G e1 st H e2 st' H') {x : Bool × List Atom} {u : Value} (hx : CompRel (AtomRel w (Stab Z e1.rt G w) (outRt st) H) x u) : CompRel (AtomRel w (Stab Z e2.rt G w) (outRt st') H') x u :=
  CompRel.mono (fun _ _ h1 => h.atom h1) hx
theorem canonC_ok {ss : List Sh0} {l : List Atom} {vs : List Value} {e1 : Env} {st : St} {H : Gh} {s : Seen} (hc : Cn Z e a w G b e1 st H) (hl : All2 (AtomRel w (Stab Z e1.rt G w) e1.rt G) l vs) {k : List Atom → St → Pg α}
    (hp : (canonC b ss l st k).run C e s = some xx) : Step C Z e a w G b e1 st H k xx fun e2 st' H' l' => All2 (AtomRel w (Stab Z e2.rt G w) (outRt st') H') l' vs := by
  unfold canonC at hp
  split at hp
  · refine ⟨_, _, _, e1, H, hp, hc, .refl, ?_⟩
    match vs, hl with
    | [v], _ => exact ⟨trivial, trivial⟩
    | _ :: _ :: _, h => exact h.2.elim
  · obtain ⟨y, st', s1, e2, H', hp, hc', hle, hy, _⟩ := canonAs_ok hc hl hp
    exact ⟨y, st', s1, e2, H', hp, hc', hle, hy⟩
theorem canonTup_ok : ∀ {ss : List (Bool × List Sh0)} {l : List (Bool × List Atom)} {vs : List Value} {e1 : Env} {st : St} {H : Gh} {s : Seen}, Cn Z e a w G b e1 st H → All2 (CompRel (AtomRel w (Stab Z e1.rt G w) e1.rt G)) l vs → ∀ {k : List (Bool × List Atom) → St → Pg α},
    (canonTup b ss l st k).run C e s = some xx → Step C Z e a w G b e1 st H k xx fun e2 st' H' l' => All2 (CompRel (AtomRel w (Stab Z e2.rt G w) (outRt st') H')) l' vs
  | [], [], [], e1, st, H, s, hc, hl, k, hp => ⟨[], st, s, e1, H, hp, hc, .refl, trivial⟩
  | (g, sh) :: ss, (g', x) :: l, u :: vs, e1, st, H, s, hc, hl, k, hp => by
    obtain ⟨hg, hp1⟩ := run_bif_fail (show (bif g == g' then canonC b sh x st fun bs' st => canonTup b ss l st fun r' st => k ((g, bs') :: r') st else .fail).run C e s = some xx from hp)
    have hgg : g = g' := by simpa using hg
    subst hgg
    obtain ⟨us, h1, h2⟩ := comp_elim hl.1
    obtain ⟨y, st', s1, e2, H', hp, hc', hle, hy⟩ := canonC_ok hc h1 hp1
    obtain ⟨l', st'', s2, e3, H'', hp, hc'', hle', hl'⟩ := canonTup_ok hc' (hl.2.mono fun _ _ h => CompRel.mono (fun _ _ h => hle.val h) h) hp
    refine ⟨(g, y) :: l', st'', s2, e3, H'', hp, hc'', hle.trans hle', hle'.comp (comp_intro hy ?_), hl'⟩
    rcases h2 with h2 | ⟨h2, _, h3⟩
    · exact .inl h2
    · exact .inr ⟨h2, h3⟩
  | [], _ :: _, _, e1, st, H, s, hc, hl, k, hp => run_fail hp
  | _ :: _, [], _, e1, st, H, s, hc, hl, k, hp => run_fail hp
  | [], [], _ :: _, e1, st, H, s, hc, hl, k, hp => hl.elim
  | _ :: _, _ :: _, [], e1, st, H, s, hc, hl, k, hp => hl.elim

theorem canonV_ok {e1 : Env} {st : St} {H : Gh} (hc : Cn Z e a w G b e1 st H) {sh : Sh} {x : AV} {u : Value} (hx : AVRel (AtomRel w (Stab Z e1.rt G w) e1.rt G) x u) {k : AV → St → Pg α}
    (hp : (canonV b sh x st k).run C e s = some xx) : Step C Z e a w G b e1 st H k xx fun e2 st' H' y => AVRel (AtomRel w (Stab Z e2.rt G w) (outRt st') H') y u := by
  unfold canonV at hp
  split at hp
  · exact ⟨_, _, _, e1, H, hp, hc, .refl, trivial⟩
  · obtain ⟨y, st', s1, e2, H', hp, hc', hle, hy⟩ := canonA_ok hc hx hp
    exact ⟨_, _, _, _, _, hp, hc', hle, hy.1⟩
  · obtain ⟨vs, h1, h2⟩ := hx
    obtain ⟨y, st', s1, e2, H', hp, hc', hle, hy, _⟩ := canonAs_ok hc h2 hp
    exact ⟨_, _, _, _, _, hp, hc', hle, vs, h1, hy⟩
  · obtain ⟨y, st', s1, e2, H', hp, hc', hle, hy⟩ := canonBox_ok hc hp
    exact ⟨_, _, _, _, _, hp, hc', hle, hy _ _ hx⟩
  · obtain ⟨hg, hp⟩ := run_bif_fail hp
    rename_i f ls g cs
    have hfg := Nat.eq_of_beq_eq_true hg
    subst hfg
    obtain ⟨vs, h1, h2⟩ := hx
    obtain ⟨y, st', s1, e2, H', hp, hc', hle, hy⟩ := canonCaps_ok hc h2 hp
    exact ⟨_, _, _, _, _, hp, hc', hle, vs, h1, hy⟩
  · obtain ⟨vs, h1, h2⟩ := hx
    obtain ⟨y, st', s1, e2, H', hp, hc', hle, hy⟩ := canonTup_ok hc h2 hp
    exact ⟨_, _, _, _, _, hp, hc', hle, vs, h1, hy⟩
  · exact run_fail hp
theorem canonVs_ok : ∀ {ss : List Sh} {l : List AV} {vs : List Value} {e1 : Env} {st : St} {H : Gh} {s : Seen}, Cn Z e a w G b e1 st H → All2 (AVRel (AtomRel w (Stab Z e1.rt G w) e1.rt G)) l vs → ∀ {k : List AV → St → Pg α},
    (canonVs b ss l st k).run C e s = some xx → Step C Z e a w G b e1 st H k xx fun e2 st' H' l' => All2 (AVRel (AtomRel w (Stab Z e2.rt G w) (outRt st') H')) l' vs
  | [], [], [], e1, st, H, s, hc, hl, k, hp => ⟨[], st, s, e1, H, hp, hc, .refl, trivial⟩
  | sh :: ss, x :: l, u :: vs, e1, st, H, s, hc, hl, k, hp => by
    obtain ⟨y, st', s1, e2, H', hp, hc', hle, hy⟩ := canonV_ok hc hl.1 hp
    obtain ⟨l', st'', s2, e3, H'', hp, hc'', hle', hl'⟩ := canonVs_ok hc' (hl.2.mono fun _ _ h => AVRel.mono (fun _ _ h => hle.val h) h) hp
    exact ⟨y :: l', st'', s2, e3, H'', hp, hc'', hle.trans hle', AVRel.mono (fun _ _ h => hle'.atom h) hy, hl'⟩
  | [], _ :: _, _, e1, st, H, s, hc, hl, k, hp => run_fail hp
  | _ :: _, [], _, e1, st, H, s, hc, hl, k, hp => run_fail hp
  | [], [], _ :: _, e1, st, H, s, hc, hl, k, hp => hl.elim
  | _ :: _, _ :: _, [], e1, st, H, s, hc, hl, k, hp => hl.elim

theorem Cn.start (h : Rel Z e a w G) {H : Gh} : Cn Z e a w G b e St0 H :=
  ⟨.refl e, h, fun _ h => by simp [St0, findU] at h, fun _ _ => rfl, fun _ _ h => by simp [St0] at h, fun _ _ h => by simp [St0, findU] at h, fun _ _ h => by simp [St0, findU] at h,
    fun _ _ h => by simp [St0, ptab, look] at h, fun _ _ h => by simp [St0, ptab, look] at h, fun _ _ h => by simp [St0, ptab, look] at h⟩

/-- What is handed over fits what is there. -/
structure PkOk (Z : Base) (p : Pk) (vs : List Value) (w : World) (G : Gh) : Prop where
  args : All2 (AVRel (AtomRel w (Stab Z (ptab p.rt) G w) (ptab p.rt) G)) p.args vs
  mem : Mem Z (ptab p.rt) G w

/-- From where a callee starts. -/
def Cn.sub {e1 : Env} {st : St} {H : Gh} (h : Cn Z e a w G b e1 st H) (vs : List Value) : Base where
  vs := vs
  w := w
  B := Owns (outRt st) H
  S := Stab Z e1.rt G w
  gl := h.rel.mem.gl
  old c hc := ⟨Stab.lt h.rel.mem hc, fun ⟨m, x, h1, h2, h3⟩ => by
    obtain ⟨_, h4⟩ := h.src m _ h1
    obtain ⟨r, x0, h5, h6, h7, h8⟩ := h4 c h3
    refine hc.2 ⟨r, x0, ?_, h7, h8⟩
    rw [h.nro r fun h9 => by rcases h5 with h5 | h5 <;> rw [h5] at h9 <;> cases h9]
    exact h6⟩
theorem Cn.owns {e1 : Env} {st : St} {H : Gh} (h : Cn Z e a w G b e1 st H) {c : Nat} (ho : Owns (outRt st) H c) : ∃ r x0, ((∃ m, findU st.mp r = some (.own m)) ∨ (∃ m, findU st.mp r = some (.gone m))) ∧ look e.rt r = some (some x0) ∧ look e1.rt r = some (some x0) ∧ x0.own = true ∧ Bk (G r) c := by
  obtain ⟨m, x, h1, h2, h3⟩ := ho
  obtain ⟨r, x0, h5, h6, h7, h8⟩ := (h.src m _ h1).2 c h3
  refine ⟨r, x0, h5.imp (fun h => ⟨m, h⟩) (fun h => ⟨m, h⟩), h6, ?_, h7, h8⟩
  rw [h.nro r fun h9 => by rcases h5 with h5 | h5 <;> rw [h5] at h9 <;> cases h9]
  exact h6
theorem Cn.pk {e1 : Env} {st : St} {H : Gh} (h : Cn Z e a w G b e1 st H) {l : List AV} {vs : List Value} (hl : All2 (AVRel (AtomRel w (Stab Z e1.rt G w) (outRt st) H)) l vs) : PkOk (h.sub vs) ⟨l, st.out⟩ vs w H := by
  have hs : ∀ c, Stab Z e1.rt G w c → Stab (h.sub vs) (outRt st) H w c := fun c hc => ⟨.inl hc, ((h.sub vs).old c hc).2⟩
  refine ⟨hl.mono fun _ _ => AVRel.mono fun _ _ h1 => AtomRel.step (fun c hc => ⟨hs c hc, rfl⟩) (Turns.refl _ _) h1, fun m x hm => RootOk.grow hs (Turns.refl _ _) rfl (h.roots m x hm), fun m m' x x' c h1 h2 h3 h4 h5 h6 => ?_, fun c hc => .inl hc, Evo.refl _ _⟩
  obtain ⟨r, x0, k1, k2, k3, k4⟩ := (h.src m _ h1).2 c h5
  obtain ⟨r', x0', k1', k2', k3', k4'⟩ := (h.src m' _ h2).2 c h6
  have e1r : look e1.rt r = some (some x0) := by
    rw [h.nro r fun h9 => by rcases k1 with h5 | h5 <;> rw [h5] at h9 <;> cases h9]; exact k2
  have e1r' : look e1.rt r' = some (some x0') := by
    rw [h.nro r' fun h9 => by rcases k1' with h5 | h5 <;> rw [h5] at h9 <;> cases h9]; exact k2'
  have := h.rel.mem.sep r r' x0 x0' c e1r e1r' k3 k3' k4 k4'
  subst this
  rcases k1 with k1 | k1 <;> rcases k1' with k1' | k1' <;> rw [k1] at k1' <;> cases k1' <;> rfl
end
end Go.Am
