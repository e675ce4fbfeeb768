/- Calls, regions, loops and functions: what the evaluator says is what the code does. -/
import Derived.Test.YtfodnlonkningaaAmH
import Derived.Orders
import Derived.MapKept
import Derived.RangeFuncNested
import Derived.RangeFuncLeaves
import Derived.LoopN
import Derived.ChangeArms
import Derived.DataReads
import Derived.Below
import Derived.WideShapes
import Derived.Shelf.Spec.SlicesInsertGrow
set_option linter.unusedVariables false
set_option linter.unusedSimpArgs false
namespace Go.Am
open Go

/-! ### What comes back -/

theorem findU_mem : ∀ {l : List (Rid × Use)} {r : Rid} {u : Use}, findU l r = some u → (r, u) ∈ l
  | [], _, _, h => by simp [findU] at h
  | (s, x) :: l, r, u, h => by
    rw [findU_cons] at h
    split at h
    · rename_i e0; subst e0; cases h; exact List.mem_cons_self ..
    · exact List.mem_cons_of_mem _ (findU_mem h)
theorem find2_mem : ∀ {l : List (Rid × Rid)} {r x : Rid}, find2 l r = some x → (r, x) ∈ l
  | [], _, _, h => by simp [find2] at h
  | (s, y) :: l, r, x, h => by
    simp only [find2] at h
    cases hb : Rid.beq r s with
    | true => rw [hb] at h; cases h; rw [Rid.eq_of_beq hb]; exact List.mem_cons_self ..
    | false => rw [hb] at h; exact List.mem_cons_of_mem _ (find2_mem h)
theorem ptab_mem : ∀ {l : List (Rid × Root)} {r : Rid} {y : Option Root}, look (ptab l) r = some y → ∃ x, y = some x ∧ (r, x) ∈ l
  | [], _, _, h => by simp [ptab, look] at h
  | (s, x) :: l, r, y, h => by
    simp only [ptab, List.map_cons, look] at h
    cases hb : Rid.beq r s with
    | true => rw [hb] at h; cases h; rw [Rid.eq_of_beq hb]; exact ⟨x, rfl, List.mem_cons_self ..⟩
    | false =>
      rw [hb] at h
      obtain ⟨z, h1, h2⟩ := ptab_mem (l := l) h
      exact ⟨z, h1, List.mem_cons_of_mem _ h2⟩
theorem ptab_has : ∀ {l : List (Rid × Root)} {r : Rid} {x : Root}, (r, x) ∈ l → ∃ y, look (ptab l) r = some (some y)
  | [], _, _, h => by simp at h
  | (s, x) :: l, r, y, h => by
    simp only [ptab, List.map_cons, look]
    cases hb : Rid.beq r s with
    | true => exact ⟨x, rfl⟩
    | false =>
      rcases List.mem_cons.1 h with h | h
      · cases h; rw [Rid.beq_refl] at hb; cases hb
      · exact ptab_has h
theorem noTwice_inj {α : Type} {g : α → Rid} : ∀ {l : List α}, noTwice (l.map g) = true → ∀ {x y : α}, x ∈ l → y ∈ l → g x = g y → x = y
  | [], _, _, _, h, _, _ => by simp at h
  | z :: l, hn, x, y, hx, hy, hg => by
    simp only [List.map_cons, noTwice, Bool.and_eq_true, Bool.not_eq_true'] at hn
    have no : ∀ u ∈ l, g u ≠ g z := fun u hu e0 => by
      have : (l.map g).any (Rid.beq (g z)) = true := List.any_eq_true.2 ⟨g u, List.mem_map.2 ⟨u, hu, rfl⟩, by rw [e0]; exact Rid.beq_refl _⟩
      rw [hn.1] at this; cases this
    rcases List.mem_cons.1 hx with h1 | h1 <;> rcases List.mem_cons.1 hy with h2 | h2
    · rw [h1, h2]
    · exact absurd (by rw [← hg, h1]) (no _ h2)
    · exact absurd (by rw [hg, h2]) (no _ h1)
    · exact noTwice_inj hn.2 h1 h2 hg

theorem ups_other : ∀ {l : List Up} {e : Env} {s : Rid}, (∀ x, Up.rt s x ∉ l) → look (e.ups l).rt s = look e.rt s
  | [], _, _, _ => rfl
  | .tm d v :: l, e, s, h => by
    show look ((e.up (.tm d v)).ups l).rt s = _
    rw [ups_other fun x hx => h x (List.mem_cons_of_mem _ hx)]; rfl
  | .rt r x :: l, e, s, h => by
    show look ((e.up (.rt r x)).ups l).rt s = _
    rw [ups_other fun x hx => h x (List.mem_cons_of_mem _ hx)]
    show look (setR e.rt r x) s = _
    rw [look_setR, if_neg]
    intro e0; subst e0; exact h x (List.mem_cons_self ..)
theorem ups_all : ∀ {l : List Up} {e : Env} {s : Rid} {y : Option Root}, (∀ x, Up.rt s x ∈ l → x = y) → (∃ x, Up.rt s x ∈ l) → look (e.ups l).rt s = some y
  | [], _, _, _, _, ⟨_, h⟩ => by simp at h
  | .tm d v :: l, e, s, y, h, ⟨x, hx⟩ => by
    rcases List.mem_cons.1 hx with hx | hx
    · cases hx
    · exact ups_all (e := e.up (.tm d v)) (fun x hx => h x (List.mem_cons_of_mem _ hx)) ⟨x, hx⟩
  | .rt r z :: l, e, s, y, h, ⟨x, hx⟩ => by
    by_cases hl : ∃ x, Up.rt s x ∈ l
    · exact ups_all (e := e.up (.rt r z)) (fun x hx => h x (List.mem_cons_of_mem _ hx)) hl
    · show look ((e.up (.rt r z)).ups l).rt s = _
      rw [ups_other fun x hx => hl ⟨x, hx⟩]
      rcases List.mem_cons.1 hx with hx | hx
      · cases hx
        show look (setR e.rt _ _) _ = _
        rw [look_setR, if_pos rfl, h _ (List.mem_cons_self ..)]
      · exact absurd ⟨x, hx⟩ hl
theorem ups_tm : ∀ {l : List Up} {e : Env}, (∀ d v, Up.tm d v ∉ l) → (e.ups l).tm = e.tm
  | [], _, _ => rfl
  | .tm d v :: l, e, h => absurd (List.mem_cons_self ..) (h d v)
  | .rt r x :: l, e, h => by
    show ((e.up (.rt r x)).ups l).tm = _
    rw [ups_tm fun d v hx => h d v (List.mem_cons_of_mem _ hx)]; rfl

theorem ups_ag : ∀ {l : List Up} {e : Env}, (e.ups l).ag = e.ag
  | [], _ => rfl
  | .tm d v :: l, e => ups_ag (l := l)
  | .rt r x :: l, e => ups_ag (l := l)

theorem mem_lost {img : List Rid} : ∀ {mp : List (Rid × Use)} {u : Up}, u ∈ lost img mp ↔ ∃ r v, (r, v) ∈ mp ∧ v ≠ .ro ∧ r ∉ img ∧ u = .rt r none
  | [], u => by simp [lost]
  | (q, v) :: l, u => by
    have hb : ∀ {q : Rid}, img.any (Rid.beq q) = true ↔ q ∈ img := fun {q} => by
      rw [List.any_eq_true]
      exact ⟨fun ⟨x, h1, h2⟩ => Rid.eq_of_beq h2 ▸ h1, fun h => ⟨q, h, Rid.beq_refl _⟩⟩
    have gen : v ≠ .ro → lost img ((q, v) :: l) = (bif img.any (Rid.beq q) then lost img l else .rt q none :: lost img l) := fun hv => by cases v <;> first | rfl | exact absurd rfl hv
    by_cases hv : v = .ro
    · subst hv
      show u ∈ lost img l ↔ _
      rw [mem_lost]
      constructor
      · rintro ⟨r, v, h1, h2⟩; exact ⟨r, v, List.mem_cons_of_mem _ h1, h2⟩
      · rintro ⟨r, v, h1, h2, h3⟩
        rcases List.mem_cons.1 h1 with h1 | h1
        · cases h1; exact absurd rfl h2
        · exact ⟨r, v, h1, h2, h3⟩
    · rw [gen hv]
      cases hq : img.any (Rid.beq q) with
      | true =>
        show u ∈ lost img l ↔ _
        rw [mem_lost]
        constructor
        · rintro ⟨r, v, h1, h2⟩; exact ⟨r, v, List.mem_cons_of_mem _ h1, h2⟩
        · rintro ⟨r, v, h1, h2, h3, h4⟩
          rcases List.mem_cons.1 h1 with h1 | h1
          · cases h1; exact absurd (hb.1 hq) h3
          · exact ⟨r, v, h1, h2, h3, h4⟩
      | false =>
        show u ∈ Up.rt q none :: lost img l ↔ _
        rw [List.mem_cons, mem_lost]
        constructor
        · rintro (rfl | ⟨r, v, h1, h2⟩)
          · exact ⟨q, v, List.mem_cons_self .., hv, (fun h => by rw [hb.2 h] at hq; cases hq), rfl⟩
          · exact ⟨r, v, List.mem_cons_of_mem _ h1, h2⟩
        · rintro ⟨r, v, h1, h2, h3, h4⟩
          rcases List.mem_cons.1 h1 with h1 | h1
          · cases h1; exact .inl h4
          · exact .inr ⟨r, v, h1, h2, h3, h4⟩

section
variable {P : Program} {tt : TT} {sig : Sig} {C : Nat → Pk → Option Pk} {Z : Base} {e : Env} {a : Act} {w w' : World} {G : Gh} {s s' : Seen} {us : List Up} {b : Nat}
variable {α : Type} {xx : α × Seen}

theorem run_frzAll : ∀ {mp : List (Rid × Use)} {s : Seen} {k : List Up → Pg α}, (frzAll mp k).run C e s = some xx →
    ∃ fz s', (k fz).run C e s' = some xx ∧ (∀ d v, Up.tm d v ∉ fz) ∧ (∀ r x, Up.rt r x ∈ fz → (r, Use.ro) ∈ mp ∧ ∃ d xs, x = some (.fro d xs) ∧ (look e.rt r = some (some (.arr d xs)) ∨ look e.rt r = some (some (.fro d xs)))) ∧ (∀ r, (r, Use.ro) ∈ mp → ∃ x, Up.rt r x ∈ fz)
  | [], s, k, hp => ⟨[], s, hp, fun _ _ h => by simp at h, fun _ _ h => by simp at h, fun _ h => by simp at h⟩
  | (q, .own m) :: l, s, k, hp => by
    obtain ⟨fz, s', h1, h2, h3, h4⟩ := run_frzAll (mp := l) hp
    exact ⟨fz, s', h1, h2, fun r x h => ⟨List.mem_cons_of_mem _ (h3 r x h).1, (h3 r x h).2⟩, fun r h => by
      rcases List.mem_cons.1 h with h | h
      · cases h
      · exact h4 r h⟩
  | (q, .gone m) :: l, s, k, hp => by
    obtain ⟨fz, s', h1, h2, h3, h4⟩ := run_frzAll (mp := l) hp
    exact ⟨fz, s', h1, h2, fun r x h => ⟨List.mem_cons_of_mem _ (h3 r x h).1, (h3 r x h).2⟩, fun r h => by
      rcases List.mem_cons.1 h with h | h
      · cases h
      · exact h4 r h⟩
  | (q, .ro) :: l, s, k, hp => by
    obtain ⟨d, xs, own, s1, hl, hp⟩ := run_rowOf hp
    obtain ⟨fz, s', h1, h2, h3, h4⟩ := run_frzAll (mp := l) hp
    refine ⟨_, s', h1, fun d v h => ?_, fun r x h => ?_, fun r h => ?_⟩
    · rcases List.mem_cons.1 h with h | h
      · cases h
      · exact h2 d v h
    · rcases List.mem_cons.1 h with h | h
      · cases h
        exact ⟨List.mem_cons_self .., d, xs, rfl, hl.imp (·.2) (·.2)⟩
      · exact ⟨List.mem_cons_of_mem _ (h3 r x h).1, (h3 r x h).2⟩
    · rcases List.mem_cons.1 h with h | h
      · cases h; exact ⟨_, List.mem_cons_self ..⟩
      · obtain ⟨x, hx⟩ := h4 r h
        exact ⟨x, List.mem_cons_of_mem _ hx⟩

theorem run_backAll {mp : List (Rid × Use)} {bk : List (Rid × Rid)} {f : Rid → Rid} : ∀ {l : List (Rid × Root)} {s : Seen} {p : Pg α}, (backAll mp bk f l p).run C e s = some xx →
    (∃ s', p.run C e s' = some xx) ∧ ∀ m x, (m, x) ∈ l → (∃ r u y, find2 bk m = some r ∧ findU mp r = some (.own u) ∧ look e.rt r = some (some y) ∧ sameKd y x = true) ∨ (find2 bk m = none ∧ look e.rt (f m) = none)
  | [], s, p, hp => ⟨⟨s, hp⟩, fun _ _ h => by simp at h⟩
  | (m, x) :: l, s, p, hp => by
    unfold backAll at hp
    split at hp
    · rename_i r hr
      split at hp
      case h_2 => exact run_fail hp
      rename_i u hu
      simp only [Pg.run] at hp
      split at hp
      case h_2 => exact run_fail hp
      rename_i y hy
      obtain ⟨hk, hp⟩ := run_bif_fail hp
      obtain ⟨h1, h2⟩ := run_backAll hp
      refine ⟨h1, fun m' x' h => ?_⟩
      rcases List.mem_cons.1 h with h | h
      · cases h; exact .inl ⟨r, u, y, hr, hu, hy, hk⟩
      · exact h2 m' x' h
    · rename_i hr
      simp only [Pg.run] at hp
      split at hp
      case h_2 => exact run_fail hp
      rename_i hy
      obtain ⟨h1, h2⟩ := run_backAll hp
      refine ⟨h1, fun m' x' h => ?_⟩
      rcases List.mem_cons.1 h with h | h
      · cases h; exact .inr ⟨hr, hy⟩
      · exact h2 m' x' h

/-- The same value under two names. -/
def Pair (rt rt' : Roots) (G G' : Gh) (m r : Rid) : Prop :=
  ∃ v, (∃ g g' f f', RowRel rt r g (fun e xs => v = G r ∧ f) ∧ RowRel rt' m g' (fun e xs => v = G' m ∧ f')) ∨ ∃ c c', BoxRel rt G r c v ∧ BoxRel rt' G' m c' v
theorem Pair.eq {rt rt' : Roots} {G G' : Gh} {m r : Rid} (h : Pair rt rt' G G' m r) {x y : Root} (hx : look rt r = some (some x)) (hy : look rt' m = some (some y)) : G' m = G r := by
  obtain ⟨v, ⟨g, g', f, f', h1, h2⟩ | ⟨c, c', h1, h2⟩⟩ := h
  · unfold RowRel at h1 h2
    rw [hx] at h1; rw [hy] at h2
    have e1 : v = G r := by cases x <;> first | exact h1.elim | exact h1.1.1
    have e2 : v = G' m := by cases y <;> first | exact h2.elim | exact h2.1.1
    rw [← e1, e2]
  · unfold BoxRel at h1 h2
    rw [hx] at h1; rw [hy] at h2
    cases x <;> first | exact h1.elim | skip
    cases y <;> first | exact h2.elim | skip
    obtain ⟨b1, h3, h4⟩ := h1
    obtain ⟨b2, h5, h6⟩ := h2
    rw [h4] at h6
    simp only [Value.pointer.injEq, Option.some.injEq, Addr.mk.injEq] at h6
    rw [h3, h5, h6.1]
theorem row_pair {rt rt' : Roots} {G G' : Gh} {m r : Rid} {v : Value} {g g' : Prop} (h1 : RowRel rt r g fun _ _ => v = G r) (h2 : RowRel rt' m g' fun _ _ => v = G' m) : Pair rt rt' G G' m r := by
  refine ⟨v, .inl ⟨g, g', True, True, ?_, ?_⟩⟩
  · unfold RowRel at h1 ⊢
    split at h1 <;> simp_all
  · unfold RowRel at h2 ⊢
    split at h2 <;> simp_all
theorem caps_pair {rt rt' : Roots} {G G' : Gh} {m r : Rid} : ∀ {cs cs' : List (Rid × Nat)} {vs : List Value}, All2 (fun (rc : Rid × Nat) v => BoxRel rt G rc.1 rc.2 v) cs vs → All2 (fun (rc : Rid × Nat) v => BoxRel rt' G' rc.1 rc.2 v) cs' vs →
    (m, r) ∈ ((cs.zip cs').map fun (c, c') => (c'.1, c.1)) → Pair rt rt' G G' m r
  | [], _, _, _, _, h => by simp at h
  | _ :: _, [], _, _, _, h => by simp at h
  | c :: cs, c' :: cs', [], h1, _, _ => h1.elim
  | c :: cs, c' :: cs', v :: vs, h1, h2, h => by
    simp only [List.zip_cons_cons, List.map_cons, List.mem_cons] at h
    rcases h with h | h
    · cases h; exact ⟨v, .inr ⟨_, _, h1.1, h2.1⟩⟩
    · exact caps_pair h1.2 h2.2 h
theorem backA_pair {S S' : Nat → Prop} {rt rt' : Roots} {G G' : Gh} {x y : Atom} {v : Value} (h1 : AtomRel w S rt G x v) (h2 : AtomRel w' S' rt' G' y v) {m r : Rid} (h : (m, r) ∈ backA x y) : Pair rt rt' G G' m r := by
  unfold backA at h
  split at h
  · simp only [List.mem_singleton, Prod.mk.injEq] at h
    obtain ⟨rfl, rfl⟩ := h
    exact row_pair h1 h2
  · simp only [List.mem_singleton, Prod.mk.injEq] at h
    obtain ⟨rfl, rfl⟩ := h
    exact ⟨v, .inr ⟨_, _, h1, h2⟩⟩
  · obtain ⟨vs, rfl, h3⟩ := h1
    obtain ⟨vs', h4, h5⟩ := h2
    simp only [Value.func.injEq] at h4
    obtain ⟨_, _, rfl⟩ := h4
    exact caps_pair h3 h5 h
  · simp at h
theorem backL_pair {S S' : Nat → Prop} {rt rt' : Roots} {G G' : Gh} {m r : Rid} : ∀ {l l' : List Atom} {vs : List Value}, All2 (AtomRel w S rt G) l vs → All2 (AtomRel w' S' rt' G') l' vs → (m, r) ∈ ((l.zip l').flatMap fun (a, b) => backA a b) → Pair rt rt' G G' m r
  | [], _, _, _, _, h => by simp at h
  | _ :: _, [], _, _, _, h => by simp at h
  | _ :: _, _ :: _, [], h1, _, _ => h1.elim
  | x :: l, y :: l', v :: vs, h1, h2, h => by
    simp only [List.zip_cons_cons, List.flatMap_cons, List.mem_append] at h
    rcases h with h | h
    · exact backA_pair h1.1 h2.1 h
    · exact backL_pair h1.2 h2.2 h
theorem backV_pair {S S' : Nat → Prop} {rt rt' : Roots} {G G' : Gh} {x y : AV} {v : Value} (h1 : AVRel (AtomRel w S rt G) x v) (h2 : AVRel (AtomRel w' S' rt' G') y v) {m r : Rid} (h : (m, r) ∈ backV x y) : Pair rt rt' G G' m r := by
  unfold backV at h
  split at h
  · exact backA_pair h1 h2 h
  · obtain ⟨vs, rfl, h3⟩ := h1
    obtain ⟨vs', h4, h5⟩ := h2
    simp only [Value.agg.injEq] at h4
    subst h4
    exact backL_pair h3 h5 h
  · simp at h
theorem backs_pair {S S' : Nat → Prop} {rt rt' : Roots} {G G' : Gh} {m r : Rid} : ∀ {l l' : List AV} {vs : List Value}, All2 (AVRel (AtomRel w S rt G)) l vs → All2 (AVRel (AtomRel w' S' rt' G')) l' vs → (m, r) ∈ backs l l' → Pair rt rt' G G' m r
  | [], [], _, _, _, h => by simp [backs] at h
  | [], _ :: _, _, _, _, h => by simp [backs] at h
  | _ :: _, [], _, _, _, h => by simp [backs] at h
  | _ :: _, _ :: _, [], h1, _, _ => h1.elim
  | x :: l, y :: l', v :: vs, h1, h2, h => by
    simp only [backs, List.mem_append] at h
    rcases h with h | h
    · exact backV_pair h1.1 h2.1 h
    · exact backs_pair h1.2 h2.2 h

/-! ### Under new names -/

/-- A table under other names. -/
structure Ren (rt rt' : Roots) (G G' : Gh) (f : Rid → Rid) : Prop where
  look : ∀ m y, Am.look rt m = some y → ∃ x, y = some x ∧ Am.look rt' (f m) = some (some (renR f x)) ∧ G' (f m) = G m
theorem Ren.box {rt rt' : Roots} {G G' : Gh} {f : Rid → Rid} (h : Ren rt rt' G G' f) {r : Rid} {c : Nat} {u : Value} (hx : BoxRel rt G r c u) : BoxRel rt' G' (f r) c u := by
  unfold BoxRel at hx ⊢
  cases hl : Am.look rt r with
  | none => rw [hl] at hx; exact hx.elim
  | some y =>
    obtain ⟨x, rfl, h1, h2⟩ := h.look r y hl
    rw [hl] at hx
    rw [h1, h2]
    cases x <;> exact hx
theorem Ren.row {rt rt' : Roots} {G G' : Gh} {f : Rid → Rid} (h : Ren rt rt' G G' f) {r : Rid} {g : Prop} {F F' : (e : Kd) → List e.den → Prop} (hF : ∀ d xs, G' (f r) = G r → F d xs → F' d xs) (hx : RowRel rt r g F) : RowRel rt' (f r) g F' := by
  unfold RowRel at hx ⊢
  cases hl : Am.look rt r with
  | none => rw [hl] at hx; exact hx.elim
  | some y =>
    obtain ⟨x, rfl, h1, h2⟩ := h.look r y hl
    rw [hl] at hx
    rw [h1]
    cases x with
    | box => exact hx.elim
    | arr e xs => exact ⟨hF _ _ h2 hx.1, hx.2⟩
    | fro e xs => exact ⟨hF _ _ h2 hx.1, hx.2⟩
    | map => exact hx.elim
theorem Ren.mp {rt rt' : Roots} {G G' : Gh} {f : Rid → Rid} (h : Ren rt rt' G G' f) {r : Rid} {g : Prop} {u : Value} (hx : MapRel rt r g (u = hdOf (G r))) : MapRel rt' (f r) g (u = hdOf (G' (f r))) := by
  unfold MapRel at hx ⊢
  cases hl : Am.look rt r with
  | none => rw [hl] at hx; exact hx.elim
  | some y =>
    obtain ⟨x, rfl, h1, h2⟩ := h.look r y hl
    rw [hl] at hx
    rw [h1]
    cases x with
    | map => exact ⟨by rw [h2]; exact hx.1, hx.2⟩
    | _ => exact hx.elim
theorem Ren.melt {rt rt' : Roots} {G G' : Gh} {f : Rid → Rid} (h : Ren rt rt' G G' f) {r : Rid} {i : Nat} {u : Value} (hx : MeltRel rt G r i u) : MeltRel rt' G' (f r) i u := by
  unfold MeltRel at hx ⊢
  cases hl : Am.look rt r with
  | none => rw [hl] at hx; exact hx.elim
  | some y =>
    obtain ⟨x, rfl, h1, h2⟩ := h.look r y hl
    rw [hl] at hx
    rw [h1]
    cases x with
    | map m => cases m with
      | rr e xs ho => cases ho with
        | none => exact ⟨hx.1, hx.2.1, by rw [h2]; exact hx.2.2⟩
        | some p => exact ⟨hx.1, hx.2.1, by rw [h2]; exact hx.2.2⟩
      | _ => exact hx.elim
    | _ => exact hx.elim
theorem Ren.caps {rt rt' : Roots} {G G' : Gh} {f : Rid → Rid} (h : Ren rt rt' G G' f) : ∀ {cs : List (Rid × Nat)} {vs : List Value}, All2 (fun (rc : Rid × Nat) v => BoxRel rt G rc.1 rc.2 v) cs vs → All2 (fun (rc : Rid × Nat) v => BoxRel rt' G' rc.1 rc.2 v) (cs.map fun (r, c) => (f r, c)) vs
  | [], [], _ => trivial
  | _ :: _, _ :: _, h1 => ⟨h.box h1.1, h.caps h1.2⟩
  | [], _ :: _, h1 => h1.elim
  | _ :: _, [], h1 => h1.elim
theorem Ren.atom {S S' : Nat → Prop} {rt rt' : Roots} {G G' : Gh} {f : Rid → Rid} (h : Ren rt rt' G G' f) {x : Atom} {u : Value} (hf : x.flat = true ∨ ∀ c, S c → S' c) (hx : AtomRel w S rt G x u) : AtomRel w S' rt' G' (renA f x) u := by
  cases x with
  | dead => trivial
  | int => exact hx
  | bool => exact hx
  | str => exact hx
  | nil => exact hx
  | ro e xs t =>
    rcases hf with hf | hf
    · cases hf
    · exact ⟨SlV.mono (fun c hc => ⟨hf c hc, rfl⟩) (fun _ _ => Rd.mono fun c hc => ⟨hf c hc, rfl⟩) hx.1, hx.2⟩
  | rn e xs =>
    rcases hf with hf | hf
    · cases hf
    · exact ⟨SlV.mono (fun c hc => ⟨hf c hc, rfl⟩) (fun _ _ => Rd.mono fun c hc => ⟨hf c hc, rfl⟩) hx.1, hx.2⟩
  | whole r => exact h.row (fun _ _ hg hx => by rw [hg]; exact hx) hx
  | part r o n => exact h.row (fun _ _ hg hx => by rw [hg]; exact hx) hx
  | box r c => exact h.box hx
  | elt r i c => exact h.row (fun _ _ hg hx => by rw [hg]; exact hx) hx
  | mp r => exact h.mp hx
  | melt r i => exact h.melt hx
  | relt e x c =>
    rcases hf with hf | hf
    · cases hf
    · obtain ⟨b, o, cells, t, fr, cs, h1, h2, h3, h4, h5⟩ := hx
      exact ⟨b, o, cells, t, fr, cs, h1, hf b h2, h3, Rd.mono (fun c hc => ⟨hf c hc, rfl⟩) h4, h5⟩
  | fn g cs => obtain ⟨vs, h1, h2⟩ := hx; exact ⟨vs, h1, h.caps h2⟩
theorem All2.map_left {α β γ : Type} {R : α → β → Prop} {R' : γ → β → Prop} {g : α → γ} : ∀ {l : List α} {m : List β}, (∀ x ∈ l, ∀ y, R x y → R' (g x) y) → All2 R l m → All2 R' (l.map g) m
  | [], [], _, _ => trivial
  | _ :: _, _ :: _, hf, h => ⟨hf _ (List.mem_cons_self ..) _ h.1, All2.map_left (fun x hx => hf x (List.mem_cons_of_mem _ hx)) h.2⟩
  | [], _ :: _, _, h => h.elim
  | _ :: _, [], _, h => h.elim
theorem Ren.atoms {S S' : Nat → Prop} {rt rt' : Roots} {G G' : Gh} {f : Rid → Rid} (h : Ren rt rt' G G' f) {l : List Atom} {vs : List Value} (hf : l.all Atom.flat = true ∨ ∀ c, S c → S' c) (hx : All2 (AtomRel w S rt G) l vs) : All2 (AtomRel w S' rt' G') (l.map (renA f)) vs :=
  hx.map_left fun x hm _ hr => h.atom (hf.imp (fun h => List.all_eq_true.1 h x hm) id) hr
theorem Ren.val {S S' : Nat → Prop} {rt rt' : Roots} {G G' : Gh} {f : Rid → Rid} (h : Ren rt rt' G G' f) {x : AV} {u : Value} (hf : flatV x = true ∨ ∀ c, S c → S' c) (hx : AVRel (AtomRel w S rt G) x u) : AVRel (AtomRel w S' rt' G') (renV f x) u := by
  cases x with
  | one x => exact h.atom hf hx
  | agg l => obtain ⟨vs, h1, h2⟩ := hx; exact ⟨vs, h1, h.atoms hf h2⟩
  | tup l =>
    obtain ⟨vs, h1, h2⟩ := hx
    refine ⟨vs, h1, h2.map_left fun x hm y hr => ?_⟩
    obtain ⟨g, l'⟩ := x
    obtain ⟨us, h3, h4⟩ := comp_elim hr
    have hf' : l'.all Atom.flat = true ∨ ∀ c, S c → S' c := hf.imp (fun h => List.all_eq_true.1 (show (l.all fun x => x.2.all Atom.flat) = true from h) (g, l') hm) id
    refine comp_intro (h.atoms hf' h3) ?_
    rcases h4 with h4 | ⟨h4, _, h5⟩
    · exact .inl h4
    · exact .inr ⟨h4, h5⟩
theorem renA_live (f : Rid → Rid) (x : Atom) : (renA f x).live = x.live := by cases x <;> rfl
theorem Ren.root {S S' : Nat → Prop} {rt rt' : Roots} {G G' : Gh} {f : Rid → Rid} (h : Ren rt rt' G G' f) {m : Rid} {x : Root} (hg : G' (f m) = G m) (hf : x.flat = true ∨ ∀ c, S c → S' c) (hx : RootOk w S rt G m x) : RootOk w S' rt' G' (f m) (renR f x) := by
  cases x with
  | box l =>
    obtain ⟨b, vs, t, h1, h2, h3, h4⟩ := hx
    refine ⟨b, vs, t, by rw [hg]; exact h1, h2, h.atoms hf h3, ?_⟩
    rw [List.all_map]
    refine List.all_eq_true.2 fun x hx => ?_
    show (renA f x).live = true
    rw [renA_live]; exact List.all_eq_true.1 h4 x hx
  | arr d xs =>
    show ArrOk w S' d xs (G' (f m))
    rw [hg]
    rcases hf with hf | hf
    · exact ArrOk.flat hf hx
    · exact ArrOk.blk hx (fun c hc => ⟨hf c hc, rfl⟩) fun _ _ => rfl
  | fro d xs =>
    rcases hf with hf | hf
    · cases hf
    · show SlV w S' d.size (Rd w S' d) xs (G' (f m))
      rw [hg]
      exact SlV.mono (fun c hc => ⟨hf c hc, rfl⟩) (fun _ _ => Rd.mono fun c hc => ⟨hf c hc, rfl⟩) hx
  | map m0 =>
    cases m0 with
    | rr e xs ho => cases ho with
      | none => exact ⟨by rw [hg]; exact hx.1, trivial⟩
      | some p => exact ⟨by rw [hg]; exact hx.1, hx.2.1, h.row (fun _ _ hq ⟨b, o, n, cap, cells, t, h1, h2, h3⟩ => ⟨b, o, n, cap, cells, t, by rw [hg]; exact h1, h2, by rw [hq]; exact h3⟩) hx.2.2⟩
    | _ => exact ⟨by rw [hg]; exact hx.1, trivial⟩
theorem renR_own (f : Rid → Rid) (x : Root) : (renR f x).own = x.own := by cases x <;> rfl
end
end Go.Am
set_option linter.unusedVariables false
set_option linter.unusedSimpArgs false
namespace Go.Am
open Go

section
variable {P : Program} {tt : TT} {sig : Sig} {C : Nat → Pk → Option Pk} {Z : Base} {e : Env} {a : Act} {w w' : World} {G : Gh} {s s' : Seen} {us : List Up} {b : Nat}

def newG (f : Rid → Rid) (l : List (Rid × Root)) (G' G : Gh) : Gh := fun s => match l.find? fun x => Rid.beq s (f x.1) with
  | some x => G' x.1
  | none => G s
theorem newG_in {f : Rid → Rid} {l : List (Rid × Root)} {G' G : Gh} (hn : noTwice (l.map fun x => f x.1) = true) {x : Rid × Root} (hx : x ∈ l) : newG f l G' G (f x.1) = G' x.1 := by
  unfold newG
  cases hf : l.find? fun y => Rid.beq (f x.1) (f y.1) with
  | none => exact absurd (Rid.beq_refl _) (by have := List.find?_eq_none.1 hf x hx; simpa using this)
  | some y =>
    have h1 := List.find?_some hf
    have h2 := List.mem_of_find?_eq_some hf
    have := noTwice_inj (g := fun x : Rid × Root => f x.1) hn hx h2 (Rid.eq_of_beq h1)
    rw [this]
theorem newG_out {f : Rid → Rid} {l : List (Rid × Root)} {G' G : Gh} {s : Rid} (hs : s ∉ l.map fun x => f x.1) : newG f l G' G s = G s := by
  unfold newG
  cases hf : l.find? fun y => Rid.beq s (f y.1) with
  | none => rfl
  | some y =>
    have h1 := List.find?_some hf
    have h2 := List.mem_of_find?_eq_some hf
    exact absurd (List.mem_map.2 ⟨y, h2, (Rid.eq_of_beq h1).symm⟩) hs

theorem same_len {S S' : Nat → Prop} {d : Kd} {xs ys : List d.den} {g : Value} (h : ArrOk w S d xs g) (k : ArrOk w' S' d ys g) : xs.length = ys.length := by
  rcases h with ⟨rfl, ad, rfl⟩ | ⟨b, off, cap, cells, t, rfl, _⟩
  · rcases k with ⟨rfl, _⟩ | ⟨b, off, cap, cells, t, h, _⟩
    · rfl
    · simp only [Value.slice.injEq] at h; exact h.2.1
  · rcases k with ⟨rfl, ad, h⟩ | ⟨b, off, cap, cells, t, h, _⟩
    · simp only [Value.slice.injEq] at h; exact h.2.1
    · simp only [Value.slice.injEq] at h; exact h.2.1

/-- What a call turns in the caller. -/
theorem back_rel {e1 : Env} {st : St} {H : Gh} (hc : Cn Z e a w G b e1 st H) (h : Rel Z e a w G) {q : Pk} {G' : Gh} {vs0 : List Value} (hm : Mem (hc.sub vs0) (ptab q.rt) G' w') {f : Rid → Rid} (hn : noTwice (q.rt.map fun x => f x.1) = true)
    (hback : ∀ m x, (m, x) ∈ q.rt → (∃ r u y, f m = r ∧ findU st.mp r = some (.own u) ∧ look e.rt r = some (some y) ∧ sameKd y x = true ∧ G' m = G r) ∨ look e.rt (f m) = none)
    {e0 : Env} (he0 : (e0 = e ∧ (∀ x ∈ q.rt, x.2.flat = true)) ∨ e0 = e1) {rt' : Roots} (hA : ∀ x ∈ q.rt, look rt' (f x.1) = some (some (renR f x.2))) (hB : ∀ r u, r ∉ (q.rt.map fun x => f x.1) → findU st.mp r = some u → u ≠ .ro → look rt' r = some none)
    (hC : ∀ r, r ∉ (q.rt.map fun x => f x.1) → (∀ u, findU st.mp r = some u → u = .ro) → look rt' r = look e0.rt r) :
    Ren (ptab q.rt) rt' G' (newG f q.rt G' G) f ∧ (e0 = e1 → ∀ c, Stab (hc.sub vs0) (ptab q.rt) G' w' c → Stab Z rt' (newG f q.rt G' G) w' c) ∧ Rel Z { e with rt := rt' } a w' (newG f q.rt G' G) := by
  have h0 : Rel Z e0 a w G := by
    rcases he0 with ⟨h1, _⟩ | h1 <;> rw [h1]
    · exact h
    · exact hc.rel
  have hnm : ∀ r, (∃ u, findU st.mp r = some u ∧ u ≠ .ro) → look e0.rt r = look e.rt r := fun r ⟨u, h1, h2⟩ => by
    rcases he0 with ⟨h3, _⟩ | h3 <;> rw [h3]
    exact hc.nro r fun h4 => by rw [h1] at h4; exact h2 (Option.some.inj h4)
  have hfresh : ∀ r, look e.rt r = none → look e0.rt r = none := fun r hr => by
    rcases he0 with ⟨h3, _⟩ | h3 <;> rw [h3]
    · exact hr
    · rcases hc.fz.rt r with h4 | ⟨d, xs, h4, _⟩ | ⟨l, h4, _⟩
      · rw [h4]; exact hr
      · rw [hr] at h4; cases h4
      · rw [hr] at h4; cases h4
  have hinj : ∀ {x y : Rid × Root}, x ∈ q.rt → y ∈ q.rt → f x.1 = f y.1 → x = y := fun hx hy hg => noTwice_inj (g := fun x : Rid × Root => f x.1) hn hx hy hg
  have hlook : ∀ {m : Rid} {x : Root}, (m, x) ∈ q.rt → look (ptab q.rt) m = some (some x) := fun {m x} hx => by
    obtain ⟨y, hy⟩ := ptab_has hx
    obtain ⟨z, h1, h2⟩ := ptab_mem hy
    cases h1
    have := hinj hx h2 rfl
    cases this; exact hy
  have hin : ∀ {x : Rid × Root}, x ∈ q.rt → f x.1 ∈ (q.rt.map fun x => f x.1) := fun hx => List.mem_map.2 ⟨_, hx, rfl⟩
  have hren : Ren (ptab q.rt) rt' G' (newG f q.rt G' G) f := ⟨fun m y hy => by
    obtain ⟨x, rfl, hx⟩ := ptab_mem hy
    exact ⟨x, rfl, hA (m, x) hx, newG_in hn (x := (m, x)) hx⟩⟩
  have ownsB : ∀ {c : Nat}, Owns (outRt st) H c → ∃ r x0, (∃ u, findU st.mp r = some u ∧ u ≠ .ro) ∧ look e0.rt r = some (some x0) ∧ x0.own = true ∧ Bk (G r) c := fun ho => by
    obtain ⟨r, x0, h1, h2, h3, h4, h5⟩ := hc.owns ho
    have h6 : ∃ u, findU st.mp r = some u ∧ u ≠ .ro := by rcases h1 with ⟨m, h1⟩ | ⟨m, h1⟩ <;> exact ⟨_, h1, by simp⟩
    exact ⟨r, x0, h6, by rw [hnm r h6]; exact h2, h4, h5⟩
  -- names that are left alone
  have left : ∀ {r : Rid} {x : Root}, r ∉ (q.rt.map fun x => f x.1) → look rt' r = some (some x) → look e0.rt r = some (some x) ∧ (∀ u, findU st.mp r = some u → u = .ro) := fun {r x} hr hx => by
    have h1 : ∀ u, findU st.mp r = some u → u = .ro := fun u hu => by
      by_cases h2 : u = .ro
      · exact h2
      · rw [hB r u hr hu h2] at hx; cases hx
    exact ⟨by rw [← hC r hr h1]; exact hx, h1⟩
  have leftB : ∀ {r : Rid} {x : Root} {c : Nat}, look e0.rt r = some (some x) → (∀ u, findU st.mp r = some u → u = .ro) → x.own = true → Bk (G r) c → ¬ Owns (outRt st) H c ∧ c < w.heap.size := fun {r x c} h1 h2 h3 h4 => by
    refine ⟨fun ho => ?_, h0.mem.own_lt ⟨r, x, h1, h3, h4⟩⟩
    obtain ⟨r', x0, ⟨u, h5, h6⟩, h7, h8, h9⟩ := ownsB ho
    have := h0.mem.sep r r' x x0 c h1 h7 h3 h8 h4 h9
    subst this
    exact h6 (h2 u h5)
  have ownsN : ∀ {c : Nat}, Owns rt' (newG f q.rt G' G) c → Owns (ptab q.rt) G' c ∨ ∃ r x, r ∉ (q.rt.map fun x => f x.1) ∧ look rt' r = some (some x) ∧ look e0.rt r = some (some x) ∧ (∀ u, findU st.mp r = some u → u = .ro) ∧ x.own = true ∧ Bk (G r) c := fun {c} ⟨r, x, h1, h2, h3⟩ => by
    by_cases hr : r ∈ (q.rt.map fun x => f x.1)
    · obtain ⟨⟨m, y⟩, hy, rfl⟩ := List.mem_map.1 hr
      rw [hA _ hy] at h1
      cases h1
      rw [newG_in hn hy] at h3
      rw [renR_own] at h2
      exact .inl ⟨m, y, hlook hy, h2, h3⟩
    · rw [newG_out hr] at h3
      obtain ⟨h4, h5⟩ := left hr h1
      exact .inr ⟨r, x, hr, h1, h4, h5, h2, h3⟩
  have hevo := hm.evo
  have hchg : Chg Z e0.rt G w rt' (newG f q.rt G' G) w' :=
    { os := hevo.os, tape := hevo.tape, output := hevo.output, size := hevo.size
      block := fun c h1 h2 => hevo.block c h1 fun h3 => by
        obtain ⟨r, x0, _, h5, h6, h7⟩ := ownsB h3
        exact h2 ⟨r, x0, h5, h6, h7⟩
      own := fun c hco => by
        rcases ownsN hco with ho | ⟨r, x, _, _, h1, _, h2, h3⟩
        · rcases hm.base c ho with h1 | h1
          · obtain ⟨r, x0, _, h5, h6, h7⟩ := ownsB h1
            exact .inl ⟨r, x0, h5, h6, h7⟩
          · exact .inr h1
        · exact .inl ⟨r, x, h1, h2, h3⟩
      turns := fun r x hx => by
        by_cases hr : r ∈ (q.rt.map fun x => f x.1)
        · obtain ⟨⟨m, y⟩, hy, rfl⟩ := List.mem_map.1 hr
          refine ⟨_, hA _ hy, ?_, fun _ => ?_⟩
          · rcases hback m y hy with ⟨r, u, z, h1, h2, h3, h4, h5⟩ | h1
            · have h6 : look e0.rt (f m) = some (some z) := by rw [h1, hnm r ⟨_, h2, by simp⟩]; exact h3
              rw [h6] at hx
              cases hx
              cases z with
              | box l => cases y <;> first | exact .box | simp [sameKd] at h4
              | arr d xs =>
                cases y with
                | arr d' ys =>
                  have hd := Kd.eq_of_beq (show d.beq d' = true from h4)
                  subst hd
                  have k1 : ArrOk w _ d xs (G (f m)) := h0.mem.roots _ _ h6
                  have k2 : ArrOk w' _ d ys (G' m) := hm.roots _ _ (hlook hy)
                  rw [h5, ← h1] at k2
                  exact .arr (Nat.le_of_eq (same_len k1 k2))
                | _ => simp [sameKd] at h4
              | fro d xs => cases y <;> simp [sameKd] at h4
              | map m0 => cases y <;> simp [sameKd] at h4
            · rw [hfresh _ h1] at hx; cases hx
          · left
            rw [newG_in hn hy]
            rcases hback m y hy with ⟨r, u, z, h1, h2, h3, h4, h5⟩ | h1
            · rw [h5, ← h1]
            · rw [hfresh _ h1] at hx; cases hx
        · by_cases hu : ∃ u, findU st.mp r = some u ∧ u ≠ .ro
          · obtain ⟨u, h1, h2⟩ := hu
            refine ⟨none, hB r u hr h1 h2, ?_, fun h => absurd rfl h⟩
            rw [hnm r ⟨u, h1, h2⟩] at hx
            cases u with
            | own m => obtain ⟨y, _, h3, _⟩ := hc.own r m h1; rw [h3] at hx; cases hx; exact .gone _
            | gone m => obtain ⟨y, h3, _⟩ := hc.gone r m h1; rw [h3] at hx; cases hx; exact .gone _
            | ro => exact absurd rfl h2
          · have h1 : ∀ u, findU st.mp r = some u → u = .ro := fun u h => by
              by_cases h2 : u = .ro
              · exact h2
              · exact absurd ⟨u, h, h2⟩ hu
            exact ⟨x, by rw [hC r hr h1]; exact hx, .same x, fun _ => .inl (newG_out hr)⟩ }
  have hstab : e0 = e1 → ∀ c, Stab (hc.sub vs0) (ptab q.rt) G' w' c → Stab Z rt' (newG f q.rt G' G) w' c := fun he c hs => by
    have hlt : c < w'.heap.size := Stab.lt hm hs
    refine ⟨?_, fun ho => ?_⟩
    · rcases hs.1 with h1 | ⟨h1 | h1, h2⟩
      · rcases h1.1 with h1 | h1
        · exact .inl h1
        · exact .inr ⟨h1.1, hlt⟩
      · obtain ⟨r, x0, _, h5, h6, h7⟩ := ownsB h1
        exact .inr ⟨h0.mem.base c ⟨r, x0, h5, h6, h7⟩, hlt⟩
      · exact .inr ⟨.inr (Nat.le_trans h0.mem.evo.size h1), hlt⟩
    · rcases ownsN ho with ho | ⟨r, x, _, _, h1, h2, h3, h4⟩
      · exact hs.2 ho
      · obtain ⟨h5, h6⟩ := leftB h1 h2 h3 h4
        rcases hs.1 with h7 | ⟨h7 | h7, _⟩
        · exact h7.2 ⟨r, x, by rw [← he]; exact h1, h3, h4⟩
        · exact h5 h7
        · exact absurd h6 (Nat.not_lt.2 h7)
  refine ⟨hren, hstab, ?_⟩
  have hmem : Mem Z rt' (newG f q.rt G' G) w' := by
    refine hchg.mem h0.mem (fun r x hx => ?_) (fun r r' x x' c h1 h2 h3 h4 h5 h6 => ?_)
    · by_cases hr : r ∈ (q.rt.map fun x => f x.1)
      · obtain ⟨⟨m, y⟩, hy, rfl⟩ := List.mem_map.1 hr
        rw [hA _ hy] at hx
        cases hx
        right
        refine hren.root (newG_in hn hy) ?_ (hm.roots _ _ (hlook hy))
        rcases he0 with ⟨_, h1⟩ | h1
        · exact .inl (h1 _ hy)
        · exact .inr (hstab h1)
      · obtain ⟨h1, h2⟩ := left hr hx
        refine .inl ⟨h1, newG_out hr, fun ho c hb => ?_⟩
        obtain ⟨h3, h4⟩ := leftB h1 h2 ho hb
        exact hevo.block c h4 h3
    · by_cases hr : r ∈ (q.rt.map fun x => f x.1) <;> by_cases hr' : r' ∈ (q.rt.map fun x => f x.1)
      · obtain ⟨⟨m, y⟩, hy, rfl⟩ := List.mem_map.1 hr
        obtain ⟨⟨m', y'⟩, hy', rfl⟩ := List.mem_map.1 hr'
        rw [hA _ hy] at h1; cases h1
        rw [hA _ hy'] at h2; cases h2
        rw [newG_in hn hy] at h5
        rw [newG_in hn hy'] at h6
        rw [renR_own] at h3 h4
        have := hm.sep m m' y y' c (hlook hy) (hlook hy') h3 h4 h5 h6
        subst this; rfl
      · obtain ⟨⟨m, y⟩, hy, rfl⟩ := List.mem_map.1 hr
        rw [hA _ hy] at h1; cases h1
        rw [newG_in hn hy] at h5
        rw [newG_out hr'] at h6
        rw [renR_own] at h3
        obtain ⟨k1, k2⟩ := left hr' h2
        obtain ⟨k3, k4⟩ := leftB k1 k2 h4 h6
        rcases hm.base c ⟨m, y, hlook hy, h3, h5⟩ with k5 | k5
        · exact absurd k5 k3
        · exact absurd k4 (Nat.not_lt.2 k5)
      · obtain ⟨⟨m, y⟩, hy, rfl⟩ := List.mem_map.1 hr'
        rw [hA _ hy] at h2; cases h2
        rw [newG_in hn hy] at h6
        rw [newG_out hr] at h5
        rw [renR_own] at h4
        obtain ⟨k1, k2⟩ := left hr h1
        obtain ⟨k3, k4⟩ := leftB k1 k2 h3 h5
        rcases hm.base c ⟨m, y, hlook hy, h4, h6⟩ with k5 | k5
        · exact absurd k5 k3
        · exact absurd k4 (Nat.not_lt.2 k5)
      · obtain ⟨k1, k2⟩ := left hr h1
        obtain ⟨k1', k2'⟩ := left hr' h2
        rw [newG_out hr] at h5
        rw [newG_out hr'] at h6
        exact h0.mem.sep r r' x x' c k1 k1' h3 h4 h5 h6
  suffices h9 : _ ∧ _ from ⟨h.df, h9.1, hmem, h9.2⟩
  have htm : e0.tm = e.tm := by
    rcases he0 with ⟨h1, _⟩ | h1 <;> rw [h1]
    exact hc.fz.tm
  have hag : e0.ag = e.ag := by
    rcases he0 with ⟨h1, _⟩ | h1 <;> rw [h1]
    exact hc.fz.ag
  have h7 := hchg.tm h0.mem h0.tm
  have h8 := hchg.tm h0.mem h0.ag
  rw [htm] at h7
  rw [hag] at h8
  exact ⟨h7, h8⟩
end
end Go.Am
set_option linter.unusedVariables false
set_option linter.unusedSimpArgs false
namespace Go.Am
open Go

/-- A call comes back, whatever asked for it. -/
def Does (P : Program) (f : FuncId) (args : Array Value) (w : World) (R : Value → World → Prop) : Prop :=
  ∀ (o : Oper) (a : Act) (next : Act → World → Prop) (Q : Exit → Act → World → Prop), (∀ v w', R v w' → next (a.put o.dst v) w') → o.upon P a next Q ((callFunc f args).run P w)
/-- What a callee's packet means. -/
def OkC (P : Program) (C : Nat → Pk → Option Pk) : Prop :=
  ∀ f p q, C f p = some q → ∀ (Z : Base) (vs : Array Value) (H : Gh), Z.vs = vs.toList → PkOk Z p vs.toList Z.w H → Does P f vs Z.w fun v w' => ∃ H', PkOk Z q (v :: vs.toList) w' H'

theorem Does.of_calls {P : Program} {f : FuncId} {fn : Func} {c : Code} {args : Array Value} {w : World} {R : Value → World → Prop} (hf : P.funcs[f]? = some fn) (hb : fn.body = some c) (hn : (fn.name == "runtime.NumGoroutine") = false)
    (h : Calls P f args w fun e w' => ∃ v, e = .returned v ∧ R v w') : Does P f args w R := by
  intro o a next Q hk
  have : (callFunc f args).run P w = .ok (.enter f args) w := by
    simp only [callFunc, Sem.run_bind, run_program, Result.andThen_ok, hf, hn, hb, Option.isNone_some]
    rfl
  rw [this, Oper.upon_enter]
  refine Calls.mono h ?_
  rintro e w' ⟨v, rfl, hr⟩
  exact hk v w' hr

section
variable {P : Program} {tt : TT} {sig : Sig} {C : Nat → Pk → Option Pk} {Z : Base} {e : Env} {a : Act} {w w' : World} {G : Gh} {s s' : Seen} {us : List Up} {b : Nat}

theorem Pk.flat_rt {q : Pk} (h : q.flat = true) : ∀ x ∈ q.rt, x.2.flat = true := by
  simp only [Pk.flat, Bool.and_eq_true, List.all_eq_true] at h
  exact h.2
theorem Pk.flat_args {q : Pk} (h : q.flat = true) : ∀ x ∈ q.args, flatV x = true := by
  simp only [Pk.flat, Bool.and_eq_true, List.all_eq_true] at h
  exact h.1

theorem callBack_ok {e1 : Env} {st : St} {H : Gh} (hc : Cn Z e a w G b e1 st H) (h : Rel Z e a w G) {q : Pk} {G' : Gh} {v : Value} {vs : List Value} {args : List AV} {d : Option Nat}
    (hargs : All2 (VRel Z e G w) args vs) {vs0 : List Value} (hq : PkOk (hc.sub vs0) q (v :: vs) w' G') (hp : (callBack d args st q).run C e s = some (us, s')) :
    ∃ G'', Rel Z (e.ups us) (a.put d v) w' G'' := by
  unfold callBack at hp
  split at hp
  · exact run_fail hp
  rename_i res outs hqa
  have hqargs := hq.args
  rw [hqa] at hqargs
  obtain ⟨hres, houts⟩ := hqargs
  obtain ⟨hn, hp⟩ := run_bif_fail hp
  obtain ⟨⟨s1, hp⟩, hall⟩ := run_backAll hp
  generalize hbk : backs args outs = bk at *
  generalize hfd : toOld bk (d.getD 999999) = f at *
  have hback : ∀ m x, (m, x) ∈ q.rt → (∃ r u y, f m = r ∧ findU st.mp r = some (.own u) ∧ look e.rt r = some (some y) ∧ sameKd y x = true ∧ G' m = G r) ∨ look e.rt (f m) = none := by
    intro m x hx
    rcases hall m x hx with ⟨r, u, y, h1, h2, h3, h4⟩ | ⟨_, h1⟩
    · have hfm : f m = r := by rw [← hfd]; simp [toOld, h1]
      have hpair := backs_pair hargs houts (by rw [hbk]; exact find2_mem h1)
      obtain ⟨z, hz⟩ := ptab_has hx
      exact .inl ⟨r, u, y, hfm, h2, h3, h4, hpair.eq h3 hz⟩
    · exact .inr h1
  have hfr : ∃ fz s2, us = (lost (q.rt.map fun x => f x.1) st.mp ++ fz ++ q.rt.map (fun x => Up.rt (f x.1) (some (renR f x.2)))) ++ upD d (renV f res) ∧ (∀ d v, Up.tm d v ∉ fz) ∧
      ((q.flat = true ∧ fz = []) ∨ ((∀ r x, Up.rt r x ∈ fz → (r, Use.ro) ∈ st.mp ∧ ∃ d xs, x = some (.fro d xs) ∧ (look e.rt r = some (some (.arr d xs)) ∨ look e.rt r = some (some (.fro d xs)))) ∧ (∀ r, (r, Use.ro) ∈ st.mp → ∃ x, Up.rt r x ∈ fz))) ∧ s2 = s' := by
    dsimp only at hp
    cases hfl : q.flat with
    | true =>
      rw [hfl] at hp
      exact ⟨[], s', run_ret hp, fun _ _ h => by simp at h, .inl ⟨rfl, rfl⟩, rfl⟩
    | false =>
      rw [hfl] at hp
      obtain ⟨fz, s2, h1, h2, h3, h4⟩ := run_frzAll hp
      exact ⟨fz, s', run_ret h1, h2, .inr ⟨h3, h4⟩, rfl⟩
  obtain ⟨fz, s2, rfl, htmz, hfz, rfl⟩ := hfr
  -- the table
  generalize hl : lost (q.rt.map fun x => f x.1) st.mp ++ fz ++ q.rt.map (fun x => Up.rt (f x.1) (some (renR f x.2))) = l at *
  have htm : (e.ups l).tm = e.tm := ups_tm fun d v hm => by
    rw [← hl] at hm
    rcases List.mem_append.1 hm with hm | hm
    · rcases List.mem_append.1 hm with hm | hm
      · obtain ⟨r, u, _, _, _, h4⟩ := mem_lost.1 hm
        cases h4
      · exact htmz d v hm
    · obtain ⟨x, _, hx⟩ := List.mem_map.1 hm
      cases hx
  have hnotC : ∀ {r : Rid}, r ∉ (q.rt.map fun x => f x.1) → ∀ x, Up.rt r x ∉ q.rt.map (fun x => Up.rt (f x.1) (some (renR f x.2))) := fun hr x hm => by
    obtain ⟨y, hy, hx⟩ := List.mem_map.1 hm
    simp only [Up.rt.injEq] at hx
    exact hr (List.mem_map.2 ⟨y, hy, hx.1⟩)
  have hA : ∀ x ∈ q.rt, look (e.ups l).rt (f x.1) = some (some (renR f x.2)) := fun x hx => by
    rw [← hl, Env.ups_append]
    refine ups_all (fun y hy => ?_) ⟨_, List.mem_map.2 ⟨x, hx, rfl⟩⟩
    obtain ⟨z, hz, hzz⟩ := List.mem_map.1 hy
    simp only [Up.rt.injEq] at hzz
    have := noTwice_inj (g := fun x : Rid × Root => f x.1) hn hz hx hzz.1
    rw [← hzz.2, this]
  have hB : ∀ r u, r ∉ (q.rt.map fun x => f x.1) → findU st.mp r = some u → u ≠ .ro → look (e.ups l).rt r = some none := fun r u hr hu hne => by
    have hnz : ∀ x, Up.rt r x ∉ fz := fun x hm => by
      rcases hfz with ⟨_, rfl⟩ | ⟨h3, _⟩
      · simp at hm
      · have h4 := hc.mem _ _ (h3 r x hm).1
        rw [hu] at h4; exact hne (Option.some.inj h4)
    rw [← hl, Env.ups_append, ups_other (hnotC hr), Env.ups_append, ups_other hnz]
    refine ups_all (fun y hy => ?_) ⟨none, mem_lost.2 ⟨r, u, findU_mem hu, hne, hr, rfl⟩⟩
    obtain ⟨_, _, _, _, _, h4⟩ := mem_lost.1 hy
    cases h4; rfl
  have hnl : ∀ r, (∀ u, findU st.mp r = some u → u = .ro) → ∀ x, Up.rt r x ∉ lost (q.rt.map fun x => f x.1) st.mp := fun r hr x hm => by
    obtain ⟨r', u, h1, h2, _, h4⟩ := mem_lost.1 hm
    cases h4
    exact h2 (hr u (hc.mem _ _ h1))
  have hC : ∃ e0, ((e0 = e ∧ q.flat = true) ∨ e0 = e1) ∧ ∀ r, r ∉ (q.rt.map fun x => f x.1) → (∀ u, findU st.mp r = some u → u = .ro) → look (e.ups l).rt r = look e0.rt r := by
    rcases hfz with ⟨hfl, rfl⟩ | ⟨h3, h4⟩
    · refine ⟨e, .inl ⟨rfl, hfl⟩, fun r hr hu => ?_⟩
      rw [← hl, Env.ups_append, ups_other (hnotC hr), Env.ups_append, ups_other (fun x h => by simp at h), ups_other (hnl r hu)]
    · refine ⟨e1, .inr rfl, fun r hr hu => ?_⟩
      rw [← hl, Env.ups_append, ups_other (hnotC hr), Env.ups_append]
      by_cases hro : (r, Use.ro) ∈ st.mp
      · obtain ⟨x, hx⟩ := h4 r hro
        rcases hc.ro r (hc.mem _ _ hro) with ⟨d', xs, h5⟩ | h5
        case inr =>
          obtain ⟨_, d'', xs', h6, h7⟩ := h3 r x hx
          rcases hc.fz.rt r with h8 | ⟨d3, x3, h8, h9⟩ | ⟨x3, h8, hx3, h9⟩
          · rw [h5] at h8; rcases h7 with h7 | h7 <;> rw [← h8] at h7 <;> cases h7
          · rw [h5] at h9; cases h9
          · rcases h7 with h7 | h7 <;> rw [h8] at h7 <;> cases h7 <;> cases hx3
        rw [h5]
        refine ups_all (fun y hy => ?_) ⟨x, hx⟩
        obtain ⟨_, d'', xs', h6, h7⟩ := h3 r y hy
        rw [h6]
        rcases hc.fz.rt r with h8 | ⟨d3, x3, h8, h9⟩ | ⟨x3, h8, hx3, h9⟩
        case inr.inr => rw [h5] at h9; cases h9
        · rw [h5] at h8
          rcases h7 with h7 | h7 <;> rw [← h8] at h7 <;> cases h7
          rfl
        · rw [h5] at h9
          rcases h7 with h7 | h7 <;> rw [h8] at h7 <;> cases h7
          exact (Option.some.inj h9).symm
      · have hnone : findU st.mp r ≠ some .ro := fun h => hro (findU_mem h)
        rw [ups_other (fun x hm => hro (h3 r x hm).1), ups_other (hnl r hu), hc.nro r hnone]
  obtain ⟨e0, he0, hC⟩ := hC
  obtain ⟨h1, h2, h3⟩ := back_rel hc h hq.mem hn hback (e0 := e0) (he0.imp (fun h => ⟨h.1, Pk.flat_rt h.2⟩) id) hA hB hC
  refine ⟨newG f q.rt G' G, ?_⟩
  rw [Env.ups_append]
  have he : e.ups l = { e with rt := (e.ups l).rt } := by
    cases hee : e.ups l with
    | mk tm rt ag =>
      have hag : (e.ups l).ag = e.ag := ups_ag
      rw [hee] at htm hag; simp only at htm hag; rw [htm, hag]
  rw [he]
  refine h3.putD (h1.val ?_ hres)
  rcases he0 with ⟨_, h4⟩ | h4
  · exact .inl (Pk.flat_args h4 res (by rw [hqa]; exact List.mem_cons_self ..))
  · exact .inr (h2 h4)

theorem capsV_rel {cs : List (Rid × Nat)} {vs : List Value} (h : All2 (fun (rc : Rid × Nat) v => BoxRel e.rt G rc.1 rc.2 v) cs vs) : All2 (VRel Z e G w) (cs.map fun c => .one (.box c.1 c.2)) vs :=
  h.map_left fun _ _ _ h => h

theorem sound_call (h : Rel Z e a w G) (hC : OkC P C) {o : Oper} {fx : Operand} {args : Array Operand} {ats : Array TypeId} (ho : o.op = .call { callee := .value fx, args, argTypes := ats }) (hp : (opPg tt sig o).run C e s = some (us, s')) : Sound1 P o us Z e a w := by
  simp only [opPg, ho] at hp
  obtain ⟨fv, s1, hfv, hp⟩ := run_opv h hp
  obtain ⟨vs, s2, hvs, hp⟩ := run_opvs h hp
  split at hp
  case h_2 => exact run_fail hp
  rename_i f caps _
  obtain ⟨cv, hf1, hf2⟩ := hfv
  unfold callOp at hp
  split at hp
  case h_2 => exact run_fail hp
  rename_i shs hsh
  have hall : All2 (VRel Z e G w) (vs ++ caps.map fun c => .one (.box c.1 c.2)) ((args.map a.eval) ++ cv).toList := by
    rw [Array.toList_append, Array.toList_map]
    exact hvs.append (capsV_rel hf2)
  obtain ⟨avs, st, s3, e1, H, hp, hc, hle, hargs⟩ := canonVs_ok (Cn.start h (H := G)) hall hp
  simp only [Pg.run] at hp
  obtain ⟨q, hq, hp⟩ := Option.bind_eq_some_iff.1 hp
  have hpk := hc.pk hargs
  have hdo := hC _ _ _ hq (hc.sub _) _ H rfl hpk
  intro Q
  unfold Oper.wp
  have : (execOp a.eval o).run P w = (callFunc f ((args.map a.eval) ++ cv)).run P w := by
    simp only [execOp, ho, resolve, hf1]
    simp [Deferred.ofValue, invoke]
  rw [this]
  refine hdo o a _ Q fun v w' hR => ?_
  obtain ⟨H', hq'⟩ := hR
  exact callBack_ok hc h hall hq' hp
end
end Go.Am
set_option linter.unusedVariables false
set_option linter.unusedSimpArgs false
namespace Go.Am
open Go

section
variable {P : Program} {tt : TT} {sig : Sig} {C : Nat → Pk → Option Pk} {Z : Base} {e : Env} {a : Act} {w w' : World} {G : Gh} {s s' : Seen} {us : List Up} {b : Nat}

/-! ### Maps from uint64 to int -/

theorem isMapT_spec (hT : TTok P tt) {t : Nat} {ti : TI} (hti : tt.get t = some ti) (h : isMapT tt ti = true) :
    ∃ kt et, P.underlying t = some (.map kt et) ∧ P.underlying kt = some (.int .u64) ∧ ∀ w, (zeroValue et).run P w = .ok (.int .i64 0) w := by
  unfold isMapT at h
  split at h
  case h_2 => cases h
  rename_i kt et hmp
  split at h
  case h_2 => cases h
  rename_i tk te hk he
  simp only [Bool.and_eq_true, Bool.not_eq_true'] at h
  obtain ⟨⟨k1, k2, k3⟩, e1, e2, e3⟩ := h
  refine ⟨kt, et, (hT _ _ hti).map kt et hmp, ?_, fun w => ?_⟩
  · split at k3
    · rename_i hkd; exact (hT _ _ hk).int _ k1 hkd k2
    · cases k3
  · obtain ⟨z, h1, h2, h3, h4⟩ := (hT _ _ he).runZero w
    rw [h1]
    have h5 := (h4 e1).2
    rw [h3 e2] at h5
    split at e3
    · rename_i hkd
      rw [hkd] at h5
      have h6 : AtomRel w (fun _ => True) [] (fun _ => undef) (.int .i64 0) z := zrel_rel h5.1
      rw [show z = .int .i64 0 from h6]
    · cases e3

theorem findNow_find {n : Int} : ∀ (l : List MapEntry) (i : Nat), (∀ x ∈ l, ∃ k, x.key = .int .u64 k) →
    ((l.find? fun x => keyIs n x.key) = none ∧ Instr.findNow (.int .u64) (.int .u64 n) l i = some none) ∨
    ∃ j x, (l.find? fun x => keyIs n x.key) = some x ∧ Instr.findNow (.int .u64) (.int .u64 n) l i = some (some (i + j, x.val)) ∧ l[j]? = some x ∧ x.key = .int .u64 n ∧ ∀ y ∈ l.take j, keyIs n y.key = false
  | [], i, _ => .inl ⟨rfl, rfl⟩
  | x :: l, i, h => by
    obtain ⟨k, hk⟩ := h x (.head _)
    have hs : Instr.sameNow (.int .u64) (.int .u64 n) x.key = some (n == k) := by rw [hk]; simp [Instr.sameNow]
    have hi : keyIs n x.key = (k == n) := by rw [hk]; rfl
    by_cases c : k = n
    · subst c
      refine .inr ⟨0, x, ?_, ?_, rfl, hk, by simp⟩
      · rw [List.find?_cons, hi]; simp
      · simp [Instr.findNow, hs]
    · have hne : (n == k) = false := by simpa using fun e : n = k => c e.symm
      have hne' : (k == n) = false := by simpa using c
      rcases findNow_find l (i + 1) (fun y hy => h y (.tail _ hy)) with ⟨h1, h2⟩ | ⟨j, y, h1, h2, h3, h4, h5⟩
      · refine .inl ⟨?_, ?_⟩
        · rw [List.find?_cons, hi, hne']; exact h1
        · simp [Instr.findNow, hs, hne, h2]
      · refine .inr ⟨j + 1, y, ?_, ?_, by simpa using h3, h4, fun z hz => ?_⟩
        · rw [List.find?_cons, hi, hne']; exact h1
        · simp [Instr.findNow, hs, hne, h2]; omega
        · rw [List.take_succ_cons] at hz
          rcases List.mem_cons.1 hz with rfl | hz
          · rw [hi, hne']
          · exact h5 z hz

theorem sound_newMap (h : Rel Z e a w G) {o : Oper} {d : Nat} (hd : o.dst = some d) {m : Mp} (hp : (newRow d 5000 (.map m) (.mp (d, 5000)) []).run C e s = some (us, s'))
    (hrun : (execOp a.eval o).run P w = .ok (.value (.map (some w.heap.size))) { w with heap := w.heap.push (.map #[] 0) }) (hm : MapOk { w with heap := w.heap.push (.map #[] 0) } m (.map (some w.heap.size))) (hsh : ∀ {w rt G r}, HoleOk w rt G r m := by exact trivial) : Sound1 P o us Z e a w := by
  obtain ⟨hn, rfl⟩ := run_newRow hp
  have hgr := Grown.alloc w (.map #[] 0)
  have hb : ∀ b, Bk (.map (some w.heap.size)) b → w.heap.size ≤ b := fun b hb => by simp [Bk, blkOf] at hb; omega
  have hrel : Rel Z (e.up (.rt (d, 5000) (some (.map m)))) a { w with heap := w.heap.push (.map #[] 0) } (setG G (d, 5000) (.map (some w.heap.size))) := by
    refine h.new hn hgr hb ?_
    refine ⟨?_, hsh⟩
    rw [setG_same]
    exact hm
  refine Sound1.made hd (e' := e.up (.rt (d, 5000) (some (.map m)))) rfl hrun hrel ?_
  show MapRel (setR e.rt (d, 5000) (some (.map m))) (d, 5000) _ _
  unfold MapRel
  rw [look_setR, if_pos rfl]
  exact ⟨by rw [setG_same]; rfl, rfl⟩

theorem KvOk.hd {m : List (Int × Int)} {g : Value} (h : KvOk w m g) : hdOf g = g := by
  obtain ⟨b, es, clock, h1, _⟩ := h.ex
  rw [h1]; rfl
theorem run_mapOf {α : Type} {xx : α × Seen} (h : Rel Z e a w G) {x : AV} {u : Value} (hx : VRel Z e G w x u) {k : List (Int × Int) → Pg α} (hp : (mapOf x k).run C e s = some xx) :
    ∃ m s1, KvOk w m u ∧ (k m).run C e s1 = some xx := by
  unfold mapOf at hp
  split at hp
  case h_2 => exact run_fail hp
  rename_i r
  simp only [Pg.run] at hp
  split at hp
  case h_2 => exact run_fail hp
  rename_i m hl
  have hx' : MapRel e.rt r (u.oneCell' = true) (u = hdOf (G r)) := hx
  unfold MapRel at hx'
  rw [hl] at hx'
  have h0 : KvOk w m (G r) := (h.mem.roots r _ hl).1
  rw [← h0.hd, ← hx'.1] at h0
  exact ⟨m, _, h0, hp⟩

theorem sound_lookup (h : Rel Z e a w G) (hT : TTok P tt) {o : Oper} {t : Nat} {x y : Operand} (ho : o.op = .lookup t x y true) (hp : (opPg tt sig o).run C e s = some (us, s')) : Sound1 P o us Z e a w := by
  simp only [opPg, ho] at hp
  split at hp
  case h_2 => exact run_fail hp
  rename_i ti hti
  obtain ⟨hmt, hp⟩ := run_bif_fail hp
  obtain ⟨kt, et, hu, hk, hz⟩ := isMapT_spec hT hti hmt
  obtain ⟨xv, s1, hxv, hp⟩ := run_opv h hp
  obtain ⟨yv, s2, hyv, hp⟩ := run_opv h hp
  obtain ⟨ik, n, rfl, hp⟩ := run_intV hp
  obtain ⟨hik, hp⟩ := run_bif_fail hp
  have hik := of_decide_eq_true hik
  subst hik
  obtain ⟨m, s3, ⟨⟨b, es, clock, h1, h2, h3, h4⟩⟩, hp⟩ := run_mapOf h hxv hp
  rw [run_upD hp]
  have hy : a.eval y = .int .u64 n := hyv
  have hck := fun e => MapKept.run_checkKey (P := P) (w := w) (k := .int .u64 n) hk (by simp [MapKept.IsKey]) e 9999
  have hf := h4 n
  rcases findNow_find (n := n) es.toList 0 (fun x hx => (h3 x hx).1) with ⟨f1, f2⟩ | ⟨j, en, f1, f2, f3, f4, _⟩
  · rw [f1] at hf
    have hl : List.lookup n m = none := by
      cases hl : List.lookup n m with
      | none => rfl
      | some v => rw [hl] at hf; cases hf
    rw [hl]
    refine Sound1.value h (u := .tuple #[.int .i64 0, .bool false]) ?_ ⟨#[.int .i64 0, .bool false], rfl, rfl, rfl, trivial⟩
    have := hck es.isEmpty
    simp [execOp, ho, h1, hy, Instr.lookup, run_underlying hu, MapKept.run_getObj_map h2, this, MapKept.run_findKey hk f2, hz, Result.andThen]
  · rw [f1] at hf
    obtain ⟨v, hv⟩ := (h3 en (List.mem_of_getElem? f3)).2
    have hl : List.lookup n m = some v := by
      cases hl : List.lookup n m with
      | none => rw [hl] at hf; cases hf
      | some v' =>
        rw [hl] at hf
        simp only [Option.map_some, Option.some.injEq, hv, Value.int.injEq, true_and] at hf
        rw [hf]
    rw [hl]
    refine Sound1.value h (u := .tuple #[.int .i64 v, .bool true]) ?_ ⟨#[.int .i64 v, .bool true], rfl, rfl, rfl, trivial⟩
    have := hck es.isEmpty
    simp [execOp, ho, h1, hy, Instr.lookup, run_underlying hu, MapKept.run_getObj_map h2, this, MapKept.run_findKey hk f2, hv, Result.andThen]

/-- A map of one's own is written: its block alone turns. -/
theorem Rel.writeMap (h : Rel Z e a w G) {r : Rid} {m m' : List (Int × Int)} (hl : look e.rt r = some (some (.map (.kv m)))) {b : Nat} {ob o' : Obj} (hb : Bk (G r) b) (hob : w.heap[b]? = some ob)
    (hok : KvOk { w with heap := w.heap.setIfInBounds b o' } m' (G r)) : Rel Z (e.up (.rt r (some (.map (.kv m'))))) a { w with heap := w.heap.setIfInBounds b o' } G := by
  have how : Owns e.rt G b := ⟨r, _, hl, rfl, hb⟩
  have hother : ∀ b', b' ≠ b → (w.heap.setIfInBounds b o')[b']? = w.heap[b']? := (MapKept.heap_set hob).2
  have hc : Chg Z e.rt G w (setR e.rt r (some (.map (.kv m')))) G { w with heap := w.heap.setIfInBounds b o' } :=
    { os := rfl, tape := rfl, output := rfl, size := by simp
      block := fun b' _ hno => hother b' fun e0 => hno (e0 ▸ how)
      own := fun b' ⟨q, z, h1, h2, h3⟩ => .inl (by
        by_cases hq : q = r
        · subst hq; exact ⟨q, _, hl, rfl, h3⟩
        · rw [look_setR, if_neg hq] at h1; exact ⟨q, z, h1, h2, h3⟩)
      turns := Turns.set (fun z hz => by rw [hl] at hz; cases hz; exact ⟨.map trivial, fun _ => rfl⟩) fun _ _ => rfl }
  refine h.chg hc (hc.mem h.mem (fun q z hq => ?_) (fun q q' z z' b' hq hq' hz hz' h1 h2 => ?_))
  · by_cases hs : q = r
    · subst hs
      rw [look_setR, if_pos rfl] at hq
      cases hq
      exact .inr ⟨hok, trivial⟩
    · rw [look_setR, if_neg hs] at hq
      exact .inl ⟨hq, rfl, fun hz b' hb' => hother b' fun e0 => hs (h.mem.sep q r z _ b' hq hl hz rfl hb' (e0 ▸ hb))⟩
  · have aux : ∀ q z, look (setR e.rt r (some (.map (.kv m')))) q = some (some z) → z.own = true → ∃ z', look e.rt q = some (some z') ∧ z'.own = true := by
      intro q z hq hz
      by_cases hs : q = r
      · subst hs; exact ⟨_, hl, rfl⟩
      · rw [look_setR, if_neg hs] at hq; exact ⟨z, hq, hz⟩
    obtain ⟨y1, h3, h4⟩ := aux q z hq hz
    obtain ⟨y2, h5, h6⟩ := aux q' z' hq' hz'
    exact h.mem.sep q q' y1 y2 b' h3 h5 h4 h6 h1 h2

theorem modify_toList {es : Array MapEntry} {j : Nat} {x : MapEntry} (f : MapEntry → MapEntry) (h : es[j]? = some x) : (es.modify j f).toList = es.toList.take j ++ f x :: es.toList.drop (j + 1) := by
  have hlt : j < es.toList.length := by have := (Array.getElem?_eq_some_iff.1 h).1; simpa using this
  have e1 : (es.modify j f).toList = es.toList.set j (f x) := by
    apply List.ext_getElem?
    intro i
    rw [Array.getElem?_toList, Array.getElem?_modify, List.getElem?_set, Array.getElem?_toList]
    by_cases hij : j = i
    · subst hij
      rw [if_pos rfl, if_pos rfl, h, if_pos hlt]; rfl
    · rw [if_neg hij, if_neg hij]
  rw [e1, List.set_eq_take_append_cons_drop, if_pos hlt]
theorem list_split {l : List MapEntry} {j : Nat} {x : MapEntry} (h : l[j]? = some x) : l = l.take j ++ x :: l.drop (j + 1) := by
  obtain ⟨hlt, hx⟩ := List.getElem?_eq_some_iff.1 h
  rw [← hx, ← List.drop_eq_getElem_cons hlt, List.take_append_drop]

/-! ### Variables that are only read; sets of arrays -/
theorem setR_setR : ∀ (l : Roots) (r : Rid) (x y : Option Root), setR (setR l r x) r y = setR l r y
  | [], r, x, y => by simp [setR, Rid.beq_refl]
  | (s, z) :: l, r, x, y => by
    cases hb : Rid.beq r s with
    | true => simp [setR, hb]
    | false => simp only [setR, hb, cond_false]; rw [setR_setR l]
theorem sound_newRelt (h : Rel Z e a w G) {o : Oper} {d t : Nat} (hd : o.dst = some d) {k : Kd} {l : List Atom} {cs : Array Value} (hp : (newRelt d k l).run C e s = some (us, s'))
    (hr : (execOp a.eval o).run P w = .ok (.value (.pointer (some ⟨w.heap.size, 0, none⟩))) { w with heap := w.heap.push (.cells cs t) }) (hl : All2 (AtomRel w (Stab Z e.rt G w) e.rt G) l cs.toList) : Sound1 P o us Z e a w := by
  unfold newRelt at hp
  obtain ⟨hlp, hp1⟩ := run_bif_fail hp
  simp only [Bool.and_eq_true] at hlp
  split at hp1
  case h_2 => exact run_fail hp1
  rename_i y hy
  simp only [Pg.run] at hp1
  split at hp1
  case h_2 => exact run_fail hp1
  rename_i hn
  obtain rfl : us = _ := run_ret hp1
  let g : Value := .pointer (some ⟨w.heap.size, 0, none⟩)
  have hgr := Grown.alloc w (.cells cs t)
  have hb : ∀ b, Bk g b → w.heap.size ≤ b := fun b hb => by simp [g, Bk, blkOf] at hb; omega
  have hc := Chg.new (x := .box l) h.mem hn hgr hb
  have hcells := hl.mono fun _ _ => hc.atom h.mem
  have hrel : Rel Z (e.up (.rt (d, 999) (some (.box l)))) a { w with heap := w.heap.push (.cells cs t) } (setG G (d, 999) g) := by
    refine h.new hn hgr hb ?_
    refine ⟨w.heap.size, cs, t, by rw [setG_same], by simp, hcells, hlp.1⟩
  have hlk : look (e.up (.rt (d, 999) (some (.box l)))).rt (d, 999) = some (some (.box l)) := by simp [Env.up, look_setR]
  have hbk : Bk (setG G (d, 999) g (d, 999)) w.heap.size := by rw [setG_same]; exact .inl rfl
  have how : Owns (e.up (.rt (d, 999) (some (.box l)))).rt (setG G (d, 999) g) w.heap.size := ⟨(d, 999), _, hlk, rfl, hbk⟩
  have hrel2 := hrel.lend hlk
  have hst : ∀ c, Stab Z (e.up (.rt (d, 999) (some (.box l)))).rt (setG G (d, 999) g) { w with heap := w.heap.push (.cells cs t) } c → Stab Z ((e.up (.rt (d, 999) (some (.box l)))).up (.rt (d, 999) none)).rt (setG G (d, 999) g) { w with heap := w.heap.push (.cells cs t) } c := fun c hc => ⟨hc.1, fun ho => hc.2 ho.lend⟩
  have hsb : Stab Z ((e.up (.rt (d, 999) (some (.box l)))).up (.rt (d, 999) none)).rt (setG G (d, 999) g) { w with heap := w.heap.push (.cells cs t) } w.heap.size := ⟨.inr ⟨hrel.mem.base _ how, hrel.mem.own_lt how⟩, fun ⟨q, z, g1, g2, g3⟩ => by
    by_cases hq : q = (d, 999)
    · subst hq; simp [Env.up, look_setR] at g1
    · have g1' : look (e.up (.rt (d, 999) (some (.box l)))).rt q = some (some z) := by simpa [Env.up, look_setR, hq] using g1
      exact hq (hrel.mem.sep q (d, 999) z _ _ g1' hlk g2 rfl g3 hbk)⟩
  have henv : (e.up (.rt (d, 999) (some (.box l)))).up (.rt (d, 999) none) = e.up (.rt (d, 999) none) := by
    simp only [Env.up, setR_setR]
  rw [henv] at hrel2 hst hsb
  have hrd := ofCells_rel hcells hy
  refine Sound1.made hd (e' := e.up (.rt (d, 999) none)) rfl hr hrel2 ?_
  exact ⟨w.heap.size, 0, cs, t, (0, 0), cs.toList, rfl, hsb, by simp, Rd.mono (fun c hc => ⟨hst c hc, rfl⟩) hrd, fun j x hj => by rw [Nat.zero_add, ← Array.getElem?_toList]; exact hj⟩
theorem sound_box (h : Rel Z e a w G) (hT : TTok P tt) {o : Oper} {t : Nat} {x : Operand} (ho : o.op = .box t x) (hp : (opPg tt sig o).run C e s = some (us, s')) : Sound1 P o us Z e a w := by
  simp only [opPg, ho] at hp
  split at hp
  case h_2 => exact run_fail hp
  rename_i d ti hd hti
  obtain ⟨v, s1, hv, hp1⟩ := run_opv h hp
  obtain ⟨hlen, hp2⟩ := run_bif_fail hp1
  have hlive : (atoms v).all Atom.live = true := by
    cases hro : roBox.contains t && ti.ok with
    | false => rw [hro] at hp2; exact (run_bif_fail hp2).1
    | true =>
      rw [hro] at hp2
      have := (run_bif_fail hp2).1
      simp only [Bool.and_eq_true] at this
      exact this.1
  simp only [Bool.and_eq_true] at hlen
  have hlen1 := Nat.eq_of_beq_eq_true hlen.1
  have hlen2 := blt_true hlen.2
  have hcells : All2 (AtomRel w (Stab Z e.rt G w) e.rt G) (atoms v) (a.eval x).cells.toList :=
    atoms_cells (fun _ _ => AtomRel.one) hv hlive (.inl fun h0 => by rw [h0] at hlen1; simp at hlen1; omega)
  have hr : (execOp a.eval o).run P w = .ok (.value (.pointer (some ⟨w.heap.size, 0, none⟩))) { w with heap := w.heap.push (.cells (a.eval x).cells t) } := by
    simp [execOp, ho, Instr.box, newVar, Go.newRow]
  cases hro : roBox.contains t && ti.ok with
  | false => rw [hro] at hp2; exact run_newBox (t := t) (cs := (a.eval x).cells) h hd hp2 hr hcells
  | true => rw [hro] at hp2; exact sound_newRelt h hd hp2 hr hcells

theorem mapM_ex {α β : Type} (f : α → Option β) : ∀ l : List α, (∀ x ∈ l, ∃ y, f x = some y) → ∃ r, l.mapM f = some r
  | [], _ => ⟨[], rfl⟩
  | x :: l, h => by
    obtain ⟨y, hy⟩ := h x List.mem_cons_self
    obtain ⟨r, hr⟩ := mapM_ex f l fun z hz => h z (List.mem_cons_of_mem _ hz)
    exact ⟨y :: r, by simp [List.mapM_cons, hy, hr]⟩
theorem keyIn_wf {l : List Int} (hk : keyIn l = true) {n : Int} (hn : n ∈ l) : (Lit.int .i64 n).wf = true := by
  have := List.all_eq_true.1 hk n hn
  simp only [Bool.and_eq_true, decide_eq_true_eq] at this
  simp [Lit.wf, IntKind.min, IntKind.max, IntKind.signed, IntKind.bits]
  omega
theorem keyOf_arr {t : Nat} (h : akOk P t = true) {l : List Int} (hl : l.length = 8) (hk : keyIn l = true) : ∃ lit, keyOf P t (arrOf l) = some lit := by
  unfold akOk at h
  split at h
  case h_2 => cases h
  rename_i n e hu
  simp only [Bool.and_eq_true] at h
  obtain ⟨h1, h2, h3, h4, h5, h6, h7, h8⟩ := h
  have h1 := Nat.eq_of_beq_eq_true h1
  subst h1
  have h6 := Nat.eq_of_beq_eq_true h6
  have h7 := Nat.eq_of_beq_eq_true h7
  have h8 := Nat.le_of_ble_eq_true h8
  have he : P.underlying e = some (.int .i64) := by
    split at h2
    · assumption
    · cases h2
  have hf : (arrOf l).formed P t = true := by
    unfold arrOf Value.formed
    rw [hu]
    simp [hl, h6]
  obtain ⟨q, hq⟩ : ∃ q, P.types.size = q + 1 := ⟨P.types.size - 1, by omega⟩
  have hlits : ∃ r, P.keyLits (P.types.size + 1) t (arrOf l).cells.toList = some r := by
    rw [hq]
    unfold Program.keyLits
    rw [hu]
    simp only
    have hcl : (arrOf l).cells.toList = l.map (Value.int .i64) := by simp [arrOf, Value.cells]
    rw [hcl, List.length_map, if_pos (by rw [hl, h6])]
    obtain ⟨r, hr⟩ := mapM_ex (fun i => P.keyLits (q + 1) e (((l.map (Value.int .i64)).drop (i * P.cellsOf e)).take (P.cellsOf e))) (List.range 8) fun i hi => by
      have hi8 : i < l.length := by rw [hl]; exact List.mem_range.1 hi
      rw [h7, Nat.mul_one]
      have : ((l.map (Value.int .i64)).drop i).take 1 = [.int .i64 l[i]] := by
        rw [← List.map_drop, List.drop_eq_getElem_cons hi8]; rfl
      rw [this]
      unfold Program.keyLits
      rw [he]
      simp only
      rw [if_pos ⟨trivial, keyIn_wf hk (List.getElem_mem hi8)⟩]
      exact ⟨_, rfl⟩
    rw [hr]
    exact ⟨_, rfl⟩
  obtain ⟨r, hr⟩ := hlits
  unfold keyOf
  rw [hu]
  simp only
  rw [h3, hf, hr]
  exact ⟨_, rfl⟩
theorem akOk_law {t : Nat} (h : akOk P t = true) : WideMaps.KeyLaw P t := by
  unfold akOk at h
  split at h
  case h_2 => cases h
  rename_i n e hu
  simp only [Bool.and_eq_true] at h
  obtain ⟨h1, h2, h3, h4, h5, h6, h7, h8⟩ := h
  exact deep_law (m := 2) (by decide) h4 h5 (by rw [hu])
theorem arrOf_inj {a b : List Int} (h : arrOf a = arrOf b) : a = b := by
  unfold arrOf at h
  have := Array.toList_inj.2 (Value.agg.inj h)
  simp only [List.toList_toArray] at this
  exact (List.map_inj_right fun x y e => by cases e; rfl).1 this

theorem isSetT_spec (hT : TTok P tt) {t : Nat} {ti : TI} (hti : tt.get t = some ti) (h : isSetT tt ti = true) :
    ∃ kt et, P.underlying t = some (.map kt et) ∧ akOk P kt = true ∧ ∀ w, (zeroValue et).run P w = .ok (.bool false) w := by
  unfold isSetT at h
  split at h
  case h_2 => cases h
  rename_i kt et hmp
  split at h
  case h_2 => cases h
  rename_i tk te hk he
  simp only [Bool.and_eq_true, Bool.not_eq_true'] at h
  obtain ⟨k1, e1, e2, e3⟩ := h
  refine ⟨kt, et, (hT _ _ hti).map kt et hmp, (hT _ _ hk).ak k1, fun w => ?_⟩
  obtain ⟨z, h1, h2, h3, h4⟩ := (hT _ _ he).runZero w
  rw [h1]
  have h5 := (h4 e1).2
  rw [h3 e2] at h5
  split at e3
  · rename_i hkd
    rw [hkd] at h5
    have h6 : AtomRel w (fun _ => True) [] (fun _ => undef) (.bool false) z := zrel_rel h5.1
    rw [show z = .bool false from h6]
  · cases e3
theorem KsOk.hd {m : List (List Int)} {g : Value} (h : KsOk w m g) : hdOf g = g := by
  obtain ⟨b, es, clock, h1, _⟩ := h.ex
  rw [h1]; rfl
theorem run_setOf {α : Type} {xx : α × Seen} (h : Rel Z e a w G) {x : AV} {u : Value} (hx : VRel Z e G w x u) {k : Rid → List (List Int) → Pg α} (hp : (setOf x k).run C e s = some xx) :
    ∃ r m s1, look e.rt r = some (some (.map (.ks m))) ∧ u = G r ∧ KsOk w m u ∧ (k r m).run C e s1 = some xx := by
  unfold setOf at hp
  split at hp
  case h_2 => exact run_fail hp
  rename_i r
  simp only [Pg.run] at hp
  split at hp
  case h_2 => exact run_fail hp
  rename_i m hl
  have hx' : MapRel e.rt r (u.oneCell' = true) (u = hdOf (G r)) := hx
  unfold MapRel at hx'
  rw [hl] at hx'
  have h0 : KsOk w m (G r) := (h.mem.roots r _ hl).1
  have e0 : u = G r := hx'.1.trans h0.hd
  exact ⟨r, m, _, hl, e0, by rw [e0]; exact h0, hp⟩
theorem keyAtoms_rel {S : Nat → Prop} {rt : Roots} : ∀ {l : List Atom} {vs : List Value} {r : List Int}, keyAtoms l = some r → All2 (AtomRel w S rt G) l vs → vs = r.map (Value.int .i64)
  | [], [], r, h, _ => by cases h; rfl
  | .int .i64 n :: l, v :: vs, r, h, hr => by
    unfold keyAtoms at h
    split at h
    · rename_i r' hr'
      cases h
      have e1 : v = .int .i64 n := hr.1
      rw [e1, keyAtoms_rel hr' hr.2]; rfl
    · cases h
  | [], _ :: _, _, _, h => h.elim
  | _ :: _, [], _, _, h => h.elim
  | .dead :: l, _ :: _, _, h, _ | .bool _ :: l, _ :: _, _, h, _ | .str _ :: l, _ :: _, _, h, _ | .nil :: l, _ :: _, _, h, _ | .ro _ _ _ :: l, _ :: _, _, h, _ | .rn _ _ :: l, _ :: _, _, h, _ | .whole _ :: l, _ :: _, _, h, _
  | .part _ _ _ :: l, _ :: _, _, h, _ | .box _ _ :: l, _ :: _, _, h, _ | .elt _ _ _ :: l, _ :: _, _, h, _ | .relt _ _ _ :: l, _ :: _, _, h, _ | .fn _ _ :: l, _ :: _, _, h, _ | .mp _ :: l, _ :: _, _, h, _ | .melt _ _ :: l, _ :: _, _, h, _ => by simp [keyAtoms] at h
  | .int .i8 _ :: l, _ :: _, _, h, _ | .int .i16 _ :: l, _ :: _, _, h, _ | .int .i32 _ :: l, _ :: _, _, h, _ | .int .u8 _ :: l, _ :: _, _, h, _ | .int .u16 _ :: l, _ :: _, _, h, _ | .int .u32 _ :: l, _ :: _, _, h, _ | .int .u64 _ :: l, _ :: _, _, h, _ => by simp [keyAtoms] at h
theorem run_keyV {α : Type} {xx : α × Seen} {y : AV} {u : Value} (hx : VRel Z e G w y u) {k : List Int → Pg α} (hp : (keyV y k).run C e s = some xx) :
    ∃ r s1, u = arrOf r ∧ r.length = 8 ∧ keyIn r = true ∧ (k r).run C e s1 = some xx := by
  unfold keyV at hp
  split at hp
  case h_2 => exact run_fail hp
  rename_i l
  split at hp
  case h_2 => exact run_fail hp
  rename_i r hr
  obtain ⟨h8, hp⟩ := run_bif_fail hp
  simp only [Pg.run] at hp
  cases hk : keyIn r with
  | false => rw [hk] at hp; cases hp
  | true =>
    rw [hk] at hp
    obtain ⟨vs, rfl, hvs⟩ : ∃ vs, u = .agg vs ∧ All2 (AtomRel w (Stab Z e.rt G w) e.rt G) l vs.toList := hx
    refine ⟨r, _, ?_, Nat.eq_of_beq_eq_true h8, hk, hp⟩
    unfold arrOf
    rw [← keyAtoms_rel hr hvs]
theorem run_isTrue {α : Type} {xx : α × Seen} {y : AV} {u : Value} (hx : VRel Z e G w y u) {k : Pg α} (hp : (isTrue y k).run C e s = some xx) : u = .bool true ∧ k.run C e s = some xx := by
  unfold isTrue at hp
  split at hp
  · exact ⟨hx, hp⟩
  · exact run_fail hp
theorem sound_setLook (h : Rel Z e a w G) (hT : TTok P tt) {o : Oper} {t : Nat} {x y : Operand} (ho : o.op = .lookup t x y false) (hp : (opPg tt sig o).run C e s = some (us, s'))
    (hsi : ∀ {s}, isSiT tt t = true → (opv x fun x => opv y fun y => intV y fun ik n => bif decide (ik = .i64) then siOf x fun _ m => .ret (upD o.dst (.one (.bool (List.contains m n)))) else .fail).run C e s = some (us, s') → Sound1 P o us Z e a w) : Sound1 P o us Z e a w := by
  simp only [opPg, ho] at hp
  split at hp
  case h_2 => exact run_fail hp
  rename_i ti hti
  rcases run_bif hp with ⟨hmt, hp⟩ | ⟨_, hp⟩
  case inr =>
    obtain ⟨hst, hp1⟩ := run_bif_fail hp
    exact hsi hst hp1
  obtain ⟨kt, et, hu, hk, hz⟩ := isSetT_spec hT hti hmt
  obtain ⟨xv, s1, hxv, hp⟩ := run_opv h hp
  obtain ⟨yv, s2, hyv, hp⟩ := run_opv h hp
  obtain ⟨q, s3, hq, hq8, hqk, hp⟩ := run_keyV hyv hp
  obtain ⟨r, m, s4, hl, hxe, ⟨⟨b, es, clock, h1, h2, h3, h4⟩⟩, hp⟩ := run_setOf h hxv hp
  rw [run_upD hp]
  obtain ⟨lit, hlit⟩ := keyOf_arr hk hq8 hqk
  have hlaw := akOk_law hk
  have hck := hlaw.check w es.isEmpty hlit
  have hall : ∀ en ∈ es.toList, ∃ l, keyOf P kt en.key = some l := fun en hen => by
    obtain ⟨⟨k, e1, e2, e3⟩, _⟩ := h3 en hen
    rw [e1]; exact keyOf_arr hk e2 e3
  rcases hlaw.find w hlit es.toList hall with ⟨f1, f2⟩ | ⟨j, en, f1, f2, f3⟩
  · have hc : List.contains m q = false := by
      cases hc : List.contains m q with
      | false => rfl
      | true =>
        obtain ⟨en, e1, e2⟩ := (h4 q).2 (List.contains_iff_mem.1 hc)
        exact absurd e2 (f2 en e1)
    rw [hc]
    refine Sound1.value h (u := .bool false) ?_ rfl
    simp [execOp, ho, h1, hq, Instr.lookup, run_underlying hu, MapKept.run_getObj_map h2, hck, f1, hz, Result.andThen]
  · have hmem := List.mem_of_getElem? f2
    have hc : List.contains m q = true := List.contains_iff_mem.2 ((h4 q).1 ⟨en, hmem, f3⟩)
    rw [hc]
    refine Sound1.value h (u := .bool true) ?_ rfl
    simp [execOp, ho, h1, hq, Instr.lookup, run_underlying hu, MapKept.run_getObj_map h2, hck, f1, (h3 en hmem).2, Result.andThen]
theorem Rel.writeSet (h : Rel Z e a w G) {r : Rid} {m m' : List (List Int)} (hl : look e.rt r = some (some (.map (.ks m)))) {b : Nat} {ob o' : Obj} (hb : Bk (G r) b) (hob : w.heap[b]? = some ob)
    (hok : KsOk { w with heap := w.heap.setIfInBounds b o' } m' (G r)) : Rel Z (e.up (.rt r (some (.map (.ks m'))))) a { w with heap := w.heap.setIfInBounds b o' } G := by
  have how : Owns e.rt G b := ⟨r, _, hl, rfl, hb⟩
  have hother : ∀ b', b' ≠ b → (w.heap.setIfInBounds b o')[b']? = w.heap[b']? := (MapKept.heap_set hob).2
  have hc : Chg Z e.rt G w (setR e.rt r (some (.map (.ks m')))) G { w with heap := w.heap.setIfInBounds b o' } :=
    { os := rfl, tape := rfl, output := rfl, size := by simp
      block := fun b' _ hno => hother b' fun e0 => hno (e0 ▸ how)
      own := fun b' ⟨q, z, h1, h2, h3⟩ => .inl (by
        by_cases hq : q = r
        · subst hq; exact ⟨q, _, hl, rfl, h3⟩
        · rw [look_setR, if_neg hq] at h1; exact ⟨q, z, h1, h2, h3⟩)
      turns := Turns.set (fun z hz => by rw [hl] at hz; cases hz; exact ⟨.map trivial, fun _ => rfl⟩) fun _ _ => rfl }
  refine h.chg hc (hc.mem h.mem (fun q z hq => ?_) (fun q q' z z' b' hq hq' hz hz' h1 h2 => ?_))
  · by_cases hs : q = r
    · subst hs
      rw [look_setR, if_pos rfl] at hq
      cases hq
      exact .inr ⟨hok, trivial⟩
    · rw [look_setR, if_neg hs] at hq
      exact .inl ⟨hq, rfl, fun hz b' hb' => hother b' fun e0 => hs (h.mem.sep q r z _ b' hq hl hz rfl hb' (e0 ▸ hb))⟩
  · have aux : ∀ q z, look (setR e.rt r (some (.map (.ks m')))) q = some (some z) → z.own = true → ∃ z', look e.rt q = some (some z') ∧ z'.own = true := by
      intro q z hq hz
      by_cases hs : q = r
      · subst hs; exact ⟨_, hl, rfl⟩
      · rw [look_setR, if_neg hs] at hq; exact ⟨z, hq, hz⟩
    obtain ⟨y1, h3, h4⟩ := aux q z hq hz
    obtain ⟨y2, h5, h6⟩ := aux q' z' hq' hz'
    exact h.mem.sep q q' y1 y2 b' h3 h5 h4 h6 h1 h2
theorem Rel.writeSi (h : Rel Z e a w G) {r : Rid} {m m' : List Int} (hl : look e.rt r = some (some (.map (.si m)))) {b : Nat} {ob o' : Obj} (hb : Bk (G r) b) (hob : w.heap[b]? = some ob)
    (hok : SiOk { w with heap := w.heap.setIfInBounds b o' } m' (G r)) : Rel Z (e.up (.rt r (some (.map (.si m'))))) a { w with heap := w.heap.setIfInBounds b o' } G := by
  have how : Owns e.rt G b := ⟨r, _, hl, rfl, hb⟩
  have hother : ∀ b', b' ≠ b → (w.heap.setIfInBounds b o')[b']? = w.heap[b']? := (MapKept.heap_set hob).2
  have hc : Chg Z e.rt G w (setR e.rt r (some (.map (.si m')))) G { w with heap := w.heap.setIfInBounds b o' } :=
    { os := rfl, tape := rfl, output := rfl, size := by simp
      block := fun b' _ hno => hother b' fun e0 => hno (e0 ▸ how)
      own := fun b' ⟨q, z, h1, h2, h3⟩ => .inl (by
        by_cases hq : q = r
        · subst hq; exact ⟨q, _, hl, rfl, h3⟩
        · rw [look_setR, if_neg hq] at h1; exact ⟨q, z, h1, h2, h3⟩)
      turns := Turns.set (fun z hz => by rw [hl] at hz; cases hz; exact ⟨.map trivial, fun _ => rfl⟩) fun _ _ => rfl }
  refine h.chg hc (hc.mem h.mem (fun q z hq => ?_) (fun q q' z z' b' hq hq' hz hz' h1 h2 => ?_))
  · by_cases hs : q = r
    · subst hs
      rw [look_setR, if_pos rfl] at hq
      cases hq
      exact .inr ⟨hok, trivial⟩
    · rw [look_setR, if_neg hs] at hq
      exact .inl ⟨hq, rfl, fun hz b' hb' => hother b' fun e0 => hs (h.mem.sep q r z _ b' hq hl hz rfl hb' (e0 ▸ hb))⟩
  · have aux : ∀ q z, look (setR e.rt r (some (.map (.si m')))) q = some (some z) → z.own = true → ∃ z', look e.rt q = some (some z') ∧ z'.own = true := by
      intro q z hq hz
      by_cases hs : q = r
      · subst hs; exact ⟨_, hl, rfl⟩
      · rw [look_setR, if_neg hs] at hq; exact ⟨z, hq, hz⟩
    obtain ⟨y1, h3, h4⟩ := aux q z hq hz
    obtain ⟨y2, h5, h6⟩ := aux q' z' hq' hz'
    exact h.mem.sep q q' y1 y2 b' h3 h5 h4 h6 h1 h2
/-! ### Sets of numbers -/

theorem isSiT_spec (hT : TTok P tt) {t : Nat} (h : isSiT tt t = true) :
    ∃ kt et, P.underlying t = some (.map kt et) ∧ P.underlying kt = some (.int .i64) ∧ ∀ w, (zeroValue et).run P w = .ok (.bool false) w := by
  unfold isSiT at h
  split at h
  case h_2 => cases h
  rename_i ti hti
  split at h
  case h_2 => cases h
  rename_i kt et hmp
  split at h
  case h_2 => cases h
  rename_i tk te hk he
  simp only [Bool.and_eq_true, Bool.not_eq_true'] at h
  obtain ⟨⟨k1, k2, k3⟩, e1, e2, e3⟩ := h
  refine ⟨kt, et, (hT _ _ hti).map kt et hmp, ?_, fun w => ?_⟩
  · split at k3
    · rename_i hkd; exact (hT _ _ hk).int _ k1 hkd k2
    · cases k3
  · obtain ⟨z, h1, h2, h3, h4⟩ := (hT _ _ he).runZero w
    rw [h1]
    have h5 := (h4 e1).2
    rw [h3 e2] at h5
    split at e3
    · rename_i hkd
      rw [hkd] at h5
      have h6 : AtomRel w (fun _ => True) [] (fun _ => undef) (.bool false) z := zrel_rel h5.1
      rw [show z = .bool false from h6]
    · cases e3
theorem SiOk.hd {m : List Int} {g : Value} (h : SiOk w m g) : hdOf g = g := by
  obtain ⟨b, es, clock, h1, _⟩ := h.ex
  rw [h1]; rfl
theorem run_siOf {α : Type} {xx : α × Seen} (h : Rel Z e a w G) {x : AV} {u : Value} (hx : VRel Z e G w x u) {k : Rid → List Int → Pg α} (hp : (siOf x k).run C e s = some xx) :
    ∃ r m s1, look e.rt r = some (some (.map (.si m))) ∧ u = G r ∧ SiOk w m u ∧ (k r m).run C e s1 = some xx := by
  unfold siOf at hp
  split at hp
  case h_2 => exact run_fail hp
  rename_i r
  simp only [Pg.run] at hp
  split at hp
  case h_2 => exact run_fail hp
  rename_i m hl
  have h0 : SiOk w m (G r) := (h.mem.roots r _ hl).1
  have e0 : u = G r := (MapRel.hd (show MapRel e.rt r _ _ from hx) hl).trans h0.hd
  exact ⟨r, m, _, hl, e0, by rw [e0]; exact h0, hp⟩
theorem findNow_int {n : Int} : ∀ (l : List MapEntry) (i : Nat), (∀ x ∈ l, ∃ k, x.key = .int .i64 k) →
    ((∀ x ∈ l, x.key ≠ .int .i64 n) ∧ Instr.findNow (.int .i64) (.int .i64 n) l i = some none) ∨
    ∃ j x, Instr.findNow (.int .i64) (.int .i64 n) l i = some (some (i + j, x.val)) ∧ l[j]? = some x ∧ x.key = .int .i64 n
  | [], i, _ => .inl ⟨by simp, rfl⟩
  | x :: l, i, h => by
    obtain ⟨k, hk⟩ := h x (.head _)
    have hs : Instr.sameNow (.int .i64) (.int .i64 n) x.key = some (n == k) := by rw [hk]; simp [Instr.sameNow]
    by_cases c : k = n
    · subst c
      exact .inr ⟨0, x, by simp [Instr.findNow, hs], rfl, hk⟩
    · have hne : (n == k) = false := by simpa using fun e : n = k => c e.symm
      rcases findNow_int (n := n) l (i + 1) (fun y hy => h y (.tail _ hy)) with ⟨h1, h2⟩ | ⟨j, y, h2, h3, h4⟩
      · refine .inl ⟨fun y hy => ?_, by simp [Instr.findNow, hs, hne, h2]⟩
        rcases List.mem_cons.1 hy with rfl | hy
        · rw [hk]; intro e0; injection e0 with _ e0; exact c e0
        · exact h1 y hy
      · exact .inr ⟨j + 1, y, by simp [Instr.findNow, hs, hne, h2]; omega, by simpa using h3, h4⟩
theorem sound_siLook (h : Rel Z e a w G) (hT : TTok P tt) {o : Oper} {t : Nat} {x y : Operand} (ho : o.op = .lookup t x y false) (hst : isSiT tt t = true)
    (hp : (opv x fun x => opv y fun y => intV y fun ik n => bif decide (ik = .i64) then siOf x fun _ m => .ret (upD o.dst (.one (.bool (List.contains m n)))) else .fail).run C e s = some (us, s')) : Sound1 P o us Z e a w := by
  obtain ⟨kt, et, hu, hk, hz⟩ := isSiT_spec hT hst
  obtain ⟨xv, s1, hxv, hp1⟩ := run_opv h hp
  obtain ⟨yv, s2, hyv, hp2⟩ := run_opv h hp1
  obtain ⟨ik, n, rfl, hp3⟩ := run_intV hp2
  obtain ⟨hik, hp4⟩ := run_bif_fail hp3
  have hik := of_decide_eq_true hik
  subst hik
  obtain ⟨r, m, s4, hl, hxe, ⟨⟨b, es, clock, h1, h2, h3, h4, h5⟩⟩, hp5⟩ := run_siOf h hxv hp4
  rw [run_upD hp5]
  have hy : a.eval y = .int .i64 n := hyv
  have hck := MapKept.run_checkKey (P := P) (w := w) (k := .int .i64 n) hk (by simp [MapKept.IsKey]) es.isEmpty 9999
  rcases findNow_int (n := n) es.toList 0 (fun x hx => (h4 x hx).1) with ⟨f1, f2⟩ | ⟨j, en, f2, f3, f4⟩
  · have hc : List.contains m n = false := by
      cases hc : List.contains m n with
      | false => rfl
      | true =>
        obtain ⟨en, e1, e2⟩ := (h5 n).2 (List.contains_iff_mem.1 hc)
        exact absurd e2 (f1 en e1)
    rw [hc]
    refine Sound1.value h (u := .bool false) ?_ rfl
    simp [execOp, ho, h1, hy, Instr.lookup, run_underlying hu, MapKept.run_getObj_map h2, hck, MapKept.run_findKey hk f2, hz, Result.andThen]
  · have hmem := List.mem_of_getElem? f3
    have hc : List.contains m n = true := List.contains_iff_mem.2 ((h5 n).1 ⟨en, hmem, f4⟩)
    rw [hc]
    refine Sound1.value h (u := .bool true) ?_ rfl
    simp [execOp, ho, h1, hy, Instr.lookup, run_underlying hu, MapKept.run_getObj_map h2, hck, MapKept.run_findKey hk f2, (h4 en hmem).2, Result.andThen]
theorem sound_siLen (h : Rel Z e a w G) (hT : TTok P tt) {o : Oper} {t : Nat} {v : AV} {u : Value} (hst : isSiT tt t = true) (hv : VRel Z e G w v u)
    (hp : (siOf v fun _ m => .ret (upD o.dst (.one (.int .i64 m.length)))).run C e s = some (us, s')) (hr : ∀ n w, (Builtin.len_ #[t] o.type #[u]).run P w = Result.ok (goInt n) w → (execOp a.eval o).run P w = .ok (.value (goInt n)) w) : Sound1 P o us Z e a w := by
  obtain ⟨kt, et, hu, hk, hz⟩ := isSiT_spec hT hst
  obtain ⟨r, m, s4, hl, hxe, ⟨⟨b, es, clock, h1, h2, h3, h4, h5⟩⟩, hp5⟩ := run_siOf h hv hp
  rw [run_upD hp5]
  refine Sound1.value h (u := goInt m.length) (hr _ _ ?_) rfl
  simp [Builtin.len_, underlying, hu, h1, MapKept.run_getObj_map h2, h3, Result.andThen]
theorem sound_makeMap (h : Rel Z e a w G) (hT : TTok P tt) {o : Oper} {t : Nat} {rv : Option Operand} (ho : o.op = .makeMap t rv) (hp : (opPg tt sig o).run C e s = some (us, s')) : Sound1 P o us Z e a w := by
  have hset : KsOk { w with heap := w.heap.push (.map #[] 0) } [] (.map (some w.heap.size)) := ⟨⟨w.heap.size, #[], 0, rfl, by simp, by simp, by simp⟩⟩
  cases rv with
  | some x =>
    simp only [opPg, ho] at hp
    split at hp
    case h_2 => exact run_fail hp
    rename_i d ti hd hti
    obtain ⟨hmt, hp⟩ := run_bif_fail hp
    obtain ⟨kt, et, hu, _, _⟩ := isSetT_spec hT hti hmt
    obtain ⟨xv, s1, hxv, hp⟩ := run_opv h hp
    obtain ⟨ik, n, rfl, hp⟩ := run_intV hp
    obtain ⟨hik, hp⟩ := run_bif_fail hp
    have hy : a.eval x = .int ik n := hxv
    refine sound_newMap h hd hp ?_ hset
    simp [execOp, ho, Instr.makeMap, run_underlying hu, hy, asInt, asIntOf]
  | none =>
    simp only [opPg, ho] at hp
    split at hp
    case h_2 => exact run_fail hp
    rename_i d ti hd hti
    have hrun : (execOp a.eval o).run P w = .ok (.value (.map (some w.heap.size))) { w with heap := w.heap.push (.map #[] 0) } := by
      simp [execOp, ho, Instr.makeMap]
    cases hmt : isMapT tt ti with
    | true =>
      rw [hmt] at hp
      exact sound_newMap h hd hp hrun ⟨⟨w.heap.size, #[], 0, rfl, by simp, by simp, by simp⟩⟩
    | false =>
      rw [hmt] at hp
      simp only [cond_false] at hp
      rcases run_bif hp with ⟨_, hp⟩ | ⟨_, hp⟩
      · exact sound_newMap h hd hp hrun hset
      · obtain ⟨hst, hp⟩ := run_bif_fail hp
        exact sound_newMap h hd hp hrun ⟨⟨w.heap.size, #[], 0, rfl, by simp, rfl, by simp, by simp⟩⟩

theorem sound_setUpd (h : Rel Z e a w G) (hT : TTok P tt) {o : Oper} {t : Nat} {x y z : Operand} (ho : o.op = .mapUpdate t x y z ∨ o.op = .insert t x y z) {ti : TI} (hd : o.dst = none) (hti : tt.get t = some ti) (hmt : isSetT tt ti = true)
    (hp : (opv x fun x => opv y fun y => opv z fun z => isTrue z (keyV y fun k => setOf x fun r m => .ret [.rt r (some (.map (.ks (k :: m))))])).run C e s = some (us, s')) : Sound1 P o us Z e a w := by
  obtain ⟨kt, et, hu, hk, hz⟩ := isSetT_spec hT hti hmt
  obtain ⟨xv, s1, hxv, hp⟩ := run_opv h hp
  obtain ⟨yv, s2, hyv, hp⟩ := run_opv h hp
  obtain ⟨zv, s3, hzv, hp⟩ := run_opv h hp
  obtain ⟨hzz, hp⟩ := run_isTrue hzv hp
  obtain ⟨q, s4, hq, hq8, hqk, hp⟩ := run_keyV hyv hp
  obtain ⟨r, m, s5, hl, hxe, _, hp⟩ := run_setOf h hxv hp
  obtain rfl : us = _ := run_ret hp
  obtain ⟨⟨b, es, clock, h1, h2, h3, h4⟩⟩ : KsOk w m (G r) := (h.mem.roots r _ hl).1
  have hxm : a.eval x = .map (some b) := hxe.trans h1
  obtain ⟨lit, hlit⟩ := keyOf_arr hk hq8 hqk
  have hlaw := akOk_law hk
  have hck := hlaw.check w false hlit
  have hst := hlaw.stays w hlit
  have hall : ∀ en ∈ es.toList, ∃ l, keyOf P kt en.key = some l := fun en hen => by
    obtain ⟨⟨k, e1, e2, e3⟩, _⟩ := h3 en hen
    rw [e1]; exact keyOf_arr hk e2 e3
  have hbk : Bk (G r) b := by rw [h1]; exact .inl rfl
  have hset := fun o' => (MapKept.heap_set (o' := o') h2).1
  rcases hlaw.find w hlit es.toList hall with ⟨f1, f2⟩ | ⟨j, en, f1, f2, f3⟩
  · refine Sound1.skip hd (G' := G) (w' := { w with heap := w.heap.setIfInBounds b (.map (es.push { key := arrOf q, val := .bool true, born := clock }) (clock + 1)) }) ?_ ?_
    · rcases ho with ho | ho <;> simp [execOp, ho, hxm, hq, hzz, Instr.mapUpdate, run_underlying hu, MapKept.run_getObj_map h2, hck, f1, MapKept.run_setObj_map _ h2, Result.andThen]
    · refine h.writeSet hl hbk h2 ⟨⟨b, _, _, h1, hset _, fun p hp => ?_, fun k => ?_⟩⟩
      · simp only [Array.toList_push, List.mem_append, List.mem_singleton] at hp
        rcases hp with hp | rfl
        · exact h3 p hp
        · exact ⟨⟨q, rfl, hq8, hqk⟩, rfl⟩
      · have h5 := h4 k
        simp only [Array.toList_push, List.mem_append, List.mem_singleton, List.mem_cons, List.not_mem_nil, or_false]
        constructor
        · rintro ⟨p, hp | rfl, e1⟩
          · exact .inr (h5.1 ⟨p, hp, e1⟩)
          · exact .inl (arrOf_inj e1).symm
        · rintro (rfl | hm)
          · exact ⟨_, .inr rfl, rfl⟩
          · obtain ⟨p, hp, e1⟩ := h5.2 hm
            exact ⟨p, .inl hp, e1⟩
  · have hj : es[j]? = some en := by simpa using f2
    refine Sound1.skip hd (G' := G) (w' := { w with heap := w.heap.setIfInBounds b (.map (es.modify j fun e => { e with key := arrOf q, val := .bool true }) clock) }) ?_ ?_
    · rcases ho with ho | ho <;> simp [execOp, ho, hxm, hq, hzz, Instr.mapUpdate, run_underlying hu, MapKept.run_getObj_map h2, hck, f1, hj, f3, hst, MapKept.run_setObj_map _ h2, Result.andThen]
    · have hsp := list_split f2
      refine h.writeSet hl hbk h2 ⟨⟨b, _, _, h1, hset _, fun p hp => ?_, fun k => ?_⟩⟩
      · rw [modify_toList _ hj] at hp
        simp only [List.mem_append, List.mem_cons] at hp
        rcases hp with hp | rfl | hp
        · exact h3 p (List.mem_of_mem_take hp)
        · exact ⟨⟨q, rfl, hq8, hqk⟩, rfl⟩
        · exact h3 p (List.mem_of_mem_drop hp)
      · have h5 := h4 k
        rw [hsp] at h5
        rw [modify_toList _ hj]
        simp only [List.mem_append, List.mem_cons] at h5 ⊢
        constructor
        · rintro ⟨p, hp | rfl | hp, e1⟩
          · exact .inr (h5.1 ⟨p, .inl hp, e1⟩)
          · exact .inl (arrOf_inj e1).symm
          · exact .inr (h5.1 ⟨p, .inr (.inr hp), e1⟩)
        · rintro (rfl | hm)
          · exact ⟨_, .inr (.inl rfl), rfl⟩
          · obtain ⟨p, hp | rfl | hp, e1⟩ := h5.2 hm
            · exact ⟨p, .inl hp, e1⟩
            · exact ⟨_, .inr (.inl rfl), by rw [← f3]; exact e1⟩
            · exact ⟨p, .inr (.inr hp), e1⟩

theorem sound_siUpd (h : Rel Z e a w G) (hT : TTok P tt) {o : Oper} {t : Nat} {x y z : Operand} (ho : o.op = .mapUpdate t x y z) (hd : o.dst = none) (hmt : isSiT tt t = true)
    (hp : (opv x fun x => opv y fun y => opv z fun z => isTrue z (intV y fun ik n => bif decide (ik = .i64) then siOf x fun r m => .chk (!List.contains m n) (.ret [.rt r (some (.map (.si (n :: m))))]) else .fail)).run C e s = some (us, s')) : Sound1 P o us Z e a w := by
  obtain ⟨kt, et, hu, hk, hz⟩ := isSiT_spec hT hmt
  obtain ⟨xv, s1, hxv, hp1⟩ := run_opv h hp
  obtain ⟨yv, s2, hyv, hp2⟩ := run_opv h hp1
  obtain ⟨zv, s3, hzv, hp3⟩ := run_opv h hp2
  obtain ⟨hzz, hp4⟩ := run_isTrue hzv hp3
  obtain ⟨ik, n, rfl, hp5⟩ := run_intV hp4
  obtain ⟨hik, hp6⟩ := run_bif_fail hp5
  have hik := of_decide_eq_true hik
  subst hik
  obtain ⟨r, m, s5, hl, hxe, _, hp7⟩ := run_siOf h hxv hp6
  obtain ⟨hcn, hp8⟩ := run_chk hp7
  obtain rfl : us = _ := run_ret hp8
  obtain ⟨⟨b, es, clock, h1, h2, h3, h4, h5⟩⟩ : SiOk w m (G r) := (h.mem.roots r _ hl).1
  have hxm : a.eval x = .map (some b) := hxe.trans h1
  have hy : a.eval y = .int .i64 n := hyv
  have hck := MapKept.run_checkKey (P := P) (w := w) (k := .int .i64 n) hk (by simp [MapKept.IsKey]) false 9999
  have hbk : Bk (G r) b := by rw [h1]; exact .inl rfl
  have hst := fun o' => (MapKept.heap_set (o' := o') h2).1
  rcases findNow_int (n := n) es.toList 0 (fun x hx => (h4 x hx).1) with ⟨f1, f2⟩ | ⟨j, en, f2, f3, f4⟩
  · refine Sound1.skip hd (G' := G) (w' := { w with heap := w.heap.setIfInBounds b (.map (es.push { key := .int .i64 n, val := .bool true, born := clock }) (clock + 1)) }) ?_ ?_
    · simp [execOp, ho, hxm, hy, hzz, Instr.mapUpdate, run_underlying hu, MapKept.run_getObj_map h2, hck, MapKept.run_findKey hk f2, MapKept.run_setObj_map _ h2, Result.andThen]
    · refine h.writeSi hl hbk h2 ⟨⟨b, _, _, h1, hst _, by simp [h3], fun q hq => ?_, fun k => ?_⟩⟩
      · simp only [Array.toList_push, List.mem_append, List.mem_singleton] at hq
        rcases hq with hq | rfl
        · exact h4 q hq
        · exact ⟨⟨n, rfl⟩, rfl⟩
      · have h6 := h5 k
        simp only [Array.toList_push, List.mem_append, List.mem_singleton, List.mem_cons, List.not_mem_nil, or_false]
        constructor
        · rintro ⟨p, hp | rfl, e1⟩
          · exact .inr (h6.1 ⟨p, hp, e1⟩)
          · injection e1 with _ e1; exact .inl e1.symm
        · rintro (rfl | hm)
          · exact ⟨_, .inr rfl, rfl⟩
          · obtain ⟨p, hp, e1⟩ := h6.2 hm
            exact ⟨p, .inl hp, e1⟩
  · have hc : List.contains m n = true := List.contains_iff_mem.2 ((h5 n).1 ⟨en, List.mem_of_getElem? f3, f4⟩)
    rw [hc] at hcn
    cases hcn
theorem sound_insert (h : Rel Z e a w G) (hT : TTok P tt) {o : Oper} {t : Nat} {x y z : Operand} (ho : o.op = .insert t x y z) (hp : (opPg tt sig o).run C e s = some (us, s')) : Sound1 P o us Z e a w := by
  simp only [opPg, ho] at hp
  split at hp
  case h_2 => exact run_fail hp
  rename_i ti hd hti
  obtain ⟨hmt, hp⟩ := run_bif_fail hp
  exact sound_setUpd h hT (.inr ho) hd hti hmt hp

theorem sound_mapUpdate (h : Rel Z e a w G) (hT : TTok P tt) {o : Oper} {t : Nat} {x y z : Operand} (ho : o.op = .mapUpdate t x y z) (hp : (opPg tt sig o).run C e s = some (us, s')) : Sound1 P o us Z e a w := by
  simp only [opPg, ho] at hp
  split at hp
  case h_2 => exact run_fail hp
  rename_i ti hd hti
  cases hmt : isMapT tt ti with
  | false =>
    rw [hmt] at hp
    simp only [cond_false] at hp
    rcases run_bif hp with ⟨h1, hp⟩ | ⟨_, hp⟩
    · exact sound_setUpd h hT (.inl ho) hd hti h1 hp
    · obtain ⟨hst, hp1⟩ := run_bif_fail hp
      exact sound_siUpd h hT ho hd hst hp1
  | true =>
  rw [hmt] at hp
  have hp1 := hp
  clear hp
  obtain ⟨kt, et, hu, hk, hz⟩ := isMapT_spec hT hti hmt
  obtain ⟨xv, s1, hxv, hp2⟩ := run_opv h hp1
  clear hp1
  obtain ⟨yv, s2, hyv, hp3⟩ := run_opv h hp2
  clear hp2
  obtain ⟨zv, s3, hzv, hp4⟩ := run_opv h hp3
  clear hp3
  obtain ⟨ik, n, hyv0, hp5⟩ := run_intV hp4
  clear hp4
  obtain ⟨iv, v, hzv0, hp6⟩ := run_intV hp5
  clear hp5
  obtain ⟨hik, hp⟩ := run_bif_fail hp6
  clear hp6
  simp only [Bool.and_eq_true, decide_eq_true_eq] at hik
  obtain ⟨rfl, rfl⟩ := hik
  subst hyv0
  subst hzv0
  split at hp
  case h_2 => exact run_fail hp
  rename_i r
  simp only [Pg.run] at hp
  split at hp
  case h_2 => exact run_fail hp
  rename_i m hl
  obtain rfl : us = _ := run_ret hp
  have hx' : MapRel e.rt r ((a.eval x).oneCell' = true) (a.eval x = hdOf (G r)) := hxv
  unfold MapRel at hx'
  rw [hl] at hx'
  have hy : a.eval y = .int .u64 n := hyv
  have hzz : a.eval z = .int .i64 v := hzv
  obtain ⟨⟨b, es, clock, h1, h2, h3, h4⟩⟩ : KvOk w m (G r) := (h.mem.roots r _ hl).1
  have hxe : a.eval x = .map (some b) := hx'.1.trans (by rw [h1]; rfl)
  have hck := MapKept.run_checkKey (P := P) (w := w) (k := .int .u64 n) hk (by simp [MapKept.IsKey]) false 9999
  have hbk : Bk (G r) b := by rw [h1]; exact .inl rfl
  have hst := fun o' => (MapKept.heap_set (o' := o') h2).1
  rcases findNow_find (n := n) es.toList 0 (fun x hx => (h3 x hx).1) with ⟨f1, f2⟩ | ⟨j, en, f1, f2, f3, f4, f5⟩
  · refine Sound1.skip hd (G' := G) (w' := { w with heap := w.heap.setIfInBounds b (.map (es.push { key := .int .u64 n, val := .int .i64 v, born := clock }) (clock + 1)) }) ?_ ?_
    · simp [execOp, ho, hxe, hy, hzz, Instr.mapUpdate, run_underlying hu, MapKept.run_getObj_map h2, hck, MapKept.run_findKey hk f2, MapKept.run_setObj_map _ h2, Result.andThen]
    · refine h.writeMap hl hbk h2 ⟨⟨b, _, _, h1, hst _, fun q hq => ?_, fun k => ?_⟩⟩
      · simp only [Array.toList_push, List.mem_append, List.mem_singleton] at hq
        rcases hq with hq | rfl
        · exact h3 q hq
        · exact ⟨⟨n, rfl⟩, v, rfl⟩
      · rw [Array.toList_push, List.find?_append, List.lookup_cons]
        have h5 := h4 k
        by_cases c : k = n
        · subst c
          rw [f1]
          simp [keyIs]
        · have c1 : (n == k) = false := by simpa using fun e : n = k => c e.symm
          have c2 : (k == n) = false := by simpa using c
          have : ([{ key := .int .u64 n, val := .int .i64 v, born := clock }] : List MapEntry).find? (fun x => keyIs k x.key) = none := by simp [keyIs, c1]
          rw [this, Option.or_none, c2]
          exact h5
  · have hj : es[j]? = some en := by simpa using f3
    refine Sound1.skip hd (G' := G) (w' := { w with heap := w.heap.setIfInBounds b (.map (es.modify j fun e => { e with key := .int .u64 n, val := .int .i64 v }) clock) }) ?_ ?_
    · simp [execOp, ho, hxe, hy, hzz, Instr.mapUpdate, run_underlying hu, MapKept.run_getObj_map h2, hck, MapKept.run_findKey hk f2, hj, f4, MapKept.run_keyThatStays (P := P) (w := w) (d := .int .u64) (k := .int .u64 n) (by simp [MapKept.IsKey]), MapKept.run_setObj_map _ h2, Result.andThen]
    · have hsp := list_split f3
      refine h.writeMap hl hbk h2 ⟨⟨b, _, _, h1, hst _, fun q hq => ?_, fun k => ?_⟩⟩
      · rw [modify_toList _ hj] at hq
        simp only [List.mem_append, List.mem_cons] at hq
        rcases hq with hq | rfl | hq
        · exact h3 q (List.mem_of_mem_take hq)
        · exact ⟨⟨n, rfl⟩, v, rfl⟩
        · exact h3 q (List.mem_of_mem_drop hq)
      · rw [modify_toList _ hj, List.find?_append, List.find?_cons, List.lookup_cons]
        have h5 := h4 k
        rw [hsp, List.find?_append, List.find?_cons, f4] at h5
        by_cases c : k = n
        · subst c
          have h6 : (es.toList.take j).find? (fun x => keyIs k x.key) = none := List.find?_eq_none.2 fun y hy => by rw [f5 y hy]; simp
          rw [h6]
          simp [keyIs]
        · have c1 : (n == k) = false := by simpa using fun e : n = k => c e.symm
          have c2 : (k == n) = false := by simpa using c
          have c3 : keyIs k (.int .u64 n) = false := c1
          rw [c3] at h5
          rw [c2]
          show Option.map (·.val) (((es.toList.take j).find? _).or (match keyIs k (.int .u64 n) with | true => _ | false => _)) = _
          rw [c3]
          exact h5

theorem op_sound (h : Rel Z e a w G) (hT : TTok P tt) (hC : OkC P C) {o : Oper} (hp : (opPg tt sig o).run C e s = some (us, s')) : Sound1 P o us Z e a w := by
  cases ho : o.op with
  | move x => exact sound_move h (.inl ho) hp
  | assign x => exact sound_move h (.inr ho) hp
  | pick c x y => exact sound_pick h ho hp
  | alloc t => exact sound_alloc h hT ho hp
  | box t x => exact sound_box h hT ho hp
  | build t parts => exact sound_build h hT ho hp
  | buildSlice t n parts => exact sound_buildSlice h hT ho hp fun d ti x v s1 hd hti hn hpa hv hp => by subst hn; subst hpa; exact sound_rrBuild h hT ho hd hti hv hp
  | load t x => exact sound_load h hT ho hp fun d ti r i s1 hd hti hsz hag hv hp => sound_take h hT ho hd hti hsz hag hv hp
  | store t x y => exact sound_store h hT ho hp fun ti r i v s1 hd hti hsz hv hv2 hp => sound_put h hT ho hd hti hsz hv hv2 hp
  | nilCheck x => exact sound_nilCheck h ho hp
  | binOp op t x y u => exact sound_binOp h hT ho hp
  | unOp op t x => exact sound_unOp h ho hp
  | convert u t x => exact sound_convert h hT ho hp
  | makeSlice t n c => exact sound_makeSlice h hT ho hp fun d ti te k s1 hd hti hte hkd hp => sound_rrMake h hT ho hd hti hte hkd hp
  | slice t x lo hi mx => exact sound_slice h hT ho hp
  | fieldAddr t x f => exact sound_fieldAddr h hT ho hp
  | field t x f => exact sound_field h hT ho hp
  | indexAddr t x y => exact sound_indexAddr h hT ho hp
  | index t x y => exact sound_index h hT ho hp
  | extract x i => exact sound_extract h ho hp
  | makeMap t r => exact sound_makeMap h hT ho hp
  | lookup t x y ok =>
    cases ok with
    | true => exact sound_lookup h hT ho hp
    | false => exact sound_setLook h hT ho hp fun hst hp => sound_siLook h hT ho hst hp
  | mapUpdate t x y z => exact sound_mapUpdate h hT ho hp
  | insert t x y z => exact sound_insert h hT ho hp
  | makeFunc f first cs =>
    cases f with
    | func f => exact sound_makeFunc h ho hp
    | _ => simp only [opPg, ho] at hp; exact run_fail hp
  | call c =>
    obtain ⟨cal, args, ats⟩ := c
    cases cal with
    | builtin bi =>
      cases bi with
      | len => exact sound_len h hT ho hp fun t v u s1 hst hv hp hr => sound_siLen h hT hst hv hp hr
      | append => exact sound_append h hT ho hp fun d t sv xv su xu s1 hd hsv hxv hp hr => sound_rrAppend h hT hd hsv hxv hp hr
      | copy => exact sound_copy h hT ho hp
      | clear => exact sound_clear h hT ho hp
      | min => exact sound_min h ho hp
      | max => exact sound_max h ho hp
      | _ => simp only [opPg, ho, builtinPg] at hp; exact run_fail hp
    | value f => exact sound_call h hC ho hp
    | invoke r m => simp only [opPg, ho] at hp; exact run_fail hp
  | _ => simp only [opPg, ho] at hp; exact run_fail hp
end
end Go.Am
set_option linter.unusedVariables false
set_option linter.unusedSimpArgs false
namespace Go.Am
open Go

/-! ### What a small program looks at -/

theorem Pg.run_seen {α : Type} {C : Nat → Pk → Option Pk} {e : Env} : ∀ {p : Pg α} {s s' : Seen} {x : α}, p.run C e s = some (x, s') → (∀ t ∈ s.ts, t ∈ s'.ts) ∧ ∀ r ∈ s.rs, r ∈ s'.rs
  | .ret a, s, s', x, h => by simp [Pg.run] at h; rw [← h.2]; exact ⟨fun _ h => h, fun _ h => h⟩
  | .fail, s, s', x, h => by simp [Pg.run] at h
  | .tmp t f, s, s', x, h => let ⟨h1, h2⟩ := Pg.run_seen (p := f (e.get t)) h; ⟨fun u hu => h1 u (List.mem_cons_of_mem _ hu), h2⟩
  | .root r f, s, s', x, h => let ⟨h1, h2⟩ := Pg.run_seen (p := f (look e.rt r)) h; ⟨h1, fun u hu => h2 u (List.mem_cons_of_mem _ hu)⟩
  | .chk b p, s, s', x, h => Pg.run_seen (run_chk h).2
  | .sel b p q, s, s', x, h => by
    rcases run_sel h with ⟨_, h⟩ | ⟨_, h⟩
    · exact Pg.run_seen h
    · exact Pg.run_seen h
  | .call g p f, s, s', x, h => by
    simp only [Pg.run] at h
    obtain ⟨q, _, h⟩ := Option.bind_eq_some_iff.1 h
    exact Pg.run_seen (p := f q) h
theorem Pg.run_congr {α : Type} {C : Nat → Pk → Option Pk} {e e2 : Env} : ∀ {p : Pg α} {s s' : Seen} {x : α}, p.run C e s = some (x, s') → (∀ t ∈ s'.ts, e2.get t = e.get t) → (∀ r ∈ s'.rs, look e2.rt r = look e.rt r) → p.run C e2 s = some (x, s')
  | .ret a, s, s', x, h, _, _ => h
  | .fail, s, s', x, h, _, _ => h
  | .tmp t f, s, s', x, h, h1, h2 => by
    have h3 := (Pg.run_seen (p := f (e.get t)) h).1 t (List.mem_cons_self ..)
    show (f (e2.get t)).run C e2 _ = _
    rw [h1 t h3]
    exact Pg.run_congr (p := f (e.get t)) h h1 h2
  | .root r f, s, s', x, h, h1, h2 => by
    have h3 := (Pg.run_seen (p := f (look e.rt r)) h).2 r (List.mem_cons_self ..)
    show (f (look e2.rt r)).run C e2 _ = _
    rw [h2 r h3]
    exact Pg.run_congr (p := f (look e.rt r)) h h1 h2
  | .chk b p, s, s', x, h, h1, h2 => by
    obtain ⟨rfl, h⟩ := run_chk h
    exact Pg.run_congr (p := p) h h1 h2
  | .sel b p q, s, s', x, h, h1, h2 => by
    rcases run_sel h with ⟨rfl, h⟩ | ⟨rfl, h⟩
    · exact Pg.run_congr (p := p) h h1 h2
    · exact Pg.run_congr (p := q) h h1 h2
  | .call g p f, s, s', x, h, h1, h2 => by
    simp only [Pg.run] at h ⊢
    obtain ⟨q, hq, h⟩ := Option.bind_eq_some_iff.1 h
    rw [hq]
    exact Pg.run_congr (p := f q) h h1 h2

/-! ### The same slots, the same names -/

structure EqE (e e2 : Env) : Prop where
  tm : e.tm = e2.tm
  ag : e.ag = e2.ag
  rt : ∀ r, look e.rt r = look e2.rt r
theorem EqE.refl (e : Env) : EqE e e := ⟨rfl, rfl, fun _ => rfl⟩
theorem EqE.symm {e e2 : Env} (h : EqE e e2) : EqE e2 e := ⟨h.tm.symm, h.ag.symm, fun r => (h.rt r).symm⟩
theorem EqE.trans {e e2 e3 : Env} (h : EqE e e2) (k : EqE e2 e3) : EqE e e3 := ⟨h.tm.trans k.tm, h.ag.trans k.ag, fun r => (h.rt r).trans (k.rt r)⟩
theorem EqE.get {e e2 : Env} (h : EqE e e2) (t : Nat) : e.get t = e2.get t := by unfold Env.get; rw [h.tm]
theorem EqE.up {e e2 : Env} (h : EqE e e2) : ∀ (u : Up), EqE (e.up u) (e2.up u)
  | .tm d v => ⟨by show e.tm.set d v = e2.tm.set d v; rw [h.tm], h.ag, h.rt⟩
  | .rt r x => ⟨h.tm, h.ag, fun q => by show look (setR e.rt r x) q = look (setR e2.rt r x) q; rw [look_setR, look_setR, h.rt]⟩
theorem EqE.ups : ∀ {us : List Up} {e e2 : Env}, EqE e e2 → EqE (e.ups us) (e2.ups us)
  | [], _, _, h => h
  | u :: l, _, _, h => EqE.ups (us := l) (h.up u)
def upApart : Up → Up → Prop
  | .tm d _, .tm d' _ => d ≠ d'
  | .rt r _, .rt r' _ => r ≠ r'
  | _, _ => True
theorem up_comm {u v : Up} (h : upApart u v) (e : Env) : EqE ((e.up u).up v) ((e.up v).up u) := by
  cases u with
  | tm d x => cases v with
    | tm d' y => exact ⟨List.set_comm _ _ (h : d ≠ d'), rfl, fun _ => rfl⟩
    | rt r y => exact .refl _
  | rt r x => cases v with
    | tm d' y => exact .refl _
    | rt r' y =>
      refine ⟨rfl, rfl, fun q => ?_⟩
      show look (setR (setR e.rt r x) r' y) q = look (setR (setR e.rt r' y) r x) q
      simp only [look_setR]
      have hne : r ≠ r' := h
      by_cases h1 : q = r
      · subst h1; rw [if_neg hne, if_pos rfl, if_pos rfl]
      · by_cases h2 : q = r'
        · subst h2; rw [if_pos rfl, if_neg h1, if_pos rfl]
        · rw [if_neg h2, if_neg h1, if_neg h1, if_neg h2]
theorem ups_comm1 {u : Up} : ∀ {us : List Up} (h : ∀ v ∈ us, upApart u v) (e : Env), EqE ((e.up u).ups us) ((e.ups us).up u)
  | [], _, _ => .refl _
  | v :: l, h, e => (EqE.ups (us := l) (up_comm (h v (List.mem_cons_self ..)) e)).trans (ups_comm1 (fun x hx => h x (List.mem_cons_of_mem _ hx)) (e.up v))
theorem ups_comm : ∀ {us vs : List Up} (h : ∀ u ∈ us, ∀ v ∈ vs, upApart u v) (e : Env), EqE ((e.ups us).ups vs) ((e.ups vs).ups us)
  | [], _, _, _ => .refl _
  | u :: l, vs, h, e => (ups_comm (us := l) (fun x hx => h x (List.mem_cons_of_mem _ hx)) (e.up u)).trans (EqE.ups (us := l) (ups_comm1 (h u (List.mem_cons_self ..)) e))
theorem ups_get : ∀ {us : List Up} {e : Env} {t : Nat}, t ∉ Up.tms us → (e.ups us).get t = e.get t
  | [], _, _, _ => rfl
  | .tm d v :: l, e, t, h => by
    have h1 : t ≠ d ∧ t ∉ Up.tms l := by simpa [Up.tms] using h
    show ((e.up (.tm d v)).ups l).get t = _
    rw [ups_get h1.2]
    show (e.tm.set d v).getD t (.one .dead) = e.tm.getD t (.one .dead)
    simp only [List.getD]
    rw [List.getElem?_set_ne (Ne.symm h1.1)]
  | .rt r x :: l, e, t, h => by
    show ((e.up (.rt r x)).ups l).get t = _
    rw [ups_get (us := l) (by simpa [Up.tms] using h)]; rfl

theorem apart1_ne {a b : List Nat} (h : apart1 a b = true) {x y : Nat} (hx : x ∈ a) (hy : y ∈ b) : x ≠ y := fun e0 => by
  have := List.all_eq_true.1 (List.all_eq_true.1 h x hx) y hy
  rw [e0] at this; simp at this
theorem apart2_ne {a b : List Rid} (h : apart2 a b = true) {x y : Rid} (hx : x ∈ a) (hy : y ∈ b) : x ≠ y := fun e0 => by
  have := List.all_eq_true.1 (List.all_eq_true.1 h x hx) y hy
  rw [e0, Rid.beq_refl] at this; cases this
theorem mem_tms {d : Nat} {v : AV} : ∀ {us : List Up}, Up.tm d v ∈ us → d ∈ Up.tms us
  | [], h => by simp at h
  | u :: l, h => by
    rcases List.mem_cons.1 h with h' | h'
    · subst h'; exact List.mem_cons_self ..
    · cases u with
      | tm d' v' => exact List.mem_cons_of_mem _ (mem_tms h')
      | rt r x => exact mem_tms (us := l) h'
theorem mem_rts {r : Rid} {x : Option Root} : ∀ {us : List Up}, Up.rt r x ∈ us → r ∈ Up.rts us
  | [], h => by simp at h
  | u :: l, h => by
    rcases List.mem_cons.1 h with h' | h'
    · subst h'; exact List.mem_cons_self ..
    · cases u with
      | rt r' x' => exact List.mem_cons_of_mem _ (mem_rts h')
      | tm d v => exact mem_rts (us := l) h'
theorem ups_look {us : List Up} {e : Env} {r : Rid} (h : r ∉ Up.rts us) : look (e.ups us).rt r = look e.rt r :=
  ups_other fun x hx => h (mem_rts hx)
structure Apart (x y : Done) : Prop where
  t1 : ∀ {i j}, i ∈ Up.tms x.ups → j ∈ y.seen.ts → i ≠ j
  t2 : ∀ {i j}, i ∈ Up.tms x.ups → j ∈ Up.tms y.ups → i ≠ j
  t3 : ∀ {i j}, i ∈ x.seen.ts → j ∈ Up.tms y.ups → i ≠ j
  r1 : ∀ {i j}, i ∈ Up.rts x.ups → j ∈ y.seen.rs → i ≠ j
  r2 : ∀ {i j}, i ∈ Up.rts x.ups → j ∈ Up.rts y.ups → i ≠ j
  r3 : ∀ {i j}, i ∈ x.seen.rs → j ∈ Up.rts y.ups → i ≠ j
theorem Apart.of_chk {x y : Done} (h : x.apart y = true) : Apart x y := by
  simp only [Done.apart, Bool.and_eq_true] at h
  obtain ⟨h1, h2, h3, h4, h5, h6⟩ := h
  exact ⟨apart1_ne h1, apart1_ne h2, apart1_ne h3, apart2_ne h4, apart2_ne h5, apart2_ne h6⟩
theorem Apart.ups {x y : Done} (h : Apart x y) (e : Env) : EqE ((e.ups x.ups).ups y.ups) ((e.ups y.ups).ups x.ups) :=
  ups_comm (fun u hu v hv => by
    cases u with
    | tm d a => cases v with
      | tm d' b => exact h.t2 (mem_tms hu) (mem_tms hv)
      | rt => trivial
    | rt r a => cases v with
      | tm => trivial
      | rt r' b => exact h.r2 (mem_rts hu) (mem_rts hv)) e

section
variable {P : Program} {tt : TT} {sig : Sig} {C : Nat → Pk → Option Pk} {Z : Base} {e : Env} {a : Act} {w w' : World} {G : Gh} {s s' : Seen} {us : List Up} {b : Nat} {ops : Array Oper} {Q : Exit → Act → World → Prop}

theorem Rel.congr (h : Rel Z e a w G) {e2 : Env} (he : EqE e e2) : Rel Z e2 a w G := by
  have hc : Chg Z e.rt G w e2.rt G w :=
    { os := rfl, tape := rfl, output := rfl, size := Nat.le_refl _, block := fun _ _ _ => rfl
      own := fun b ⟨r, x, h1, h2, h3⟩ => .inl ⟨r, x, by rw [he.rt]; exact h1, h2, h3⟩
      turns := fun r x hx => ⟨x, by rw [← he.rt]; exact hx, .same x, fun _ => .inl rfl⟩ }
  have hm : Mem Z e2.rt G w := hc.mem h.mem (fun r x hx => .inl ⟨by rw [he.rt]; exact hx, rfl, fun _ _ _ => rfl⟩)
    (fun r r' x x' c h1 h2 => h.mem.sep r r' x x' c (by rw [he.rt]; exact h1) (by rw [he.rt]; exact h2))
  have := h.chg hc hm
  have e2e : e2 = { e with rt := e2.rt } := by cases e2; simp only at *; rw [show e.tm = _ from he.tm, show e.ag = _ from he.ag]
  rw [e2e]; exact this
theorem Rel.drew (h : Rel Z e a w G) : Rel Z e a { w with drawn := w.drawn + 1 } G := by
  have hc : Chg Z e.rt G w e.rt G { w with drawn := w.drawn + 1 } :=
    { os := rfl, tape := rfl, output := rfl, size := Nat.le_refl _, block := fun _ _ _ => rfl, own := fun _ h => .inl h, turns := Turns.refl _ _ }
  exact h.chg hc (hc.mem h.mem (fun r x hx => .inl ⟨hx, rfl, fun _ _ _ => rfl⟩) fun r r' x x' c h1 h2 => h.mem.sep r r' x x' c h1 h2)

/-! ### Operations one by one, none of which asks for more room -/

def wpOp1 (P : Program) (ops : Array Oper) (Q : Exit → Act → World → Prop) (i : Nat) (K : Act → World → Prop) (a : Act) (w : World) : Prop :=
  match ops[i]? with
  | none => K a w
  | some o => if Region.wanted o (yielded ops a.tmps) then o.wp P a w K Q else K (a.put o.dst undef) w
def wpOps1 (P : Program) (ops : Array Oper) (Q : Exit → Act → World → Prop) : List Nat → Act → World → Prop
  | [], a, w => Q .normal a w
  | i :: l, a, w => wpOp1 P ops Q i (wpOps1 P ops Q l) a w
def wpAny1 (P : Program) (ops : Array Oper) (Q : Exit → Act → World → Prop) : Nat → Array Bool → Act → World → Prop
  | 0, listed, a, w => Region.ready .any ops listed = [] ∧ Q .normal a w
  | fuel + 1, listed, a, w => (Region.ready .any ops listed = [] → Q .normal a w) ∧ ∀ i ∈ Region.ready .any ops listed, wpOp1 P ops Q i (wpAny1 P ops Q fuel (listed.setIfInBounds i true)) a w
theorem wpOp1_mono {i : Nat} {a : Act} {w : World} {K K' : Act → World → Prop} (h : ∀ a w, K a w → K' a w) (hh : wpOp1 P ops Q i K a w) : wpOp1 P ops Q i K' a w := by
  unfold wpOp1 at *
  split
  · rename_i ho; simp only [ho] at hh; exact h _ _ hh
  · rename_i o ho
    simp only [ho] at hh
    split
    · rename_i hw; simp only [hw, if_true] at hh; exact Oper.wp_mono h hh
    · rename_i hw; simp only [hw] at hh; exact h _ _ hh
theorem wpOp1.toOp {i : Nat} {a : Act} {w : World} {K : Act → World → Prop} (hh : wpOp1 P ops Q i K a w) : wpOp P ops Q i K a w := by
  unfold wpOp1 at hh
  unfold wpOp
  split
  · rename_i ho; simp only [ho] at hh; exact hh
  · rename_i o ho
    simp only [ho] at hh
    split
    · rename_i hw; simp only [hw, if_true] at hh; exact .inl hh
    · rename_i hw; simp only [hw] at hh; exact hh
theorem wpOps1.opsAll : ∀ {l : List Nat} {a : Act} {w : World}, wpOps1 P ops Q l a w → wpOps P ops Q l a w
  | [], _, _, h => h
  | i :: l, a, w, h => by
    rw [wpOps_cons]
    exact wpOp_mono (fun a w h => wpOps1.opsAll h) (wpOp1.toOp h)
theorem wpAny1.any : ∀ {n : Nat} {listed : Array Bool} {a : Act} {w : World}, wpAny1 P ops Q n listed a w → wpAny P .any ops Q n listed a w
  | 0, _, _, _, h => h
  | n + 1, listed, a, w, h => ⟨h.1, fun i hi => wpOp_mono (fun a w h => wpAny1.any h) (wpOp1.toOp (h.2 i hi))⟩

theorem wpOp_ok (h : Rel Z e a w G) (hT : TTok P tt) (hC : OkC P C) {i : Nat} {o : Oper} (ho : ops[i]? = some o) (hp : (guardPg ops o (opPg tt sig o)).run C e s = some (us, s')) :
    wpOp1 P ops Q i (fun a' w' => ∃ G', Rel Z (e.ups us) a' w' G') a w := by
  unfold wpOp1
  rw [ho]
  dsimp only
  have skip : Rel Z (e.ups (upD o.dst (.tup []))) (a.put o.dst undef) w G := h.putD ⟨#[], rfl, trivial⟩
  unfold guardPg at hp
  split at hp
  · rename_i hg
    rw [if_pos (by simp [Region.wanted, hg])]
    exact op_sound h hT hC hp Q
  · rename_i j want hg
    split at hp
    case h_2 => exact run_fail hp
    rename_i g hgd
    simp only [Pg.run] at hp
    have hv := h.get g
    split at hp
    · rename_i c hc
      rw [hc] at hv
      have hy : yielded ops a.tmps j = some c := by
        have hv' : a.tmps.getD g undef = .bool c := hv
        have : a.tmps[g]? = some (.bool c) := by
          rw [Array.getD_eq_getD_getElem?] at hv'
          cases ht : a.tmps[g]? with
          | none => rw [ht] at hv'; cases hv'
          | some v => rw [ht] at hv'; rw [show v = _ from hv']
        simp [yielded, hgd, this]
      rcases run_sel hp with ⟨h1, hp⟩ | ⟨h1, hp⟩
      · rw [if_pos (by simp only [Region.wanted, hg, hy]; simpa using h1)]
        exact op_sound h hT hC hp Q
      · rw [if_neg (by simp only [Region.wanted, hg, hy]; simpa using h1)]
        have := run_ret hp
        simp only at this
        subst this
        exact ⟨G, skip⟩
    · rename_i hc
      rw [hc] at hv
      have hy : yielded ops a.tmps j = none := by
        obtain ⟨vs, hv', _⟩ := hv
        simp only [yielded, hgd, Option.bind_some]
        cases ht : a.tmps[g]? with
        | none => rfl
        | some v =>
          rw [Array.getD_eq_getD_getElem?, ht] at hv'
          rw [show v = _ from hv']
      rw [if_neg (by simp [Region.wanted, hg, hy])]
      have := run_ret hp
      simp only at this
      subst this
      exact ⟨G, skip⟩
    · exact run_fail hp

def Chain (tt : TT) (sig : Sig) (C : Nat → Pk → Option Pk) (ops : Array Oper) : Env → List Done → Env → Prop
  | e, [], ef => EqE e ef
  | e, x :: l, ef => (∃ o, ops[x.i]? = some o ∧ (guardPg ops o (opPg tt sig o)).run C e ⟨[], []⟩ = some (x.ups, x.seen)) ∧ Chain tt sig C ops (e.ups x.ups) l ef

theorem Chain.congr {ef : Env} : ∀ {l : List Done} {e e2 : Env}, Chain tt sig C ops e l ef → EqE e e2 → Chain tt sig C ops e2 l ef
  | [], e, e2, h, he => he.symm.trans h
  | x :: l, e, e2, ⟨⟨o, h1, h2⟩, h3⟩, he => ⟨⟨o, h1, Pg.run_congr h2 (fun t _ => (he.get t).symm) (fun r _ => (he.rt r).symm)⟩, Chain.congr h3 (EqE.ups he)⟩
theorem Chain.front {ef : Env} {x : Done} {post : List Done} : ∀ {pre : List Done} {e : Env}, Chain tt sig C ops e (pre ++ x :: post) ef → (∀ y ∈ pre, Apart x y) → Chain tt sig C ops e (x :: (pre ++ post)) ef
  | [], e, h, _ => h
  | y :: pre, e, ⟨⟨o, h1, h2⟩, h3⟩, ha => by
    obtain ⟨⟨o', h4, h5⟩, h6⟩ := Chain.front (pre := pre) h3 fun z hz => ha z (List.mem_cons_of_mem _ hz)
    have hxy := ha y (List.mem_cons_self ..)
    refine ⟨⟨o', h4, Pg.run_congr h5 (fun t ht => (ups_get fun hm => hxy.t3 ht hm rfl).symm) (fun r hr => (ups_look fun hm => hxy.r3 hr hm rfl).symm)⟩, ⟨o, h1, Pg.run_congr h2 (fun t ht => ups_get fun hm => hxy.t1 hm ht rfl) (fun r hr => ups_look fun hm => hxy.r1 hm hr rfl)⟩, ?_⟩
    exact Chain.congr h6 (hxy.ups e).symm

theorem wpOps_ok (hT : TTok P tt) (hC : OkC P C) {ef : Env} (hQ : ∀ e' a' w' G', EqE e' ef → Rel Z e' a' w' G' → Q .normal a' w') : ∀ {T : List Done} {e : Env} {a : Act} {w : World} {G : Gh}, Chain tt sig C ops e T ef → Rel Z e a w G → wpOps1 P ops Q (T.map (·.i)) a w
  | [], e, a, w, G, h, hr => hQ e a w G h hr
  | x :: l, e, a, w, G, ⟨⟨o, h1, h2⟩, h3⟩, hr => by
    rw [List.map_cons]
    exact wpOp1_mono (fun a' w' ⟨G', hr'⟩ => wpOps_ok hT hC hQ h3 hr') (wpOp_ok hr hT hC h1 h2)
end
end Go.Am
set_option linter.unusedVariables false
set_option linter.unusedSimpArgs false
namespace Go.Am
open Go

section
variable {P : Program} {tt : TT} {sig : Sig} {C : Nat → Pk → Option Pk} {Z : Base} {e : Env} {a : Act} {w w' : World} {G : Gh} {s s' : Seen} {us : List Up} {b : Nat} {ops : Array Oper} {Q : Exit → Act → World → Prop}

/-! ### Any order that the region allows -/

def Down (ops : Array Oper) (listed : Array Bool) : Prop := ∀ j, listed.getD j false = true → ∀ k ∈ waits ops j, listed.getD k false = true

/-- One waits for the other, by way of others too. -/
inductive Waits (ops : Array Oper) : Nat → Nat → Prop
  | one {i j : Nat} (h : j ∈ waits ops i) : Waits ops i j
  | step {i k j : Nat} (h : k ∈ waits ops i) (t : Waits ops k j) : Waits ops i j
theorem any_beq {l : List Nat} {j : Nat} (h : l.any (Nat.beq j) = true) : j ∈ l := by
  obtain ⟨z, h2, h3⟩ := List.any_eq_true.1 h
  rw [Nat.eq_of_beq_eq_true h3]; exact h2
theorem ancOne_bit {R : List Nat} {i j : Nat} : ∀ {l : List Nat}, (ancOne R i l).testBit j = true → ∃ k ∈ l, k < i ∧ (j = k ∨ (R.getD (i - 1 - k) 0).testBit j = true)
  | [], h => by simp [ancOne] at h
  | k :: l, h => by
    have h' : (Nat.lor (bif Nat.blt k i then Nat.lor (2 ^ k) (R.getD (i - 1 - k) 0) else 0) (ancOne R i l)).testBit j = true := h
    rw [show ∀ a b, Nat.lor a b = a ||| b from fun _ _ => rfl, Nat.testBit_or, Bool.or_eq_true] at h'
    rcases h' with h1 | h1
    · cases hb : Nat.blt k i with
      | false => rw [hb] at h1; simp at h1
      | true =>
        rw [hb, cond_true, show ∀ a b, Nat.lor a b = a ||| b from fun _ _ => rfl, Nat.testBit_or, Bool.or_eq_true, Nat.testBit_two_pow] at h1
        have hlt : k < i := by
          have := Nat.le_of_ble_eq_true (show Nat.ble (k + 1) i = true from hb)
          omega
        refine ⟨k, List.mem_cons_self .., hlt, ?_⟩
        rcases h1 with h1 | h1
        · exact .inl (of_decide_eq_true h1).symm
        · exact .inr h1
    · obtain ⟨k', h2, h3⟩ := ancOne_bit h1
      exact ⟨k', List.mem_cons_of_mem _ h2, h3⟩
theorem ancs_waits : ∀ (n : Nat) {i j : Nat}, i < n → ((ancs ops n).getD (n - 1 - i) 0).testBit j = true → Waits ops i j
  | 0, _, _, h, _ => by omega
  | n + 1, i, j, hi, h => by
    by_cases c : i = n
    · subst c
      rw [show i + 1 - 1 - i = 0 by omega] at h
      obtain ⟨k, h1, h2, h3⟩ := ancOne_bit (show (ancOne (ancs ops i) i (waits ops i)).testBit j = true from h)
      rcases h3 with rfl | h3
      · exact .one h1
      · exact .step h1 (ancs_waits i h2 h3)
    · rw [show n + 1 - 1 - i = (n - 1 - i) + 1 by omega] at h
      exact ancs_waits n (by omega) (show ((ancs ops n).getD (n - 1 - i) 0).testBit j = true from h)
theorem reach_waits {i j : Nat} (h : reach ops (ancs ops ops.size) i j = true) : Waits ops i j := by
  unfold reach at h
  rw [Bool.and_eq_true] at h
  have hlt : i < ops.size := by
    have := Nat.le_of_ble_eq_true (show Nat.ble (i + 1) ops.size = true from h.1)
    omega
  exact ancs_waits ops.size hlt h.2
theorem allWaits_listed {listed : Array Bool} (hd : Down ops listed) {i j : Nat} (hw : Waits ops i j) : (∀ k ∈ waits ops i, listed.getD k false = true) → listed.getD j false = true := by
  induction hw with
  | one h => exact fun hk => hk _ h
  | step h _ ih => exact fun hk => ih (hd _ (hk _ h))

theorem mem_ready {listed : Array Bool} {i : Nat} : i ∈ Region.ready .any ops listed ↔ i < ops.size ∧ listed.getD i true = false ∧ ∀ k ∈ waits ops i, listed.getD k false = true := by
  unfold Region.ready
  rw [List.mem_filter, List.mem_range]
  constructor
  · rintro ⟨h1, h2⟩
    simp only [Bool.and_eq_true, Bool.not_eq_true'] at h2
    refine ⟨h1, h2.1, fun k hk => ?_⟩
    have ho : ops[i]? = some ops[i] := Array.getElem?_eq_getElem h1
    rw [ho] at h2
    simp only [waits, ho, List.mem_map, List.mem_filter] at hk
    obtain ⟨x, ⟨hx1, hx2⟩, rfl⟩ := hk
    have h3 : (ops[i].after.all fun e => !Region.binds .any e || listed.getD e.on false) = true := by simpa using h2.2
    rw [Array.all_eq_true_iff_forall_mem] at h3
    have := h3 x (by simpa using hx1)
    rw [hx2] at this
    simpa using this
  · rintro ⟨h1, h2, h3⟩
    refine ⟨h1, ?_⟩
    simp only [Bool.and_eq_true, Bool.not_eq_true']
    refine ⟨h2, ?_⟩
    have ho : ops[i]? = some ops[i] := Array.getElem?_eq_getElem h1
    rw [ho]
    show (ops[i].after.all fun e => !Region.binds .any e || listed.getD e.on false) = true
    rw [Array.all_eq_true_iff_forall_mem]
    intro x hx
    cases hb : Region.binds .any x with
    | false => rfl
    | true =>
      have := h3 x.on (by simp only [waits, ho, List.mem_map, List.mem_filter]; exact ⟨x, ⟨by simpa using hx, hb⟩, rfl⟩)
      simpa using this

/-- What is left to do. -/
structure Left (ops : Array Oper) (listed : Array Bool) (rem : List Done) : Prop where
  size : listed.size = ops.size
  mem : ∀ j, listed.getD j true = false ↔ j ∈ rem.map (·.i)
  down : Down ops listed
  sorted : rem.Pairwise fun x y => x.i < y.i
  apart : rem.Pairwise fun x y => Waits ops y.i x.i ∨ Apart y x

theorem getD_two {l : Array Bool} {j : Nat} : l.getD j false = true ↔ l.getD j true = true ∧ j < l.size := by
  by_cases h : j < l.size
  · simp [Array.getD, h]
  · simp [Array.getD, h]

theorem wpAny_ok (hT : TTok P tt) (hC : OkC P C) (hed : okEdges ops = true) {ef : Env} (hQ : ∀ e' a' w' G', EqE e' ef → Rel Z e' a' w' G' → Q .normal a' w') : ∀ (fuel : Nat) {rem : List Done} {listed : Array Bool} {e : Env} {a : Act} {w : World} {G : Gh},
    Left ops listed rem → Chain tt sig C ops e rem ef → Rel Z e a w G → rem.length ≤ fuel → wpAny1 P ops Q fuel listed a w := by
  have hno : ∀ {listed : Array Bool} {rem : List Done}, Left ops listed rem → Region.ready .any ops listed = [] → rem = [] := by
    intro listed rem hl hr
    cases rem with
    | nil => rfl
    | cons x l =>
      have hx : listed.getD x.i true = false := (hl.mem x.i).2 (by simp)
      have hlt : x.i < ops.size := by
        rw [← hl.size]
        by_cases h : x.i < listed.size
        · exact h
        · simp [Array.getD, h] at hx
      have : x.i ∈ Region.ready .any ops listed := mem_ready.2 ⟨hlt, hx, fun k hk => by
        have h1 : k < x.i := by
          have := List.all_eq_true.1 hed x.i (List.mem_range.2 hlt)
          have := List.all_eq_true.1 this k hk
          simp [Nat.blt] at this
          omega
        rw [getD_two]
        refine ⟨?_, by rw [hl.size]; omega⟩
        cases hv : listed.getD k true with
        | true => rfl
        | false =>
          have := (hl.mem k).1 hv
          obtain ⟨y, hy, hyk⟩ := List.mem_map.1 this
          rcases List.mem_cons.1 hy with hy' | hy'
          · subst hy'; omega
          · have := (List.pairwise_cons.1 hl.sorted).1 y hy'
            omega⟩
      rw [hr] at this; simp at this
  have hnone : ∀ {listed : Array Bool}, Left ops listed [] → Region.ready .any ops listed = [] := by
    intro listed hl
    cases hr : Region.ready .any ops listed with
    | nil => rfl
    | cons i l =>
      have : i ∈ Region.ready .any ops listed := by rw [hr]; exact List.mem_cons_self ..
      have := (hl.mem i).1 (mem_ready.1 this).2.1
      simp at this
  intro fuel
  induction fuel with
  | zero =>
    intro rem listed e a w G hl hch hr hle
    have : rem = [] := List.length_eq_zero_iff.1 (Nat.le_zero.1 hle)
    subst this
    exact ⟨hnone hl, hQ e a w G hch hr⟩
  | succ fuel ih =>
    intro rem listed e a w G hl hch hr hle
    refine ⟨fun hrd => ?_, fun i hi => ?_⟩
    · have := hno hl hrd
      subst this
      exact hQ e a w G hch hr
    · obtain ⟨h1, h2, h3⟩ := mem_ready.1 hi
      obtain ⟨x, hx, hxi⟩ := List.mem_map.1 ((hl.mem i).1 h2)
      obtain ⟨pre, post, rfl⟩ := List.append_of_mem hx
      have hap : ∀ y ∈ pre, Apart x y := fun y hy => by
        have := (List.pairwise_append.1 hl.apart).2.2 y hy x (List.mem_cons_self ..)
        rcases this with h4 | h4
        · rw [hxi] at h4
          have h5 := allWaits_listed hl.down h4 h3
          have h6 := (hl.mem y.i).2 (List.mem_map.2 ⟨y, List.mem_append_left _ hy, rfl⟩)
          rw [getD_two, h6] at h5
          cases h5.1
        · exact h4
      obtain ⟨⟨o, h4, h5⟩, h6⟩ := hch.front hap
      rw [hxi] at h4
      have hsub : (pre ++ post).Sublist (pre ++ x :: post) := (List.Sublist.refl pre).append (List.sublist_cons_self x post)
      have hsz : i < listed.size := by rw [hl.size]; exact h1
      have hset : ∀ (j : Nat) (d : Bool), (listed.setIfInBounds i true).getD j d = if j = i then true else listed.getD j d := fun j d => by
        rw [Array.getD_eq_getD_getElem?, Array.getD_eq_getD_getElem?]
        by_cases hj : j = i
        · subst hj; simp [hsz]
        · rw [Array.getElem?_setIfInBounds_ne (Ne.symm hj), if_neg hj]
      have hnot : ∀ y ∈ pre ++ post, y.i ≠ i := fun y hy hyi => by
        have hs := List.pairwise_append.1 hl.sorted
        rcases List.mem_append.1 hy with hy | hy
        · have := hs.2.2 y hy x (List.mem_cons_self ..); omega
        · have := (List.pairwise_cons.1 hs.2.1).1 y hy; omega
      refine wpOp1_mono (fun a' w' ⟨G', hr'⟩ => ?_) (wpOp_ok hr hT hC h4 h5)
      refine ih ⟨by simpa using hl.size, fun j => ?_, fun j hj k hk => ?_, hl.sorted.sublist hsub, hl.apart.sublist hsub⟩ h6 hr' (by simp at hle ⊢; omega)
      · rw [hset]
        constructor
        · intro hj
          split at hj
          · cases hj
          · rename_i hne
            obtain ⟨y, hy, hyj⟩ := List.mem_map.1 ((hl.mem j).1 hj)
            rcases List.mem_append.1 hy with hy | hy
            · exact List.mem_map.2 ⟨y, List.mem_append_left _ hy, hyj⟩
            · rcases List.mem_cons.1 hy with hy | hy
              · subst hy; exact absurd (hyj.symm.trans hxi) hne
              · exact List.mem_map.2 ⟨y, List.mem_append_right _ hy, hyj⟩
        · intro hj
          obtain ⟨y, hy, hyj⟩ := List.mem_map.1 hj
          rw [if_neg (hyj ▸ hnot y hy)]
          exact (hl.mem j).2 (List.mem_map.2 ⟨y, hsub.subset hy, hyj⟩)
      · rw [hset] at hj ⊢
        split
        · rfl
        · split at hj
          · rename_i hji; subst hji; exact h3 k hk
          · exact hl.down j hj k hk

/-! ### The operations of a region, one by one -/

variable {R : Type}

theorem set_same {e : Env} {d : Nat} {v : AV} (h : e.get d = v) (hv : v ≠ .one .dead) : e.up (.tm d v) = e := by
  unfold Env.get at h
  cases ht : e.tm[d]? with
  | none => simp only [List.getD, ht, Option.getD_none] at h; exact absurd h.symm hv
  | some x =>
    simp only [List.getD, ht, Option.getD_some] at h
    subst h
    show { e with tm := e.tm.set d x } = e
    have : e.tm.set d x = e.tm := by
      obtain ⟨h1, h2⟩ := List.getElem?_eq_some_iff.1 ht
      rw [← h2]; exact List.set_getElem_self h1
    rw [this]

theorem evOps_chain {K : CK R} (hK : ∀ f p k, K f p k = (C f p).bind k) {gl : List Nat} {k : Env → List Done → Option R} {r : R} : ∀ {l : List Oper} {i : Nat} {e : Env} {tr : List Done}, evOps tt sig K ops gl l i e tr k = some r →
    (∀ j o, l[j]? = some o → ops[i + j]? = some o) → ∃ T ef, Chain tt sig C ops e T ef ∧ T.map (·.i) = List.range' i l.length ∧ k ef (T.reverse ++ tr) = some r
  | [], i, e, tr, h, _ => ⟨[], e, .refl e, rfl, h⟩
  | o :: l, i, e, tr, h, ho => by
    simp only [evOps, Env.force_eq] at h
    rw [Pg.runK_eq hK] at h
    obtain ⟨⟨us, s⟩, h1, h2⟩ := Option.bind_eq_some_iff.1 h
    have go : evOps tt sig K ops gl l (i + 1) (e.ups us) (⟨i, s, us⟩ :: tr) k = some r → ∃ T ef, Chain tt sig C ops e T ef ∧ T.map (·.i) = List.range' i (o :: l).length ∧ k ef (T.reverse ++ tr) = some r := fun h => by
      obtain ⟨T, ef, h3, h4, h5⟩ := evOps_chain hK h fun j o' hj => by rw [show i + 1 + j = i + (j + 1) by omega]; exact ho (j + 1) o' (by simpa using hj)
      refine ⟨⟨i, s, us⟩ :: T, ef, ⟨⟨o, ho 0 o rfl, h1⟩, h3⟩, by simp [h4, List.range'_succ], by simpa using h5⟩
    dsimp only at h2
    cases hg : gl.any (Nat.beq i) with
    | false => rw [hg] at h2; exact go h2
    | true =>
      rw [hg] at h2
      simp only [cond_true] at h2
      split at h2
      · rename_i d hd
        split at h2
        · rename_i c hc
          cases c with
          | true => rw [set_same hc (by simp)] at h2; exact go h2
          | false => rw [set_same hc (by simp)] at h2; exact go h2
        · exact go h2
      · exact go h2

theorem okTrace_pw : ∀ {tr : List Done}, okTrace ops tr = true → tr.Pairwise fun x y => Waits ops x.i y.i ∨ Apart x y
  | [], _ => .nil
  | x :: l, h => by
    simp only [okTrace, Bool.and_eq_true] at h
    refine .cons (fun y hy => ?_) (okTrace_pw h.2)
    have := List.all_eq_true.1 h.1 y hy
    rw [Bool.or_eq_true] at this
    rcases this with h1 | h1
    · exact .inl (reach_waits h1)
    · exact .inr (.of_chk h1)

def exOf : Ex → Exit
  | .normal => .normal
  | .ret => .ret
  | .exit i => .exit i

/-! ### How code runs: as it stands, or in a round of a range over a function -/

abbrev WP := Code → (Exit → Act → World → Prop) → Act → World → Prop
def Rnds (W : WP) (c : Code) (Q : Exit → Act → World → Prop) : Nat → Act → World → Prop
  | 0, _, _ => False
  | n + 1, a, w => W c (Exit.then (Rnds W c Q n) Q) a w
/-- What one asks of a way to run. -/
structure Rules (P : Program) (nd : Array Oper → Prop) (W : WP) : Prop where
  skip : ∀ {Q a w}, Q .normal a w → W .skip Q a w
  ret : ∀ {Q a w}, Q .ret a w → W .ret Q a w
  exit : ∀ {id Q a w}, Q (.exit id) a w → W (.exit id) Q a w
  seq : ∀ {x y Q a w}, W x (Exit.then (W y Q) Q) a w → W (.seq x y) Q a w
  cond : ∀ {c x y t Q a w}, Act.eval a c = .bool t → W (if t then x else y) Q a w → W (.cond c x y) Q a w
  block : ∀ {id c Q a w}, W c (Exit.inBlock id Q) a w → W (.block id c) Q a w
  region : ∀ {id ops Q a w}, nd ops → wpOps1 P ops Q (List.range ops.size) a w → W (.region id ops false) Q a w
  any : ∀ {id ops Q a w}, P.follows .mixedOrders = true → nd ops → wpAny1 P ops Q ops.size (Array.replicate ops.size false) a { w with drawn := w.drawn + 1 } → W (.region id ops true) Q a w
  loop : ∀ {c Q a w} (n : Nat), Rnds W c Q n a w → W (.loop c) Q a w
def WP.all (P : Program) : WP := fun c Q a w => c.wp P Q a w
theorem rules_all (P : Program) : Rules P (fun _ => True) (WP.all P) where
  skip h := wp_skip h
  ret h := wp_ret h
  exit h := wp_exit h
  seq h := wp_seq h
  cond h h1 := wp_cond h h1
  block h := wp_block h
  region _ h := wp_region h.opsAll
  any hm _ h := wp_region_any hm h.any
  loop {c Q a w} n h := by
    refine wp_loop_rounds n ?_
    have : ∀ (n : Nat) (a : Act) (w : World), Rnds (WP.all P) c Q n a w → Code.rounds P c Q n a w := by
      intro n
      induction n with
      | zero => exact fun _ _ h => h
      | succ n ih =>
        intro a w h
        rw [rounds_succ]
        refine wp_mono h fun e a w h => ?_
        cases e <;> first | exact ih _ _ h | exact h
    exact this n a w h

/-- No operation of it defers, where that matters. -/
def Good (nd : Array Oper → Prop) : Code → Prop
  | .seq a b => Good nd a ∧ Good nd b
  | .cond _ a b => Good nd a ∧ Good nd b
  | .block _ c => Good nd c
  | .loop c => Good nd c
  | .region _ ops _ => nd ops
  | _ => True
theorem Good.triv : ∀ (c : Code), Good (fun _ => True) c
  | .seq a b => ⟨Good.triv a, Good.triv b⟩
  | .cond _ a b => ⟨Good.triv a, Good.triv b⟩
  | .block _ c => Good.triv c
  | .loop c => Good.triv c
  | .region _ ops _ => trivial
  | .skip => trivial
  | .ret => trivial
  | .exit _ => trivial
  | .label _ => trivial
  | .goto _ => trivial
  | .scope _ => trivial
  | .rangeFunc _ _ _ _ => trivial
  | .refuse _ => trivial
/-- Is there a range over a function in it? -/
def hasR : Code → Bool
  | .seq a b => hasR a || hasR b
  | .cond _ a b => hasR a || hasR b
  | .block _ c => hasR c
  | .loop c => hasR c
  | .rangeFunc _ _ _ _ => true
  | _ => false
/-- At most one of them comes on each way, none in a loop. -/
def oneR : Code → Bool
  | .seq a b => oneR a && (oneR b && !(hasR a && hasR b))
  | .cond _ a b => oneR a && oneR b
  | .block _ c => oneR c
  | .loop c => !hasR c
  | _ => true
theorem oneR_of : ∀ {c : Code}, hasR c = false → oneR c = true
  | .seq a b, h => by
    simp only [hasR, Bool.or_eq_false_iff] at h
    simp [oneR, oneR_of h.1, oneR_of h.2, h.1]
  | .cond _ a b, h => by
    simp only [hasR, Bool.or_eq_false_iff] at h
    simp [oneR, oneR_of h.1, oneR_of h.2]
  | .block _ c, h => oneR_of (c := c) h
  | .loop c, h => by
    have : hasR c = false := h
    simp [oneR, this]
  | .region _ _ _, _ => rfl
  | .skip, _ => rfl
  | .ret, _ => rfl
  | .exit _, _ => rfl
  | .label _, _ => rfl
  | .goto _, _ => rfl
  | .scope _, _ => rfl
  | .rangeFunc _ _ _ _, _ => rfl
  | .refuse _, _ => rfl

theorem region_ok (hm : P.follows .mixedOrders = true) (hT : TTok P tt) (hC : OkC P C) {K : CK R} (hK : ∀ f p k, K f p k = (C f p).bind k) {id : Nat} {draw : Bool} {e : Env} {a : Act} {w : World} {G : Gh} (h : Rel Z e a w G) {k : Ex → Env → Option R} {r : R}
    (he : (evOps tt sig K ops (guardsOf ops) ops.toList 0 e [] fun e tr => bif draw then (bif okEdges ops && okTrace ops tr then k .normal e else none) else k .normal e) = some r)
    (hQ : ∀ e' a' w' G', k .normal e' = some r → Rel Z e' a' w' G' → Q .normal a' w') {nd : Array Oper → Prop} {W : WP} (hW : Rules P nd W) (hnd : nd ops) : W (Code.region id ops draw) Q a w := by
  obtain ⟨T, ef, h1, h2, h3⟩ := evOps_chain hK he fun j o ho => by rw [Nat.zero_add]; simpa using ho
  have hlen : ops.toList.length = ops.size := by simp
  rw [hlen] at h2
  have hQ' : k .normal ef = some r → ∀ e' a' w' G', EqE e' ef → Rel Z e' a' w' G' → Q .normal a' w' := fun hk e' a' w' G' hee hr => hQ ef a' w' G' hk (hr.congr hee)
  cases draw with
  | false =>
    refine hW.region hnd ?_
    rw [List.range_eq_range', ← h2]
    exact wpOps_ok hT hC (hQ' h3) h1 h
  | true =>
    simp only [cond_true] at h3
    cases hck : okEdges ops && okTrace ops (T.reverse ++ []) with
    | false => rw [hck] at h3; cases h3
    | true =>
      rw [hck] at h3
      simp only [Bool.and_eq_true, List.append_nil] at hck
      refine hW.any hm hnd ?_
      have hmemT : ∀ j, j ∈ T.map (·.i) ↔ j < ops.size := fun j => by rw [h2]; simp [List.mem_range'_1]
      refine wpAny_ok hT hC hck.1 (hQ' h3) ops.size (rem := T) ⟨by simp, fun j => ?_, fun j hj => ?_, ?_, ?_⟩ h1 h.drew ?_
      · rw [hmemT]
        by_cases hj : j < ops.size
        · simp [Array.getD, hj]
        · simp [Array.getD, hj]
      · by_cases hjs : j < ops.size
        · simp [Array.getD, hjs] at hj
        · simp [Array.getD, hjs] at hj
      · have : (T.map (·.i)).Pairwise (· < ·) := by rw [h2]; exact List.pairwise_lt_range'
        exact List.pairwise_map.1 this
      · have := okTrace_pw hck.2
        exact List.pairwise_reverse.1 this
      · have := congrArg List.length h2
        simp at this; omega

/-- One base comes after another: the mark of one range over a function lies between. -/
def After1 (Z Z' : Base) : Prop :=
  Z.df = [] ∧ ∃ D, Z'.df = [{ target := .collected D, args := #[] }] ∧ ∀ e a w G, Rel Z' e a w G → w.heap[D]? = some (.deferred (some [])) ∧
    ∃ Zf : Base, Zf.vs = Z.vs ∧ Rel Zf e a (w.putObj D (.deferred none)) G ∧ ∀ q vs w G, PkOk Zf q vs w G → PkOk Z q vs w G
def After (b : Bool) (Z Z' : Base) : Prop := Z' = Z ∨ (b = true ∧ After1 Z Z')
theorem After.refl (b : Bool) (Z : Base) : After b Z Z := .inl rfl
theorem After.mono {b b' : Bool} (h : b = true → b' = true) {Z Z' : Base} : After b Z Z' → After b' Z Z'
  | .inl e => .inl e
  | .inr ⟨h1, h2⟩ => .inr ⟨h h1, h2⟩

/-- A loop does what its oracle says. -/
def LoopOk (P : Program) (L : LK R) (c : Code) : Prop :=
  ∀ id, firstRegion c = some id → hasR c = false → ∀ (nd : Array Oper → Prop) (W : WP), Rules P nd W → Good nd c → ∀ (Z : Base) (e : Env) (a : Act) (w : World) (G : Gh) (k : Ex → Env → Option R) (r : R) (Q : Exit → Act → World → Prop), L id e k = some r → Rel Z e a w G →
    (∀ x e' a' w' G', k x e' = some r → Rel Z e' a' w' G' → Q (exOf x) a' w') → W (Code.loop c) Q a w
def RangeOk (P : Program) (L : LK R) (g : Operand) (ps : Array Tmp) (asg c : Code) : Prop :=
  ∀ id, firstRegion c = some id → ∀ (Z : Base) (e : Env) (a : Act) (w : World) (G : Gh) (k : Ex → Env → Option R) (r : R) (Q : Exit → Act → World → Prop), Z.df = [] → L id e k = some r → Rel Z e a w G →
    (∀ x Z' e' a' w' G', k x e' = some r → After1 Z Z' → Rel Z' e' a' w' G' → Q (exOf x) a' w') → (Code.rangeFunc g ps asg c).wp P Q a w
def LoopsOk (P : Program) (L : LK R) : Code → Prop
  | .seq a b => LoopsOk P L a ∧ LoopsOk P L b
  | .cond _ a b => LoopsOk P L a ∧ LoopsOk P L b
  | .block _ c => LoopsOk P L c
  | .loop c => LoopOk P L c
  | .rangeFunc g ps asg c => RangeOk P L g ps asg c
  | _ => True

theorem valOf_rel (h : Rel Z e a w G) {x : Operand} {c : Bool} (hv : valOf e x = .one (.bool c)) : a.eval x = .bool c := by
  cases x with
  | tmp t =>
    have := h.get t
    rw [show e.get t = _ from hv] at this
    exact this
  | const v =>
    have h1 : ofConst v = .one (.bool c) := hv
    cases v with
    | bool b => simp [ofConst] at h1; rw [h1]; rfl
    | slice ad n c' => cases ad <;> cases n <;> cases c' <;> simp [ofConst] at h1
    | _ => simp [ofConst] at h1
  | global g => simp [valOf] at hv
  | func f => simp [valOf] at hv

theorem ev_sound (hm : P.follows .mixedOrders = true) (hT : TTok P tt) (hC : OkC P C) {K : CK R} (hK : ∀ f p k, K f p k = (C f p).bind k) {L : LK R} {r : R} {nd : Array Oper → Prop} {W : WP} (hW : Rules P nd W) : ∀ {c : Code} {k : Ex → Env → Option R} {Z : Base} {e : Env} {a : Act} {w : World} {G : Gh} {Q : Exit → Act → World → Prop},
    Good nd c → LoopsOk P L c → oneR c = true → (hasR c = true → W = WP.all P ∧ Z.df = []) → ev tt sig K L c e k = some r → Rel Z e a w G → (∀ x Z' e' a' w' G', k x e' = some r → After (hasR c) Z Z' → Rel Z' e' a' w' G' → Q (exOf x) a' w') → W c Q a w
  | .skip, k, Z, e, a, w, G, Q, _, _, _, _, he, h, hQ => hW.skip (hQ .normal Z e a w G he (.refl _ Z) h)
  | .ret, k, Z, e, a, w, G, Q, _, _, _, _, he, h, hQ => hW.ret (hQ .ret Z e a w G he (.refl _ Z) h)
  | .exit id, k, Z, e, a, w, G, Q, _, _, _, _, he, h, hQ => hW.exit (hQ (.exit id) Z e a w G he (.refl _ Z) h)
  | .region id ops draw, k, Z, e, a, w, G, Q, hg, _, _, _, he, h, hQ => region_ok hm hT hC hK h he (fun e' a' w' G' hk hr => hQ .normal Z e' a' w' G' hk (.refl _ Z) hr) hW hg
  | .seq c d, k, Z, e, a, w, G, Q, hg, hl, ho, hd, he, h, hQ => by
    simp only [oneR, Bool.and_eq_true, Bool.not_eq_true', Bool.and_eq_false_iff] at ho
    have h1 : hasR c = true → hasR (.seq c d) = true := fun h => by simp [hasR, h]
    have h2 : hasR d = true → hasR (.seq c d) = true := fun h => by simp [hasR, h]
    refine hW.seq (ev_sound hm hT hC hK hW hg.1 hl.1 ho.1 (fun h => hd (h1 h)) he h fun x Z' e' a' w' G' hk hz hr => ?_)
    cases x with
    | normal =>
      refine ev_sound hm hT hC hK hW hg.2 hl.2 ho.2.1 (fun hh => ?_) hk hr fun x Z2 e2 a2 w2 G2 hk2 hz2 hr2 => hQ x Z2 e2 a2 w2 G2 hk2 ?_ hr2
      · rcases hz with e | ⟨h3, _⟩
        · rw [e]; exact hd (h2 hh)
        · rcases ho.2.2 with h4 | h4
          · rw [h3] at h4; cases h4
          · rw [hh] at h4; cases h4
      · rcases hz with e | ⟨h3, h5⟩
        · rw [e] at hz2; exact hz2.mono h2
        · rcases ho.2.2 with h4 | h4
          · rw [h3] at h4; cases h4
          · rcases hz2 with e | ⟨h6, _⟩
            · rw [e]; exact .inr ⟨h1 h3, h5⟩
            · rw [h6] at h4; cases h4
    | ret => exact hQ .ret Z' e' a' w' G' hk (hz.mono h1) hr
    | exit i => exact hQ (.exit i) Z' e' a' w' G' hk (hz.mono h1) hr
  | .cond x c d, k, Z, e, a, w, G, Q, hg, hl, ho, hd, he, h, hQ => by
    have h1 : hasR c = true → hasR (.cond x c d) = true := fun h => by simp [hasR, h]
    have h2 : hasR d = true → hasR (.cond x c d) = true := fun h => by simp [hasR, h]
    simp only [oneR, Bool.and_eq_true] at ho
    rw [ev] at he
    split at he
    case h_2 => cases he
    rename_i y hy
    refine hW.cond (valOf_rel h hy) ?_
    cases y with
    | true => exact ev_sound hm hT hC hK hW hg.1 hl.1 ho.1 (fun h => hd (h1 h)) he h fun x Z' e' a' w' G' hk hz => hQ x Z' e' a' w' G' hk (hz.mono h1)
    | false => exact ev_sound hm hT hC hK hW hg.2 hl.2 ho.2 (fun h => hd (h2 h)) he h fun x Z' e' a' w' G' hk hz => hQ x Z' e' a' w' G' hk (hz.mono h2)
  | .block id c, k, Z, e, a, w, G, Q, hg, hl, ho, hd, he, h, hQ => by
    refine hW.block (ev_sound hm hT hC hK hW hg hl ho hd he h fun x Z' e' a' w' G' hk hz hr => ?_)
    cases x with
    | normal => exact hQ .normal Z' e' a' w' G' hk hz hr
    | ret => exact hQ .ret Z' e' a' w' G' hk hz hr
    | exit j =>
      show Exit.inBlock id Q (.exit j) a' w'
      unfold Exit.inBlock
      dsimp only at hk ⊢
      cases hb : Nat.beq j id with
      | true =>
        rw [if_pos (Nat.eq_of_beq_eq_true hb)]
        rw [hb] at hk
        exact hQ .normal Z' e' a' w' G' hk hz hr
      | false =>
        rw [if_neg fun e0 => by rw [e0] at hb; simp at hb]
        rw [hb] at hk
        exact hQ (.exit j) Z' e' a' w' G' hk hz hr
  | .loop c, k, Z, e, a, w, G, Q, hg, hl, ho, hd, he, h, hQ => by
    rw [ev] at he
    split at he
    case h_2 => cases he
    rename_i i hi
    simp only [oneR, Bool.not_eq_true'] at ho
    exact hl i hi ho nd W hW hg Z e a w G k r Q he h fun x e' a' w' G' hk hr => hQ x Z e' a' w' G' hk (.refl _ Z) hr
  | .rangeFunc g ps asg c, k, Z, e, a, w, G, Q, hg, hl, ho, hd, he, h, hQ => by
    obtain ⟨h1, h2⟩ := hd rfl
    rw [h1]
    rw [ev] at he
    split at he
    case h_2 => cases he
    rename_i i hi
    exact hl i hi Z e a w G k r Q h2 he h fun x Z' e' a' w' G' hk hz hr => hQ x Z' e' a' w' G' hk (.inr ⟨rfl, hz⟩) hr
  | .label _, k, Z, e, a, w, G, Q, _, _, _, _, he, h, hQ => by simp [ev] at he
  | .goto _, k, Z, e, a, w, G, Q, _, _, _, _, he, h, hQ => by simp [ev] at he
  | .scope _, k, Z, e, a, w, G, Q, _, _, _, _, he, h, hQ => by simp [ev] at he
end
end Go.Am
set_option linter.unusedVariables false
set_option linter.unusedSimpArgs false
namespace Go.Am
open Go

/-! ### Whatever goes on after -/

section
variable {R S : Type} {g : S → Option R} {tt : TT} {sig : Sig}

abbrev NatKg (K : CK R) (K' : CK S) (g : S → Option R) : Prop := ∀ f p (k' : Pk → Option S), K f p (fun q => (k' q).bind g) = (K' f p k').bind g
abbrev NatLg (L : LK R) (L' : LK S) (g : S → Option R) : Prop := ∀ i e (k' : Ex → Env → Option S), L i e (fun x e => (k' x e).bind g) = (L' i e k').bind g

theorem Pg.runK_nat {α : Type} {K : CK R} {K' : CK S} (hK : NatKg K K' g) {e : Env} : ∀ (p : Pg α) (s : Seen) (k' : α → Seen → Option S), p.runK K e s (fun a s => (k' a s).bind g) = (p.runK K' e s k').bind g
  | .ret _, _, _ => rfl
  | .fail, _, _ => rfl
  | .tmp t f, s, k' => Pg.runK_nat hK (f (e.get t)) _ k'
  | .root r f, s, k' => Pg.runK_nat hK (f (look e.rt r)) _ k'
  | .chk b p, s, k' => by cases b <;> simp [Pg.runK, Pg.runK_nat hK p]
  | .sel b p q, s, k' => by cases b <;> simp [Pg.runK, Pg.runK_nat hK p, Pg.runK_nat hK q]
  | .call f p h, s, k' => by
    simp only [Pg.runK]
    rw [← hK]
    congr 1
    funext q
    exact Pg.runK_nat hK (h q) s k'

theorem evOps_nat {K : CK R} {K' : CK S} (hK : NatKg K K' g) {ops : Array Oper} {gl : List Nat} : ∀ (l : List Oper) (i : Nat) (e : Env) (tr : List Done) (k' : Env → List Done → Option S),
    evOps tt sig K ops gl l i e tr (fun e tr => (k' e tr).bind g) = (evOps tt sig K' ops gl l i e tr k').bind g
  | [], i, e, tr, k' => rfl
  | o :: l, i, e, tr, k' => by
    simp only [evOps, Env.force_eq]
    rw [← Pg.runK_nat hK]
    congr 1
    funext us s
    cases hg : gl.any (Nat.beq i) with
    | false => exact evOps_nat hK l _ _ _ k'
    | true =>
      simp only [cond_true]
      split
      · split
        · rename_i c _
          cases c <;> exact evOps_nat hK l _ _ _ k'
        · exact evOps_nat hK l _ _ _ k'
      · exact evOps_nat hK l _ _ _ k'

theorem ev_nat {K : CK R} {K' : CK S} (hK : NatKg K K' g) {L : LK R} {L' : LK S} (hL : NatLg L L' g) : ∀ (c : Code) (e : Env) (k' : Ex → Env → Option S), ev tt sig K L c e (fun x e => (k' x e).bind g) = (ev tt sig K' L' c e k').bind g
  | .skip, e, k' => rfl
  | .ret, e, k' => rfl
  | .exit _, e, k' => rfl
  | .region id ops draw, e, k' => by
    simp only [ev]
    rw [← evOps_nat hK]
    congr 1
    funext e tr
    cases draw with
    | false => rfl
    | true => cases h : okEdges ops && okTrace ops tr <;> simp [h]
  | .seq a b, e, k' => by
    simp only [ev]
    rw [← ev_nat hK hL a]
    congr 1
    funext x e
    cases x with
    | normal => exact ev_nat hK hL b e k'
    | ret => rfl
    | exit i => rfl
  | .cond c a b, e, k' => by
    simp only [ev]
    split
    · rename_i x _
      cases x
      · exact ev_nat hK hL b e k'
      · exact ev_nat hK hL a e k'
    · rfl
  | .block id c, e, k' => by
    simp only [ev]
    rw [← ev_nat hK hL c]
    congr 1
    funext x e
    cases x with
    | normal => rfl
    | ret => rfl
    | exit i => cases h : Nat.beq i id <;> simp [h]
  | .loop c, e, k' => by
    simp only [ev]
    split
    · exact hL _ _ k'
    · rfl
  | .label _, e, k' => rfl
  | .goto _, e, k' => rfl
  | .scope _, e, k' => rfl
  | .refuse _, e, k' => rfl
  | .rangeFunc _ _ _ c, e, k' => by
    simp only [ev]
    split
    · exact hL _ _ k'
    · rfl

theorem evF_nat {K : CK R} {K' : CK S} (hK : NatKg K K' g) {L : LK R} {L' : LK S} (hL : NatLg L L' g) (f : Func) (shs : List Sh) (p : Pk) (k' : Pk → Option S) :
    evF tt sig K L f shs p (fun q => (k' q).bind g) = (evF tt sig K' L' f shs p k').bind g := by
  unfold evF
  split
  · rw [← ev_nat hK hL]
    congr 1
    funext x e
    cases x with
    | normal => exact Pg.runK_nat hK _ _ fun q _ => k' q
    | ret => exact Pg.runK_nat hK _ _ fun q _ => k' q
    | exit i => rfl
  · rfl
end

/-- For all that may go on after. -/
abbrev CKs := (R : Type) → CK R
abbrev LKs := (R : Type) → LK R
def NatK (K : CKs) : Prop := ∀ (R S : Type) (g : S → Option R), NatKg (K R) (K S) g
def NatL (L : LKs) : Prop := ∀ (R S : Type) (g : S → Option R), NatLg (L R) (L S) g
/-- A callee's packet. -/
def CKs.ans (K : CKs) : Nat → Pk → Option Pk := fun f p => K Pk f p some
theorem NatK.eq {K : CKs} (h : NatK K) (R : Type) : ∀ f p k, K R f p k = (K.ans f p).bind k := fun f p k => h R Pk k f p some
def OkK (P : Program) (K : CKs) : Prop := OkC P K.ans

section
variable {P : Program} {tt : TT} {sig : Sig} {C : Nat → Pk → Option Pk} {Z : Base} {e : Env} {a : Act} {w w' : World} {G : Gh} {s s' : Seen} {us : List Up} {b : Nat} {ops : Array Oper} {Q : Exit → Act → World → Prop}
variable {α : Type} {xx : α × Seen}

theorem Cn.done {e1 : Env} {st : St} {H : Gh} (h : Cn Z e a w G b e1 st H) {l : List AV} {vs : List Value} (hl : All2 (AVRel (AtomRel w (Stab Z e1.rt G w) (outRt st) H)) l vs) : PkOk Z ⟨l, st.out⟩ vs w H := by
  have hown : ∀ {c : Nat}, Owns (outRt st) H c → Owns e1.rt G c := fun ho => by
    obtain ⟨r, x0, _, _, h1, h2, h3⟩ := h.owns ho
    exact ⟨r, x0, h1, h2, h3⟩
  have hs : ∀ c, Stab Z e1.rt G w c → Stab Z (outRt st) H w c := fun c hc => ⟨hc.1, fun ho => hc.2 (hown ho)⟩
  have h0 := h.pk hl
  exact ⟨hl.mono fun _ _ => AVRel.mono fun _ _ h1 => AtomRel.step (fun c hc => ⟨hs c hc, rfl⟩) (Turns.refl _ _) h1,
    fun m x hm => RootOk.grow hs (Turns.refl _ _) rfl (h.roots m x hm), h0.mem.sep, fun c ho => h.rel.mem.base c (hown ho), h.rel.mem.evo⟩

def resM (tmps : Array Value) : ResultVar → Sem Value
  | .tmp t => pure (tmps.getD t undef)
  | .cell a t => do loadVar t (← asAddr (tmps.getD a undef))
theorem results_eq (fn : Func) (tmps : Array Value) : results fn tmps = (do
  let vs ← fn.results.mapM (resM tmps)
  pure (if h : vs.size = 1 then vs[0] else .tuple vs)) := by
  unfold results
  congr 2
theorem run_resV (h : Rel Z e a w G) (hT : TTok P tt) : ∀ {l : List ResultVar} {s : Seen} {k : List AV → Pg α}, (resV tt l k).run C e s = some xx →
    ∃ vs us s', All2 (VRel Z e G w) vs us ∧ (l.mapM (resM a.tmps)).run P w = .ok us w ∧ (k vs).run C e s' = some xx
  | [], s, k, hp => ⟨[], [], s, trivial, by simp, hp⟩
  | .tmp t :: l, s, k, hp => by
    obtain ⟨vs, us, s', h1, h2, h3⟩ := run_resV h hT (l := l) hp
    refine ⟨_ :: vs, a.tmps.getD t undef :: us, s', ⟨h.get t, h1⟩, ?_, h3⟩
    have h7 : (resM a.tmps (.tmp t)).run P w = .ok (a.tmps.getD t undef) w := rfl
    simp only [List.mapM_cons, Sem.run_bind, Sem.run_pure, h7, Result.andThen_ok, h2]
  | .cell x t :: l, s, k, hp => by
    unfold resV at hp
    split at hp
    case h_2 => exact run_fail hp
    rename_i ti hti
    simp only [Pg.run] at hp
    have hv := h.get x
    obtain ⟨v', u', s1, h4, h5, hp'⟩ := run_loadAt h (hT _ _ hti) hv hp
    obtain ⟨vs, us, s', h1, h2, h3⟩ := run_resV h hT (l := l) hp'
    refine ⟨v' :: vs, u' :: us, s', ⟨h5, h1⟩, ?_, h3⟩
    have hptr : IsPtr (a.tmps.getD x undef) := by
      unfold loadAt at hp
      split at hp
      · rename_i hx; rw [hx] at hv; exact BoxRel.ptr hv
      · rename_i hx; rw [hx] at hv
        rename_i r i c
        have hv' : RowRel e.rt r (IsPtr (a.tmps.getD x undef)) _ := hv
        exact RowRel.one hv'
      · rename_i hx; rw [hx] at hv; obtain ⟨b, o, _, _, _, _, h6, _⟩ := hv; exact ⟨_, _, h6⟩
      · exact run_fail hp
    obtain ⟨b, o, h6⟩ := hptr
    have h7 : (resM a.tmps (.cell x t)).run P w = .ok u' w := by
      show (do loadVar t (← asAddr (a.tmps.getD x undef)) : Sem Value).run P w = .ok u' w
      rw [h6] at h4 ⊢
      simpa [Instr.loadAt, Instr.sureAddr, asAddr] using h4
    simp only [List.mapM_cons, Sem.run_bind, Sem.run_pure, h7, Result.andThen_ok, h2]

theorem comp_of {v : AV} {u : Value} {A : Atom → Value → Prop} (hn : notTup v = true) (h : AVRel A v u) : CompRel A (compOf v) u := by
  cases v with
  | one x => exact h
  | agg l => exact h
  | tup l => simp [notTup] at hn
theorem run_leave (h : Rel Z e a w G) (hT : TTok P tt) {f : Func} {shs : List Sh} {q : Pk} (hp : (leave tt f e.ag shs).run C e s = some (q, s')) :
    ∃ v, (results f a.tmps).run P w = .ok v w ∧ ∃ H, PkOk Z q (v :: Z.vs) w H := by
  obtain ⟨vs, us, s1, h1, h2, hp⟩ := run_resV h hT hp
  obtain ⟨hn, hp⟩ := run_bif_fail hp
  have hres : (results f a.tmps).run P w = .ok (if h : us.toArray.size = 1 then us.toArray[0] else .tuple us.toArray) w := by
    rw [results_eq]
    have : (f.results.mapM (resM a.tmps)).run P w = .ok us.toArray w := by
      obtain ⟨l, hl⟩ : ∃ l : List ResultVar, f.results = l.toArray := ⟨f.results.toList, by simp⟩
      rw [hl] at h2 ⊢
      rw [List.mapM_toArray, Sem.run_map]
      rw [show l.toArray.toList = l from rfl] at h2
      rw [h2]
      rfl
    simp only [Sem.run_bind, Sem.run_pure]
    rw [this]
    rfl
  have hval : AVRel (AtomRel w (Stab Z e.rt G w) e.rt G) (tupV vs) (if h : us.toArray.size = 1 then us.toArray[0] else .tuple us.toArray) := by
    have gen : vs.length ≠ 1 → AVRel (AtomRel w (Stab Z e.rt G w) e.rt G) (.tup (vs.map compOf)) (if h : us.toArray.size = 1 then us.toArray[0] else .tuple us.toArray) := fun hne => by
      rw [dif_neg (by rw [List.size_toArray, ← h1.length]; exact hne)]
      exact ⟨us.toArray, rfl, h1.map_left fun x hx y hr => comp_of (List.all_eq_true.1 hn x hx) hr⟩
    cases vs with
    | nil => exact gen (by simp)
    | cons v l =>
      cases l with
      | nil => cases us with
        | nil => exact h1.elim
        | cons u us => cases us with
          | nil => exact h1.1
          | cons u' us => exact h1.2.elim
      | cons v' l => exact gen (by simp)
  refine ⟨_, hres, ?_⟩
  obtain ⟨avs, st, s3, e1, H, hp, hc, hle, hargs⟩ := canonVs_ok (Cn.start h (H := G)) (l := tupV vs :: e.ag) (vs := _ :: Z.vs) ⟨hval, h.ag⟩ hp
  have := run_ret hp
  simp only at this
  subst this
  exact ⟨H, hc.done hargs⟩

theorem fn_sound (hm : P.follows .mixedOrders = true) (hT : TTok P tt) {K : CKs} (hKn : NatK K) (hK : OkK P K) {L : LKs} {f : FuncId} {fn : Func} {c : Code} (hf : P.funcs[f]? = some fn) (hb : fn.body = some c) (hn : (fn.name == "runtime.NumGoroutine") = false)
    (hL : LoopsOk P (L Pk) c) (h1 : oneR c = true) {shs : List Sh} {p q : Pk} (he : evF tt sig (K Pk) (L Pk) fn shs p some = some q) {Z : Base} {vs : Array Value} {H : Gh} (hv : Z.vs = vs.toList) (hp : PkOk Z p vs.toList Z.w H) :
    Does P f vs Z.w fun v w' => ∃ H', PkOk Z q (v :: vs.toList) w' H' := by
  refine Does.of_calls hf hb hn (callsIn_wide.1 (callsIn_of_wp_marks (n := 0) hf hb trivial (wpIn_wide.2 ?_) rfl))
  unfold evF at he
  rw [hb] at he
  have hlen : p.args.length = vs.size := by rw [hp.args.length]; simp
  obtain ⟨Z0, hZ0⟩ : ∃ Z0 : Base, Z0 = { Z with df := [] } := ⟨_, rfl⟩
  have h : Rel Z0 (entry fn.ntmps p) { tmps := vs ++ Array.replicate (fn.ntmps - vs.size) undef, defers := [] } Z.w H := by
    subst hZ0
    exact ⟨rfl, by
      show All2 _ (p.args ++ List.replicate (fn.ntmps - p.args.length) (.one .dead)) (vs ++ Array.replicate (fn.ntmps - vs.size) undef).toList
      rw [Array.toList_append, Array.toList_replicate, hlen]
      exact hp.args.append (All2.replicate (R := AVRel (AtomRel Z.w (Stab Z (ptab p.rt) H Z.w) (ptab p.rt) H)) (a := .one .dead) (b := undef) trivial _), ⟨hp.mem.roots, hp.mem.sep, hp.mem.base, hp.mem.evo⟩, by show All2 _ p.args Z.vs; rw [hv]; exact hp.args⟩
  have hback : ∀ q vs w G, PkOk Z0 q vs w G → PkOk Z q vs w G := fun q vs w G h => by
    subst hZ0
    exact ⟨h.args, ⟨h.mem.roots, h.mem.sep, h.mem.base, h.mem.evo⟩⟩
  have hvs0 : Z0.vs = Z.vs := by rw [hZ0]
  have hdf0 : Z0.df = [] := by rw [hZ0]
  refine ev_sound hm hT hK (hKn.eq Pk) (rules_all P) (Good.triv c) hL h1 (fun _ => ⟨rfl, hdf0⟩) he h fun x Z' e' a' w' G' hk hz hr => ?_
  have fin : ((leave tt fn e'.ag shs).runK (K Pk) e' ⟨[], []⟩ fun q _ => some q) = some q → bodyPostM Fence.wide 0 P fn (fun e w' => ∃ v, e = .returned v ∧ ∃ H', PkOk Z q (v :: vs.toList) w' H') .ret a' w' := fun hk => by
    rw [Pg.runK_eq (hKn.eq Pk)] at hk
    obtain ⟨⟨q', s'⟩, h1, h2⟩ := Option.bind_eq_some_iff.1 hk
    cases h2
    rcases hz with e | ⟨_, _, D, h5, h6⟩
    · subst e
      obtain ⟨v, h3, H', h4⟩ := run_leave hr hT h1
      have hd : a'.defers = [] := by rw [hr.df, hdf0]
      show LeavesInM Fence.wide 0 P fn a'.tmps _ a'.defers .returning w'
      rw [hd]
      exact ⟨v, h3, v, rfl, H', by rw [← hv, ← hvs0]; exact hback _ _ _ _ h4⟩
    · obtain ⟨h7, Zf, hvs1, h8, hb1⟩ := h6 _ _ _ _ hr
      obtain ⟨v, h3, H', h4⟩ := run_leave h8 hT h1
      show LeavesInM Fence.wide 0 P fn a'.tmps _ a'.defers .returning w'
      rw [hr.df, h5]
      exact ⟨by simp, .inl ⟨_, _, rfl, run_takeDeferred h7, v, h3, v, rfl, H', by rw [← hv, ← hvs0, ← hvs1]; exact hback _ _ _ _ (hb1 _ _ _ _ h4)⟩⟩
  cases x with
  | normal => exact fin hk
  | ret => exact fin hk
  | exit i => cases hk

/-! ### Loops -/

/-- A loop's head, and where it ends. -/
structure LoopD where
  n : Nat
  ss : List Nat
  shs : List Sh
  outs : Ex → Option (List Nat × List Sh)
abbrev LPs := (R : Type) → Pk → (Ex → Pk → Option R) → Option R

def LoopD.enter (D : LoopD) {R : Type} (K : CK R) (e : Env) (k : Pk → Option R) : Option R :=
  bif Nat.beq e.tm.length D.n then (headOf e.ag D.ss D.shs).runK K e ⟨[], []⟩ fun q _ => k q else none
def LoopD.quit (D : LoopD) {R : Type} (K : CK R) (x : Ex) (e : Env) (kk : Ex → Pk → Option R) : Option R :=
  match D.outs x with
  | some (so, sho) => bif Nat.beq e.tm.length D.n then (headOf e.ag so sho).runK K e ⟨[], []⟩ fun q _ => kk x q else none
  | none => none
def LoopD.back (D : LoopD) {R : Type} (k : Ex → Env → Option R) (x : Ex) (q : Pk) : Option R :=
  match D.outs x with
  | some (so, _) => k x (mkEnv D.n so q)
  | none => none
/-- One round, and what comes after. -/
def LoopD.step (D : LoopD) (tt : TT) (sig : Sig) {R : Type} (K : CK R) (L : LK R) (c : Code) (again : Pk → Option R) (q : Pk) (kk : Ex → Pk → Option R) : Option R :=
  ev tt sig K L c (mkEnv D.n D.ss q) fun x e => match x with
    | .normal => D.enter K e again
    | x => D.quit K x e kk
def LoopD.oracle (D : LoopD) {R : Type} (K : CK R) (lp : Pk → (Ex → Pk → Option R) → Option R) (e : Env) (k : Ex → Env → Option R) : Option R :=
  D.enter K e fun q => lp q (D.back k)

theorem run_gets (h : Rel Z e a w G) : ∀ {l : List Nat} {s : Seen} {k : List AV → Pg α}, (gets l k).run C e s = some xx → ∃ vs s', All2 (VRel Z e G w) vs (l.map fun t => a.tmps.getD t undef) ∧ vs.length = l.length ∧ (k vs).run C e s' = some xx
  | [], s, k, hp => ⟨[], s, trivial, rfl, hp⟩
  | t :: l, s, k, hp => by
    obtain ⟨vs, s', h1, h2, h3⟩ := run_gets h (l := l) hp
    exact ⟨e.get t :: vs, s', ⟨h.get t, h1⟩, by simp [h2], h3⟩

theorem All2.getElem {α β : Type} {R : α → β → Prop} {l : List α} {m : List β} (h : l.length = m.length) (hr : ∀ (i : Nat) (x : α) (y : β), l[i]? = some x → m[i]? = some y → R x y) : All2 R l m := by
  induction l generalizing m with
  | nil => cases m with
    | nil => trivial
    | cons => simp at h
  | cons x l ih => cases m with
    | nil => simp at h
    | cons y m => exact ⟨hr 0 x y rfl rfl, ih (by simpa using h) fun i u v hu hv => hr (i + 1) u v (by simpa using hu) (by simpa using hv)⟩

theorem mkTm_rel {A : AV → Value → Prop} (hd : ∀ v, A (.one .dead) v) {n : Nat} {tmps : Array Value} (hn : tmps.size = n) : ∀ {ss : List Nat} {l : List AV}, All2 A (l.take ss.length) (ss.map fun t => tmps.getD t undef) → All2 A (mkTm n ss l) tmps.toList := by
  intro ss l hl
  refine All2.getElem (by simp [mkTm, hn]) fun i x y hx hy => ?_
  unfold mkTm at hx
  rw [List.getElem?_map] at hx
  obtain ⟨j, hj, hx⟩ := Option.map_eq_some_iff.1 hx
  rw [List.getElem?_range (by have := (List.getElem?_eq_some_iff.1 hj).1; simp at this; exact this)] at hj
  have hij : i = j := Option.some.inj hj
  subst hij
  have hy' : tmps.getD i undef = y := by
    have : tmps[i]? = some y := by simpa using hy
    simp [Array.getD_eq_getD_getElem?, this]
  split at hx
  · rename_i z hz
    subst hx
    have h1 := List.find?_some hz
    have h2 := List.mem_of_find?_eq_some hz
    obtain ⟨k, hk⟩ := List.getElem?_of_mem h2
    rw [List.getElem?_zip_eq_some] at hk
    have hlt : k < ss.length := (List.getElem?_eq_some_iff.1 hk.1).1
    obtain ⟨u, hu, hr⟩ := hl.get (i := k) (a := z.2) (by rw [List.getElem?_take, if_pos hlt]; exact hk.2)
    rw [List.getElem?_map, hk.1] at hu
    simp only [Option.map_some, Option.some.injEq] at hu
    rw [← hy', ← Nat.eq_of_beq_eq_true h1, hu]
    exact hr
  · subst hx; exact hd _

theorem head_ok (h : Rel Z e a w G) {n : Nat} (hn : a.tmps.size = n) {ss : List Nat} {shs : List Sh} {q : Pk} (hp : (headOf e.ag ss shs).run C e s = some (q, s')) : ∃ H, Rel Z (mkEnv n ss q) a w H := by
  obtain ⟨vs, s1, h1, h2, hp⟩ := run_gets h hp
  obtain ⟨avs, st, s3, e1, H, hp, hc, hle, hargs⟩ := canonVs_ok (Cn.start h (H := G)) (h1.append h.ag) hp
  have := run_ret hp
  simp only at this
  subst this
  have hk := hc.done hargs
  have hlen : avs.length = (ss.map fun t => a.tmps.getD t undef).length + Z.vs.length := by rw [hargs.length, List.length_append]
  refine ⟨H, h.df, mkTm_rel (fun _ => trivial) hn ?_, hk.mem, ?_⟩
  · have h9 := hk.args.take ss.length
    have h8 : (ss.map (fun t => a.tmps.getD t undef) ++ Z.vs).take ss.length = ss.map fun t => a.tmps.getD t undef := by
      rw [List.take_append_of_le_length (by simp), List.take_of_length_le (by simp)]
    rw [h8] at h9
    exact h9
  · have h9 := hk.args.drop ss.length
    have h8 : (ss.map (fun t => a.tmps.getD t undef) ++ Z.vs).drop ss.length = Z.vs := by
      rw [List.drop_append_of_le_length (by simp), List.drop_of_length_le (by simp), List.nil_append]
    rw [h8] at h9
    exact h9
end
end Go.Am
set_option linter.unusedVariables false
set_option linter.unusedSimpArgs false
namespace Go.Am
open Go

/-! ### Packets of one form -/

inductive As where
  | int (k : IntKind)
  | bool
  | str
  | ro (e : Kd)
  | whole (r : Rid)
  | box (r : Rid) (c : Nat)
  | fn (f : Nat) (cs : List (Rid × Nat))
  | mp (r : Rid)
  | relt (e : Kd)
  | dead
inductive Vs where
  | one (a : As)
  | agg (l : List As)
  | tup (l : List (Bool × List As))
inductive Rs where
  | box (l : List As)
  | arr (e : Kd)
  | map
  | set
  | dee (e : Kd)
  | rr (e : Kd)
  | rrh (e : Kd) (q : Rid)
  | si
structure PkS where
  args : List Vs
  rt : List (Rid × Rs)

@[reducible] def As.cons : As → Type → Type
  | .int _, T => Int × T
  | .bool, T => Bool × T
  | .str, T => ByteArray × T
  | .ro e, T => List e.den × T
  | .relt e, T => e.den × T
  | _, T => T
@[reducible] def consL : List As → Type → Type
  | [], T => T
  | a :: l, T => a.cons (consL l T)
@[reducible] def consT : List (Bool × List As) → Type → Type
  | [], T => T
  | x :: l, T => consL x.2 (consT l T)
@[reducible] def Vs.cons : Vs → Type → Type
  | .one a, T => a.cons T
  | .agg l, T => consL l T
  | .tup l, T => consT l T
@[reducible] def consV : List Vs → Type → Type
  | [], T => T
  | a :: l, T => a.cons (consV l T)
@[reducible] def Rs.cons : Rs → Type → Type
  | .box l, T => consL l T
  | .arr e, T => List e.den × T
  | .map, T => List (Int × Int) × T
  | .set, T => List (List Int) × T
  | .dee e, T => List e.den × T
  | .rr e, T => List (List e.den) × T
  | .rrh e _, T => List (List e.den) × Nat × T
  | .si, T => List Int × T
@[reducible] def consR : List (Rid × Rs) → Type → Type
  | [], T => T
  | a :: l, T => a.2.cons (consR l T)
@[reducible] def PkS.den (S : PkS) : Type := consV S.args (consR S.rt Unit)

def As.take {T : Type} : (s : As) → s.cons T → Atom × T
  | .int k, d => (.int k d.1, d.2)
  | .bool, d => (.bool d.1, d.2)
  | .str, d => (.str d.1, d.2)
  | .ro e, d => (.ro e d.1 false, d.2)
  | .whole r, d => (.whole r, d)
  | .box r c, d => (.box r c, d)
  | .fn f cs, d => (.fn f cs, d)
  | .mp r, d => (.mp r, d)
  | .relt e, d => (.relt e d.1 0, d.2)
  | .dead, d => (.dead, d)
def takeL {T : Type} : (l : List As) → consL l T → List Atom × T
  | [], d => ([], d)
  | a :: l, d => let x := a.take d; let y := takeL l x.2; (x.1 :: y.1, y.2)
def takeT {T : Type} : (l : List (Bool × List As)) → consT l T → List (Bool × List Atom) × T
  | [], d => ([], d)
  | (b, l) :: r, d => let x := takeL l d; let y := takeT r x.2; ((b, x.1) :: y.1, y.2)
def Vs.take {T : Type} : (s : Vs) → s.cons T → AV × T
  | .one a, d => let x := a.take d; (.one x.1, x.2)
  | .agg l, d => let x := takeL l d; (.agg x.1, x.2)
  | .tup l, d => let x := takeT l d; (.tup x.1, x.2)
def takeV {T : Type} : (l : List Vs) → consV l T → List AV × T
  | [], d => ([], d)
  | a :: l, d => let x := a.take d; let y := takeV l x.2; (x.1 :: y.1, y.2)
def Rs.take {T : Type} : (s : Rs) → s.cons T → Root × T
  | .box l, d => let x := takeL l d; (.box x.1, x.2)
  | .arr e, d => (.arr e d.1, d.2)
  | .map, d => (.map (.kv d.1), d.2)
  | .set, d => (.map (.ks d.1), d.2)
  | .dee e, d => (.map (.dee e d.1), d.2)
  | .rr e, d => (.map (.rr e d.1 none), d.2)
  | .rrh e q, d => (.map (.rr e d.1 (some (d.2.1, q))), d.2.2)
  | .si, d => (.map (.si d.1), d.2)
def takeR {T : Type} : (l : List (Rid × Rs)) → consR l T → List (Rid × Root) × T
  | [], d => ([], d)
  | (r, a) :: l, d => let x := a.take d; let y := takeR l x.2; ((r, x.1) :: y.1, y.2)
def PkS.pack (S : PkS) (d : S.den) : Pk := let x := takeV S.args d; ⟨x.1, (takeR S.rt x.2).1⟩

def capsBeq : List (Rid × Nat) → List (Rid × Nat) → Bool
  | [], [] => true
  | (r, c) :: l, (r', c') :: m => Rid.beq r r' && (Nat.beq c c' && capsBeq l m)
  | _, _ => false
theorem capsBeq_eq : ∀ {l m : List (Rid × Nat)}, capsBeq l m = true → l = m
  | [], [], _ => rfl
  | (r, c) :: l, (r', c') :: m, h => by
    simp only [capsBeq, Bool.and_eq_true] at h
    rw [Rid.eq_of_beq h.1, Nat.eq_of_beq_eq_true h.2.1, capsBeq_eq h.2.2]
  | [], _ :: _, h => by simp [capsBeq] at h
  | _ :: _, [], h => by simp [capsBeq] at h

def As.un {T : Type} : (s : As) → Atom → Option T → Option (s.cons T)
  | .int k, .int k' n, t => bif decide (k = k') then t.map fun t => (n, t) else none
  | .bool, .bool b, t => t.map fun t => (b, t)
  | .str, .str b, t => t.map fun t => (b, t)
  | .ro e, .ro e' xs false, t => match castD (fun k => List k.den) e' e xs with
    | some l => t.map fun t => (l, t)
    | none => none
  | .whole r, .whole r', t => bif Rid.beq r r' then t else none
  | .box r c, .box r' c', t => bif Rid.beq r r' && Nat.beq c c' then t else none
  | .fn f cs, .fn f' cs', t => bif Nat.beq f f' && capsBeq cs cs' then t else none
  | .mp r, .mp r', t => bif Rid.beq r r' then t else none
  | .relt e, .relt e' x 0, t => match castD Kd.den e' e x with
    | some y => t.map fun t => (y, t)
    | none => none
  | .dead, .dead, t => t
  | _, _, _ => none
def unL {T : Type} : (l : List As) → List Atom → Option T → Option (consL l T)
  | [], [], t => t
  | a :: l, x :: m, t => a.un x (unL l m t)
  | _, _, _ => none
def unT {T : Type} : (l : List (Bool × List As)) → List (Bool × List Atom) → Option T → Option (consT l T)
  | [], [], t => t
  | (b, l) :: r, (b', m) :: q, t => bif b == b' then unL l m (unT r q t) else none
  | _, _, _ => none
def Vs.un {T : Type} : (s : Vs) → AV → Option T → Option (s.cons T)
  | .one a, .one x, t => a.un x t
  | .agg l, .agg m, t => unL l m t
  | .tup l, .tup m, t => unT l m t
  | _, _, _ => none
def unV {T : Type} : (l : List Vs) → List AV → Option T → Option (consV l T)
  | [], [], t => t
  | a :: l, x :: m, t => a.un x (unV l m t)
  | _, _, _ => none
def Rs.un {T : Type} : (s : Rs) → Root → Option T → Option (s.cons T)
  | .box l, .box m, t => unL l m t
  | .arr e, .arr e' xs, t => match castD (fun k => List k.den) e' e xs with
    | some l => t.map fun t => (l, t)
    | none => none
  | .map, .map (.kv m), t => t.map fun t => (m, t)
  | .set, .map (.ks m), t => t.map fun t => (m, t)
  | .dee e, .map (.dee e' xs), t => match castD (fun k => List k.den) e' e xs with
    | some l => t.map fun t => (l, t)
    | none => none
  | .rr e, .map (.rr e' xs none), t => match castD (fun k => List (List k.den)) e' e xs with
    | some l => t.map fun t => (l, t)
    | none => none
  | .si, .map (.si m), t => t.map fun t => (m, t)
  | .rrh e q, .map (.rr e' xs (some (i, q'))), t => bif Rid.beq q q' then (match castD (fun k => List (List k.den)) e' e xs with
    | some l => t.map fun t => (l, i, t)
    | none => none) else none
  | _, _, _ => none
def unR {T : Type} : (l : List (Rid × Rs)) → List (Rid × Root) → Option T → Option (consR l T)
  | [], [], t => t
  | (r, a) :: l, (r', x) :: m, t => bif Rid.beq r r' then a.un x (unR l m t) else none
  | _, _, _ => none
def PkS.un (S : PkS) (p : Pk) : Option S.den := unV S.args p.args (unR S.rt p.rt (some ()))

section
variable {T : Type}
theorem As.un_take {s : As} {x : Atom} {t : Option T} {d : s.cons T} (h : s.un x t = some d) : ∃ t', t = some t' ∧ s.take d = (x, t') := by
  cases s with
  | int k => cases x with
    | int k' n =>
      have h' : (bif decide (k = k') then t.map fun t => (n, t) else none) = some d := h
      cases hk : decide (k = k') with
      | false => rw [hk] at h'; cases h'
      | true =>
        rw [hk] at h'
        have := of_decide_eq_true hk
        subst this
        cases t with
        | none => cases h'
        | some t => simp only [cond_true, Option.map_some, Option.some.injEq] at h'; subst h'; exact ⟨t, rfl, rfl⟩
    | _ => simp [As.un] at h
  | bool => cases x with
    | bool b => cases t with
      | none => cases h
      | some t => simp only [As.un, Option.map_some, Option.some.injEq] at h; subst h; exact ⟨t, rfl, rfl⟩
    | _ => simp [As.un] at h
  | str => cases x with
    | str b => cases t with
      | none => cases h
      | some t => simp only [As.un, Option.map_some, Option.some.injEq] at h; subst h; exact ⟨t, rfl, rfl⟩
    | _ => simp [As.un] at h
  | ro e => cases x with
    | ro e' xs tight =>
      cases tight with
      | true => simp [As.un] at h
      | false =>
        simp only [As.un] at h
        split at h
        · rename_i l hl
          obtain ⟨rfl, rfl⟩ := castL_eq hl
          cases t with
          | none => cases h
          | some t => simp only [Option.map_some, Option.some.injEq] at h; subst h; exact ⟨t, rfl, rfl⟩
        · cases h
    | _ => simp [As.un] at h
  | whole r => cases x with
    | whole r' =>
      have h' : (bif Rid.beq r r' then t else none) = some d := h
      cases hb : Rid.beq r r' with
      | false => rw [hb] at h'; cases h'
      | true => rw [hb] at h'; have := Rid.eq_of_beq hb; subst this; exact ⟨d, h', rfl⟩
    | _ => simp [As.un] at h
  | box r c => cases x with
    | box r' c' =>
      have h' : (bif Rid.beq r r' && Nat.beq c c' then t else none) = some d := h
      cases hb : Rid.beq r r' && Nat.beq c c' with
      | false => rw [hb] at h'; cases h'
      | true =>
        rw [hb] at h'
        simp only [Bool.and_eq_true] at hb
        have := Rid.eq_of_beq hb.1; subst this
        have := Nat.eq_of_beq_eq_true hb.2; subst this
        exact ⟨d, h', rfl⟩
    | _ => simp [As.un] at h
  | fn f cs => cases x with
    | fn f' cs' =>
      have h' : (bif Nat.beq f f' && capsBeq cs cs' then t else none) = some d := h
      cases hb : Nat.beq f f' && capsBeq cs cs' with
      | false => rw [hb] at h'; cases h'
      | true =>
        rw [hb] at h'
        simp only [Bool.and_eq_true] at hb
        have := Nat.eq_of_beq_eq_true hb.1; subst this
        have := capsBeq_eq hb.2; subst this
        exact ⟨d, h', rfl⟩
    | _ => simp [As.un] at h
  | mp r => cases x with
    | mp r' =>
      have h' : (bif Rid.beq r r' then t else none) = some d := h
      cases hb : Rid.beq r r' with
      | false => rw [hb] at h'; cases h'
      | true => rw [hb] at h'; have := Rid.eq_of_beq hb; subst this; exact ⟨d, h', rfl⟩
    | _ => simp [As.un] at h
  | relt e => cases x with
    | relt e' y c =>
      cases c with
      | succ => simp [As.un] at h
      | zero =>
        simp only [As.un] at h
        split at h
        · rename_i l hl
          obtain ⟨rfl, rfl⟩ := castD_eq hl
          cases t with
          | none => cases h
          | some t => simp only [Option.map_some, Option.some.injEq] at h; subst h; exact ⟨t, rfl, rfl⟩
        · cases h
    | _ => simp [As.un] at h
  | dead => cases x with
    | dead => exact ⟨d, h, rfl⟩
    | _ => simp [As.un] at h
theorem unL_take : ∀ {l : List As} {m : List Atom} {t : Option T} {d : consL l T}, unL l m t = some d → ∃ t', t = some t' ∧ takeL l d = (m, t')
  | [], [], t, d, h => ⟨d, h, rfl⟩
  | a :: l, x :: m, t, d, h => by
    obtain ⟨t1, h1, h2⟩ := As.un_take h
    obtain ⟨t2, h3, h4⟩ := unL_take h1
    exact ⟨t2, h3, by simp [takeL, h2, h4]⟩
  | [], _ :: _, _, _, h => by simp [unL] at h
  | _ :: _, [], _, _, h => by simp [unL] at h
theorem unT_take : ∀ {l : List (Bool × List As)} {m : List (Bool × List Atom)} {t : Option T} {d : consT l T}, unT l m t = some d → ∃ t', t = some t' ∧ takeT l d = (m, t')
  | [], [], t, d, h => ⟨d, h, rfl⟩
  | (b, l) :: r, (b', m) :: q, t, d, h => by
    cases hb : b == b' with
    | false => simp only [unT, hb, cond_false] at h; cases h
    | true =>
      simp only [unT, hb, cond_true] at h
      have hbb : b = b' := by simpa using hb
      obtain ⟨t1, h1, h2⟩ := unL_take h
      obtain ⟨t2, h3, h4⟩ := unT_take h1
      exact ⟨t2, h3, by simp [takeT, h2, h4, hbb]⟩
  | [], _ :: _, _, _, h => by simp [unT] at h
  | _ :: _, [], _, _, h => by simp [unT] at h
theorem Vs.un_take : ∀ {s : Vs} {x : AV} {t : Option T} {d : s.cons T}, s.un x t = some d → ∃ t', t = some t' ∧ s.take d = (x, t')
  | .one a, .one x, t, d, h => by obtain ⟨t1, h1, h2⟩ := As.un_take h; exact ⟨t1, h1, by simp [Vs.take, h2]⟩
  | .agg a, .agg x, t, d, h => by obtain ⟨t1, h1, h2⟩ := unL_take h; exact ⟨t1, h1, by simp [Vs.take, h2]⟩
  | .tup a, .tup x, t, d, h => by obtain ⟨t1, h1, h2⟩ := unT_take h; exact ⟨t1, h1, by simp [Vs.take, h2]⟩
  | .one _, .agg _, _, _, h | .one _, .tup _, _, _, h | .agg _, .one _, _, _, h | .agg _, .tup _, _, _, h | .tup _, .one _, _, _, h | .tup _, .agg _, _, _, h => by simp [Vs.un] at h
theorem unV_take : ∀ {l : List Vs} {m : List AV} {t : Option T} {d : consV l T}, unV l m t = some d → ∃ t', t = some t' ∧ takeV l d = (m, t')
  | [], [], t, d, h => ⟨d, h, rfl⟩
  | a :: l, x :: m, t, d, h => by
    obtain ⟨t1, h1, h2⟩ := Vs.un_take h
    obtain ⟨t2, h3, h4⟩ := unV_take h1
    exact ⟨t2, h3, by simp [takeV, h2, h4]⟩
  | [], _ :: _, _, _, h => by simp [unV] at h
  | _ :: _, [], _, _, h => by simp [unV] at h
theorem Rs.un_take {s : Rs} {x : Root} {t : Option T} {d : s.cons T} (h : s.un x t = some d) : ∃ t', t = some t' ∧ s.take d = (x, t') := by
  unfold Rs.un at h
  split at h
  · obtain ⟨t1, h1, h2⟩ := unL_take h; exact ⟨t1, h1, by simp [Rs.take, h2]⟩
  · split at h
    · rename_i l hl
      obtain ⟨rfl, rfl⟩ := castL_eq hl
      cases t with
      | none => cases h
      | some t => simp only [Option.map_some, Option.some.injEq] at h; subst h; exact ⟨t, rfl, rfl⟩
    · cases h
  · cases t with
    | none => cases h
    | some t => simp only [Option.map_some, Option.some.injEq] at h; subst h; exact ⟨t, rfl, rfl⟩
  · cases t with
    | none => cases h
    | some t => simp only [Option.map_some, Option.some.injEq] at h; subst h; exact ⟨t, rfl, rfl⟩
  · split at h
    · rename_i l hl
      obtain ⟨rfl, rfl⟩ := castL_eq hl
      cases t with
      | none => cases h
      | some t => simp only [Option.map_some, Option.some.injEq] at h; subst h; exact ⟨t, rfl, rfl⟩
    · cases h
  · split at h
    · rename_i l hl
      obtain ⟨rfl, rfl⟩ := castR_eq hl
      cases t with
      | none => cases h
      | some t => simp only [Option.map_some, Option.some.injEq] at h; subst h; exact ⟨t, rfl, rfl⟩
    · cases h
  · cases t with
    | none => cases h
    | some t => simp only [Option.map_some, Option.some.injEq] at h; subst h; exact ⟨t, rfl, rfl⟩
  · rename_i q e' xs i q'
    cases hq : Rid.beq q q' with
    | false => rw [hq] at h; cases h
    | true =>
      obtain rfl := Rid.eq_of_beq hq
      rw [hq] at h
      simp only [cond_true] at h
      split at h
      · rename_i l hl
        obtain ⟨rfl, rfl⟩ := castR_eq hl
        cases t with
        | none => cases h
        | some t => simp only [Option.map_some, Option.some.injEq] at h; subst h; exact ⟨t, rfl, rfl⟩
      · cases h
  · cases h
theorem unR_take : ∀ {l : List (Rid × Rs)} {m : List (Rid × Root)} {t : Option T} {d : consR l T}, unR l m t = some d → ∃ t', t = some t' ∧ takeR l d = (m, t')
  | [], [], t, d, h => ⟨d, h, rfl⟩
  | (r, a) :: l, (r', x) :: m, t, d, h => by
    cases hb : Rid.beq r r' with
    | false => simp only [unR, hb, cond_false] at h; cases h
    | true =>
      simp only [unR, hb, cond_true] at h
      have := Rid.eq_of_beq hb
      subst this
      obtain ⟨t1, h1, h2⟩ := Rs.un_take h
      obtain ⟨t2, h3, h4⟩ := unR_take h1
      exact ⟨t2, h3, by simp [takeR, h2, h4]⟩
  | [], _ :: _, _, _, h => by simp [unR] at h
  | _ :: _, [], _, _, h => by simp [unR] at h
theorem PkS.un_pack {S : PkS} {p : Pk} {d : S.den} (h : S.un p = some d) : p = S.pack d := by
  obtain ⟨t1, h1, h2⟩ := unV_take h
  obtain ⟨t2, h3, h4⟩ := unR_take h1
  simp [PkS.pack, h2, h4]
end

/-! ### Tables of functions and of loops -/

abbrev KPs := (R : Type) → Pk → (Pk → Option R) → Option R
def NatP (h : KPs) : Prop := ∀ (R S : Type) (g : S → Option R) p (k' : Pk → Option S), h R p (fun q => (k' q).bind g) = (h S p k').bind g
def NatLP (h : LPs) : Prop := ∀ (R S : Type) (g : S → Option R) p (k' : Ex → Pk → Option S), h R p (fun x q => (k' x q).bind g) = (h S p k').bind g
def mkK : List (Nat × KPs) → CKs
  | [], _, _, _, _ => none
  | (f, h) :: l, R, g, p, k => bif Nat.beq g f then h R p k else mkK l R g p k
def mkL (K : CKs) : List (Nat × LoopD × LPs) → LKs
  | [], _, _, _, _ => none
  | (i, D, h) :: l, R, j, e, k => bif Nat.beq j i then D.oracle (K R) (h R) e k else mkL K l R j e k

structure FnOk (P : Program) (f : Nat) (h : KPs) : Prop where
  nat : NatP h
  ok : ∀ p q, h Pk p some = some q → ∀ (Z : Base) (vs : Array Value) (H : Gh), Z.vs = vs.toList → PkOk Z p vs.toList Z.w H → Does P f vs Z.w fun v w' => ∃ H', PkOk Z q (v :: vs.toList) w' H'

def AllOk (P : Program) : List (Nat × KPs) → Prop
  | [] => True
  | x :: l => FnOk P x.1 x.2 ∧ AllOk P l
theorem mkK_nat {P : Program} : ∀ {l : List (Nat × KPs)}, AllOk P l → NatK (mkK l)
  | [], _, R, S, g, f, p, k => rfl
  | (i, h) :: l, ho, R, S, g, f, p, k => by
    simp only [mkK]
    cases Nat.beq f i with
    | true => exact ho.1.nat R S g p k
    | false => exact mkK_nat ho.2 R S g f p k
theorem mkK_ok {P : Program} : ∀ {l : List (Nat × KPs)}, AllOk P l → OkK P (mkK l)
  | [], _, f, p, q, h => by simp [CKs.ans, mkK] at h
  | (i, h) :: l, ho, f, p, q, hh => by
    have hh' : (bif Nat.beq f i then h Pk p some else mkK l Pk f p some) = some q := hh
    cases hb : Nat.beq f i with
    | true =>
      rw [hb] at hh'
      rw [Nat.eq_of_beq_eq_true hb]
      exact ho.1.ok p q hh'
    | false =>
      rw [hb] at hh'
      exact mkK_ok ho.2 f p q hh'

section
variable {P : Program} {tt : TT} {sig : Sig} {K : CKs} {L : LKs}

theorem enter_nat {D : LoopD} (hK : NatK K) {R S : Type} {g : S → Option R} {e : Env} {k' : Pk → Option S} : D.enter (K R) e (fun q => (k' q).bind g) = (D.enter (K S) e k').bind g := by
  unfold LoopD.enter
  cases Nat.beq e.tm.length D.n with
  | true => exact Pg.runK_nat (hK R S g) _ _ fun q _ => k' q
  | false => rfl
theorem quit_nat {D : LoopD} (hK : NatK K) {R S : Type} {g : S → Option R} {e : Env} {x : Ex} {k' : Ex → Pk → Option S} : D.quit (K R) x e (fun x q => (k' x q).bind g) = (D.quit (K S) x e k').bind g := by
  unfold LoopD.quit
  split
  · cases Nat.beq e.tm.length D.n with
    | true => exact Pg.runK_nat (hK R S g) _ _ fun q _ => k' x q
    | false => rfl
  · rfl
theorem step_nat {D : LoopD} (hK : NatK K) (hL : NatL L) {c : Code} {lp : LPs} (hlp : NatLP lp) {R S : Type} {g : S → Option R} {q : Pk} {k' : Ex → Pk → Option S} :
    D.step tt sig (K R) (L R) c (fun q' => lp R q' fun x q => (k' x q).bind g) q (fun x q => (k' x q).bind g) = (D.step tt sig (K S) (L S) c (fun q' => lp S q' k') q k').bind g := by
  unfold LoopD.step
  rw [← ev_nat (hK R S g) (hL R S g)]
  congr 1
  funext x e
  cases x with
  | normal =>
    dsimp only
    rw [← enter_nat hK]
    exact congrArg (D.enter (K R) e) (funext fun q => hlp R S g q k')
  | ret => exact quit_nat hK
  | exit i => exact quit_nat hK
theorem oracle_nat {D : LoopD} (hK : NatK K) {lp : LPs} (hlp : NatLP lp) {R S : Type} {g : S → Option R} {e : Env} {k' : Ex → Env → Option S} : D.oracle (K R) (lp R) e (fun x e => (k' x e).bind g) = (D.oracle (K S) (lp S) e k').bind g := by
  unfold LoopD.oracle
  rw [← enter_nat hK]
  congr 1
  funext q
  rw [← hlp]
  congr 1
  funext x q
  unfold LoopD.back
  split <;> rfl
def AllNatL : List (Nat × LoopD × LPs) → Prop
  | [] => True
  | x :: l => NatLP x.2.2 ∧ AllNatL l
theorem mkL_nat (hK : NatK K) : ∀ {l : List (Nat × LoopD × LPs)}, AllNatL l → NatL (mkL K l)
  | [], _, R, S, g, i, e, k => rfl
  | (j, D, h) :: l, ho, R, S, g, i, e, k => by
    simp only [mkL]
    cases Nat.beq i j with
    | true => exact oracle_nat hK ho.1
    | false => exact mkL_nat hK ho.2 R S g i e k

/-- What a loop by fuel is: nothing without fuel; else one round, and what comes after. -/
structure LoopEq (tt : TT) (sig : Sig) (K : Nat → CKs) (L : Nat → LKs) (D : LoopD) (S : PkS) (c : Code) (lp : Nat → LPs) : Prop where
  zero : ∀ R q kk, lp 0 R q kk = none
  succ : ∀ n R q kk, lp (n + 1) R q kk = match S.un q with
    | some _ => D.step tt sig (K n R) (L n R) c (fun q' => lp n R q' kk) q kk
    | none => none

theorem LoopEq.nat {K : Nat → CKs} {L : Nat → LKs} {D : LoopD} {S : PkS} {c : Code} {lp : Nat → LPs} (h : LoopEq tt sig K L D S c lp) (hK : ∀ n, NatK (K n)) (hL : ∀ n, NatL (L n)) : ∀ n, NatLP (lp n)
  | 0, R, S', g, q, k' => by rw [h.zero, h.zero]; rfl
  | n + 1, R, S', g, q, k' => by
    rw [h.succ, h.succ]
    split
    · exact step_nat (hK n) (hL n) (LoopEq.nat h hK hL n)
    · rfl

theorem enter_ok {D : LoopD} (hK : NatK K) {R : Type} {Z : Base} {e : Env} {a : Act} {w : World} {G : Gh} (h : Rel Z e a w G) {k : Pk → Option R} {r : R} (he : D.enter (K R) e k = some r) :
    ∃ q H, k q = some r ∧ Rel Z (mkEnv D.n D.ss q) a w H := by
  unfold LoopD.enter at he
  cases hn : Nat.beq e.tm.length D.n with
  | false => rw [hn] at he; cases he
  | true =>
    rw [hn, cond_true, Pg.runK_eq (hK.eq R)] at he
    obtain ⟨⟨q, s'⟩, h1, h2⟩ := Option.bind_eq_some_iff.1 he
    have hsz : a.tmps.size = D.n := by
      have := h.tm.length
      rw [Nat.eq_of_beq_eq_true hn] at this
      simpa using this.symm
    obtain ⟨H, h3⟩ := head_ok h hsz h1
    exact ⟨q, H, h2, h3⟩
theorem quit_ok {D : LoopD} (hK : NatK K) {R : Type} {Z : Base} {e : Env} {a : Act} {w : World} {G : Gh} (h : Rel Z e a w G) {x : Ex} {kk : Ex → Pk → Option R} {r : R} (he : D.quit (K R) x e kk = some r) :
    ∃ so sho q H, D.outs x = some (so, sho) ∧ kk x q = some r ∧ Rel Z (mkEnv D.n so q) a w H := by
  unfold LoopD.quit at he
  split at he
  case h_2 => cases he
  rename_i so sho hx
  cases hn : Nat.beq e.tm.length D.n with
  | false => rw [hn] at he; cases he
  | true =>
    rw [hn, cond_true, Pg.runK_eq (hK.eq R)] at he
    obtain ⟨⟨q, s'⟩, h1, h2⟩ := Option.bind_eq_some_iff.1 he
    have hsz : a.tmps.size = D.n := by
      have := h.tm.length
      rw [Nat.eq_of_beq_eq_true hn] at this
      simpa using this.symm
    obtain ⟨H, h3⟩ := head_ok h hsz h1
    exact ⟨so, sho, q, H, hx, h2, h3⟩

theorem LoopEq.rounds (hm : P.follows .mixedOrders = true) (hT : TTok P tt) {K : Nat → CKs} {L : Nat → LKs} {D : LoopD} {S : PkS} {c : Code} {lp : Nat → LPs} (h : LoopEq tt sig K L D S c lp) (hKn : ∀ n, NatK (K n)) (hKo : ∀ n, OkK P (K n))
    {R : Type} (hL : ∀ n, LoopsOk P (L n R) c) (h0 : hasR c = false) {nd : Array Oper → Prop} {W : WP} (hW : Rules P nd W) (hg : Good nd c) {kk : Ex → Pk → Option R} {r : R} {Q : Exit → Act → World → Prop} {Z : Base}
    (hQ : ∀ x so sho q a w H, D.outs x = some (so, sho) → kk x q = some r → Rel Z (mkEnv D.n so q) a w H → Q (exOf x) a w) :
    ∀ (n : Nat) (q : Pk) (a : Act) (w : World) (H : Gh), lp n R q kk = some r → Rel Z (mkEnv D.n D.ss q) a w H → Rnds W c Q n a w
  | 0, q, a, w, H, he, _ => by rw [h.zero] at he; cases he
  | n + 1, q, a, w, H, he, hr => by
    rw [h.succ] at he
    split at he
    case h_2 => cases he
    unfold LoopD.step at he
    show W c (Exit.then (Rnds W c Q n) Q) a w
    refine ev_sound hm hT (hKo n) ((hKn n).eq R) hW hg (hL n) (oneR_of h0) (fun h => by rw [h0] at h; cases h) he hr fun x Z' e' a' w' G' hk hz hr' => ?_
    rcases hz with rfl | ⟨h, _⟩
    case inr => rw [h0] at h; cases h
    cases x with
    | normal =>
      obtain ⟨q', H', h1, h2⟩ := enter_ok (hKn n) hr' hk
      exact LoopEq.rounds hm hT h hKn hKo hL h0 hW hg hQ n q' a' w' H' h1 h2
    | ret =>
      obtain ⟨so, sho, q', H', h0, h1, h2⟩ := quit_ok (hKn n) hr' hk
      exact hQ .ret so sho q' a' w' H' h0 h1 h2
    | exit i =>
      obtain ⟨so, sho, q', H', h0, h1, h2⟩ := quit_ok (hKn n) hr' hk
      exact hQ (.exit i) so sho q' a' w' H' h0 h1 h2

/-- A loop by fuel does what the loop does. -/
theorem LoopEq.ok (hm : P.follows .mixedOrders = true) (hT : TTok P tt) {K : Nat → CKs} {L : Nat → LKs} {D : LoopD} {S : PkS} {c : Code} {lp : Nat → LPs} (h : LoopEq tt sig K L D S c lp) (hKn : ∀ n, NatK (K n)) (hKo : ∀ n, OkK P (K n))
    {R : Type} (hL : ∀ n, LoopsOk P (L n R) c) {L0 : LK R} {n : Nat} {K0 : CKs} (hK0 : NatK K0) (h0 : ∀ id, firstRegion c = some id → L0 id = D.oracle (K0 R) (lp n R)) : LoopOk P L0 c := by
  intro id hid hro nd W hW hg Z e a w G k r Q he hr hQ
  rw [h0 id hid] at he
  obtain ⟨q, H, h1, h2⟩ := enter_ok hK0 hr he
  refine hW.loop n (h.rounds hm hT hKn hKo hL hro hW hg (fun x so sho q' a' w' H' h3 h4 h5 => ?_) n q a w H h1 h2)
  refine hQ x (mkEnv D.n so q') a' w' H' ?_ h5
  unfold LoopD.back at h4
  rw [h3] at h4
  exact h4

theorem fn_ok (hm : P.follows .mixedOrders = true) (hT : TTok P tt) (hKn : NatK K) (hK : OkK P K) (hLn : NatL L) {f : FuncId} {fn : Func} {c : Code} (hf : P.funcs[f]? = some fn) (hb : fn.body = some c) (hn : (fn.name == "runtime.NumGoroutine") = false)
    (hL : LoopsOk P (L Pk) c) {shs : List Sh} {S : PkS} {h : KPs} (he : ∀ R p k, h R p k = match S.un p with
      | some _ => evF tt sig (K R) (L R) fn shs p k
      | none => none) (h1 : oneR c = true := by exact rfl) : FnOk P f h where
  nat R S' g p k' := by
    rw [he, he]
    split
    · exact evF_nat (hKn R S' g) (hLn R S' g) fn shs p k'
    · rfl
  ok p q hq Z vs H hv hp := by
    rw [he] at hq
    split at hq
    case h_2 => cases hq
    exact fn_sound hm hT hKn hK hf hb hn hL h1 hq hv hp
theorem fn_none {f : FuncId} {h : KPs} (he : ∀ R p k, h R p k = none) : FnOk P f h where
  nat R S' g p k' := by rw [he, he]; rfl
  ok p q hq := by rw [he] at hq; cases hq
end
end Go.Am
set_option linter.unusedVariables false
set_option linter.unusedSimpArgs false
namespace Go.Am
open Go

def bodyOf (f : Func) : Code := match f.body with
  | some c => c
  | none => .skip
def fitV : Sh → AV → Bool
  | .fn g _, .one (.fn h _) => Nat.beq g h
  | .fn _ _, _ => false
  | .box _, .one (.relt _ _ _) => false
  | _, _ => true
def fitVs : List Sh → List AV → Bool
  | s :: l, v :: m => fitV s v && fitVs l m
  | _, _ => true
def sigOf : List (Nat × List Sh) → Sig
  | [], _, _ => none
  | (g, s) :: l, f, bs => bif Nat.beq f g && fitVs s bs then some s else sigOf l f bs

/-- A function over packets of one form, or else of another one. -/
def orK (S : PkS) (h₁ h₂ : KPs) : KPs := fun R p k => bif (S.un p).isSome then h₁ R p k else h₂ R p k
theorem FnOk.orElse {P : Program} {f : Nat} {h₁ h₂ : KPs} (S : PkS) (a : FnOk P f h₁) (b : FnOk P f h₂) : FnOk P f (orK S h₁ h₂) where
  nat R S' g p k := by
    unfold orK
    cases (S.un p).isSome with
    | true => exact a.nat R S' g p k
    | false => exact b.nat R S' g p k
  ok p q h := by
    unfold orK at h
    cases e : (S.un p).isSome with
    | true => rw [e] at h; exact a.ok p q h
    | false => rw [e] at h; exact b.ok p q h

/-- The loops of a code that lie in no other. -/
def loopIds : Code → List Nat
  | .seq a b => loopIds a ++ loopIds b
  | .cond _ a b => loopIds a ++ loopIds b
  | .block _ c => loopIds c
  | .loop c => match firstRegion c with
    | some i => [i]
    | none => []
  | .rangeFunc _ _ _ c => match firstRegion c with
    | some i => [i]
    | none => []
  | _ => []
/-- A loop's code, by its first region. -/
def loopBody (i : Nat) : Code → Option Code
  | .seq a b => match loopBody i a with
    | some c => some c
    | none => loopBody i b
  | .cond _ a b => match loopBody i a with
    | some c => some c
    | none => loopBody i b
  | .block _ c => loopBody i c
  | .loop c => match firstRegion c with
    | some j => bif Nat.beq i j then some c else loopBody i c
    | none => none
  | .rangeFunc _ _ _ c => match firstRegion c with
    | some j => bif Nat.beq i j then some c else loopBody i c
    | none => none
  | _ => none
def loopIn (i : Nat) (c : Code) : Code := match loopBody i c with
  | some d => d
  | none => .skip
def noneTwice : List Nat → Bool
  | [] => true
  | i :: l => !l.any (Nat.beq i) && noneTwice l

/-! ### A slice cloned: of what is only read a row of one's own; what is nil stays so, which no list tells -/

def outPk (e : Kd) (xs : List e.den) : Pk := ⟨[.one (.whole (300000, 0)), .one .dead], [((300000, 0), .arr e xs)]⟩
def cloneK (e : Kd) : KPs := fun R p k => match (PkS.un ⟨[.one (.ro e)], []⟩ p : Option (List e.den × Unit)) with
  | some (xs, _) => bif decide (0 + xs.length ≤ LIM) then k (outPk e xs) else none
  | none => none
theorem clone_ok {P : Program} {tt : TT} {sig : Sig} (hm : P.follows .mixedOrders = true) (hT : TTok P tt) {f : FuncId} {fn : Func} {c : Code} (hf : P.funcs[f]? = some fn) (hb : fn.body = some c) (hn : (fn.name == "runtime.NumGoroutine") = false)
    (e : Kd) (shs : List Sh) (hL : LoopsOk P (mkL (mkK []) [] Pk) c)
    (h1 : ∀ xs, evF tt sig (mkK [] Pk) (mkL (mkK []) [] Pk) fn shs ⟨[.one (.rn e xs)], []⟩ some = bif decide (0 + xs.length ≤ LIM) then some (outPk e xs) else none)
    (h2 : evF tt sig (mkK [] Pk) (mkL (mkK []) [] Pk) fn shs ⟨[.one .nil], []⟩ some = some (outPk e [])) (hone : oneR c = true := by exact rfl) : FnOk P f (cloneK e) where
  nat R S' g p k := by
    unfold cloneK
    split
    · rename_i xs _ _
      cases decide (0 + xs.length ≤ LIM) <;> rfl
    · rfl
  ok p q hq Z vs H hv hp := by
    unfold cloneK at hq
    split at hq
    case h_2 => cases hq
    rename_i xs u hu
    have hpk := PkS.un_pack hu
    subst hpk
    have hq' : (bif decide (0 + xs.length ≤ LIM) then some (outPk e xs) else none) = some q := hq
    have ha : All2 (AVRel (AtomRel Z.w (Stab Z (ptab []) H Z.w) (ptab []) H)) [.one (.ro e xs false)] vs.toList := hp.args
    obtain ⟨us, hvs⟩ : ∃ us, vs.toList = us := ⟨_, rfl⟩
    rw [hvs] at ha
    cases us with
    | nil => exact ha.elim
    | cons v r =>
      cases r with
      | cons => exact ha.2.elim
      | nil =>
        obtain ⟨hs, _⟩ : AtomRel Z.w (Stab Z (ptab []) H Z.w) (ptab []) H (.ro e xs false) v := ha.1
        have hnn : ∀ ad n c, v = .slice (some ad) n c → Does P f vs Z.w fun v w' => ∃ H', PkOk Z q (v :: vs.toList) w' H' := by
          intro ad n c hv'
          refine fn_sound hm hT (mkK_nat (P := P) (l := []) trivial) (mkK_ok (l := []) trivial) hf hb hn hL hone (p := ⟨[.one (.rn e xs)], []⟩) ((h1 xs).trans hq') hv ⟨?_, hp.mem⟩
          rw [hvs]
          exact ⟨⟨hs, ad, n, c, hv'⟩, trivial⟩
        rcases hs with ⟨rfl, ad, c, hsv, hc⟩ | ⟨b, off, cap, cells, t, fr, hsv, _⟩
        · cases ad with
          | some ad => exact hnn _ _ _ hsv
          | none =>
            cases hc rfl
            have hq0 : some (outPk e []) = some q := hq'
            refine fn_sound hm hT (mkK_nat (P := P) (l := []) trivial) (mkK_ok (l := []) trivial) hf hb hn hL hone (p := ⟨[.one .nil], []⟩) (h2.trans hq0) hv ⟨?_, hp.mem⟩
            rw [hvs]
            exact ⟨hsv, trivial⟩
        · exact hnn _ _ _ hsv

/-- A loop by its body, or a range over a function. -/
inductive Lp where
  | lo (c : Code)
  | ra (g : Operand) (ps : Array Tmp) (asg c : Code)
/-- All loops that lie in no other, as they stand. -/
def loopsOf : Code → List Lp
  | .seq a b => loopsOf a ++ loopsOf b
  | .cond _ a b => loopsOf a ++ loopsOf b
  | .block _ c => loopsOf c
  | .loop c => [.lo c]
  | .rangeFunc g ps asg c => [.ra g ps asg c]
  | _ => []
def LpOk {R : Type} (P : Program) (L : LK R) : Lp → Prop
  | .lo c => LoopOk P L c
  | .ra g ps asg c => RangeOk P L g ps asg c
def AllLoops {R : Type} (P : Program) (L : LK R) : List Lp → Prop
  | [] => True
  | c :: l => LpOk P L c ∧ AllLoops P L l
theorem AllLoops.append {R : Type} {P : Program} {L : LK R} : ∀ {l m : List Lp}, AllLoops P L (l ++ m) → AllLoops P L l ∧ AllLoops P L m
  | [], m, h => ⟨trivial, h⟩
  | c :: l, m, h => let ⟨h1, h2⟩ := AllLoops.append (l := l) h.2; ⟨⟨h.1, h1⟩, h2⟩
theorem LoopsOk.of {R : Type} {P : Program} {L : LK R} : ∀ {c : Code}, AllLoops P L (loopsOf c) → LoopsOk P L c
  | .seq a b, h => let ⟨h1, h2⟩ := AllLoops.append h; ⟨LoopsOk.of h1, LoopsOk.of h2⟩
  | .cond _ a b, h => let ⟨h1, h2⟩ := AllLoops.append h; ⟨LoopsOk.of h1, LoopsOk.of h2⟩
  | .block _ c, h => LoopsOk.of (c := c) h
  | .loop c, h => h.1
  | .skip, _ => trivial
  | .ret, _ => trivial
  | .exit _, _ => trivial
  | .region _ _ _, _ => trivial
  | .label _, _ => trivial
  | .goto _, _ => trivial
  | .scope _, _ => trivial
  | .refuse _, _ => trivial
  | .rangeFunc _ _ _ _, h => h.1
theorem LoopsOk.eq {R : Type} {P : Program} {L : LK R} {c : Code} {l : List Lp} (h : loopsOf c = l) (hl : AllLoops P L l) : LoopsOk P L c := .of (h ▸ hl)
theorem at_id {R : Type} {c : Code} {i : Nat} {L0 : LK R} {o : Env → (Ex → Env → Option R) → Option R} (e : firstRegion c = some i) (h : L0 i = o) : ∀ id, firstRegion c = some id → L0 id = o := by
  intro id hid
  rw [e] at hid
  cases hid
  exact h
end Go.Am
set_option linter.unusedVariables false
set_option linter.unusedSimpArgs false
namespace Go.Am
open Go

/-! ### What the arguments are, at the law's door -/

def wfK : (k : Kd) → k.den → Prop
  | .int ik, n => (Lit.int ik n).wf = true
  | .bool, _ => True
  | .str, s => s.size ≤ maxLen
  | .sl e, xs => xs.length ≤ maxLen ∧ ∀ x ∈ xs, wfK e x
  | .pr a b, x => wfK a x.1 ∧ wfK b x.2
theorem wfK.toD : ∀ {k : Kd} {d : k.den}, wfK k d → wfD k d
  | .int _, _, h => by
    have h' : (decide (_ ≤ _) && decide (_ ≤ _)) = true := h
    simpa [wfD] using h'
  | .bool, _, _ => trivial
  | .str, _, h => h
  | .sl _, _, h => ⟨h.1, fun x hx => wfK.toD (h.2 x hx)⟩
  | .pr _ _, _, h => ⟨wfK.toD h.1, wfK.toD h.2⟩
def tyFs (P : Program) (g : Kd → TypeId → Bool) : Kd → Nat → List Field → Bool
  | _, _, [] => false
  | k, off, [f] => g k f.type && (Nat.beq f.offset off && Nat.beq (P.cellsOf f.type) k.size)
  | .pr a b, off, f :: r => g a f.type && (Nat.beq f.offset off && (Nat.beq (P.cellsOf f.type) a.size && tyFs P g b (off + a.size) r))
  | _, _, _ => false
def tyOk (P : Program) : Nat → Kd → TypeId → Bool
  | 0, _, _ => false
  | n + 1, k, t => match P.underlying t with
    | some (.int ik) => match k with
      | .int ik' => decide (ik = ik')
      | _ => false
    | some .bool => match k with
      | .bool => true
      | _ => false
    | some .string => match k with
      | .str => true
      | _ => false
    | some (.slice u) => match k with
      | .sl e => tyOk P n e u && Nat.beq (P.cellsOf u) e.size
      | _ => false
    | some (.struct fs) => tyFs P (tyOk P n) k 0 fs.toList && Nat.beq (P.cellsOf t) k.size
    | _ => false

abbrev Old (w : World) (b : Nat) : Prop := b < w.heap.size

theorem collect {α β : Type} {R : α → β → Prop} {l : List β} : (∀ y ∈ l, ∃ x, R x y) → ∃ xs : List α, All2 R xs l := by
  induction l with
  | nil => exact fun _ => ⟨[], trivial⟩
  | cons y l ih =>
    intro h
    obtain ⟨x, hx⟩ := h y (List.mem_cons_self ..)
    obtain ⟨xs, hxs⟩ := ih fun z hz => h z (List.mem_cons_of_mem _ hz)
    exact ⟨x :: xs, hx, hxs⟩

section
variable {H : Type} {enc : TypeId × Value → H} {P : Program} {w : World} {held : Bool}

theorem fs_rd {g : Kd → TypeId → Bool} {n : Nat} (hg : ∀ {k : Kd} {t : TypeId} {cs : List Value} {x : DataW H × List MemPlace}, g k t = true → DataW.trod enc P w 0 (fun _ => true) held n t cs = some x → ∃ d, Rd w (Old w) k d cs ∧ wfK k d) :
    ∀ {fs : List Field} {k : Kd} {off : Nat} {cs : List Value}, tyFs P g k off fs = true → cs.length = off + k.size →
      (∀ f ∈ fs, ∃ x, DataW.trod enc P w 0 (fun _ => true) held n f.type ((cs.drop f.offset).take (P.cellsOf f.type)) = some x) → ∃ d, Rd w (Old w) k d (cs.drop off) ∧ wfK k d
  | [], k, off, cs, h, _, _ => by simp [tyFs] at h
  | [f], k, off, cs, h, hl, hx => by
    have h' : (g k f.type && (Nat.beq f.offset off && Nat.beq (P.cellsOf f.type) k.size)) = true := by
      cases k <;> exact h
    simp only [Bool.and_eq_true] at h'
    obtain ⟨h1, h2, h3⟩ := h'
    obtain ⟨x, hx⟩ := hx f (List.mem_cons_self ..)
    rw [Nat.eq_of_beq_eq_true h2, Nat.eq_of_beq_eq_true h3, List.take_of_length_le (by rw [List.length_drop]; omega)] at hx
    exact hg h1 hx
  | f :: f2 :: r, k, off, cs, h, hl, hx => by
    cases k with
    | pr a b =>
      simp only [tyFs, Bool.and_eq_true] at h
      obtain ⟨h1, h2, h3, h4⟩ := h
      have hs : (Kd.pr a b).size = a.size + b.size := rfl
      obtain ⟨x, hx1⟩ := hx f (List.mem_cons_self ..)
      rw [Nat.eq_of_beq_eq_true h2, Nat.eq_of_beq_eq_true h3] at hx1
      obtain ⟨d1, r1, w1⟩ := hg h1 hx1
      obtain ⟨d2, r2, w2⟩ := fs_rd hg (k := b) (off := off + a.size) (cs := cs) h4 (by rw [hl, hs]; omega) fun z hz => hx z (List.mem_cons_of_mem _ hz)
      refine ⟨(d1, d2), ⟨_, _, ?_, r1, r2⟩, w1, w2⟩
      rw [← List.drop_drop, List.take_append_drop]
    | _ => simp [tyFs] at h

theorem trod_rd : ∀ (n : Nat) {k : Kd} {t : TypeId} {fuel : Nat} {cs : List Value} {x : DataW H × List MemPlace}, tyOk P n k t = true → DataW.trod enc P w 0 (fun _ => true) held fuel t cs = some x → ∃ d, Rd w (Old w) k d cs ∧ wfK k d
  | 0, _, _, _, _, _, h, _ => by simp [tyOk] at h
  | n + 1, k, t, fuel, cs, x, h, hx => by
    unfold tyOk at h
    split at h
    · rename_i ik ht
      split at h
      case h_2 => cases h
      have := of_decide_eq_true h
      subst this
      obtain ⟨m, rfl, _, hw⟩ := DataW.trod_int ht hx
      exact ⟨m, rfl, hw⟩
    · rename_i ht
      split at h
      case h_2 => cases h
      obtain ⟨b, rfl, _⟩ := DataW.trod_bool ht hx
      exact ⟨b, rfl, trivial⟩
    · rename_i ht
      split at h
      case h_2 => cases h
      obtain ⟨s, rfl, _, hw⟩ := DataW.trod_string ht hx
      exact ⟨s, rfl, hw⟩
    · rename_i u ht
      split at h
      case h_2 => cases h
      rename_i e
      simp only [Bool.and_eq_true] at h
      have hc : P.cellsOf u = e.size := Nat.eq_of_beq_eq_true h.2
      rcases DataW.trod_slice ht hx with ⟨rfl, _⟩ | ⟨a, len, cap, elems, rest, m, _, rfl, _, _, hl, hm, hlen, hel, _, _⟩
      · exact ⟨([] : List e.den), ⟨_, rfl, .inl ⟨rfl, none, 0, rfl, fun _ => rfl⟩⟩, by simp [maxLen], fun _ h => by simp at h⟩
      · by_cases h0 : len = 0
        · subst h0
          exact ⟨([] : List e.den), ⟨_, rfl, .inl ⟨rfl, some a, cap, rfl, fun h => by cases h⟩⟩, by simp [maxLen], fun _ h => by simp at h⟩
        · -- each element
          have each : ∀ i, i < len → ∃ (d : e.den) (cs : List Value), Rd w (Old w) e d cs ∧ wfK e d ∧ ∀ j v, cs[j]? = some v → w.cell? ((a.add (i * e.size)).add j) = some v := fun i hi => by
            have h1 := hel i hi
            rw [List.getElem?_eq_getElem (by omega), hc] at h1
            obtain ⟨cs', h2, h3⟩ := Option.bind_eq_some_iff.1 h1
            obtain ⟨d, h4, h5⟩ := trod_rd n h.1 h3
            obtain ⟨_, h6, h7⟩ := World.cells?_some h2
            exact ⟨d, cs', h4, h5, fun j v hv => by rw [h7 j (by rw [← h6]; exact (List.getElem?_eq_some_iff.1 hv).1)]; exact hv⟩
          obtain ⟨xs, hxs⟩ := collect (l := List.range len) (R := fun (d : e.den) i => ∃ cs : List Value, Rd w (Old w) e d cs ∧ wfK e d ∧ ∀ j v, cs[j]? = some v → w.cell? ((a.add (i * e.size)).add j) = some v) fun i hi => each i (List.mem_range.1 hi)
          have hxl : xs.length = len := by rw [hxs.length, List.length_range]
          -- the block
          obtain ⟨d0, cs0, h1, _, h2⟩ := each 0 (by omega)
          have hp := Kd.size_pos e
          obtain ⟨v0, hv0⟩ : ∃ v, cs0[0]? = some v := ⟨cs0[0]'(by rw [h1.length]; exact hp), List.getElem?_eq_getElem _⟩
          have h3 := h2 0 v0 hv0
          simp only [Nat.zero_mul, Addr.add, if_pos] at h3
          obtain ⟨b, off, spot⟩ := a
          unfold World.cell? at h3
          split at h3
          case h_2 => cases h3
          rename_i cells ty fr hb
          cases spot with
          | some s => simp at h3
          | none =>
            refine ⟨xs, ⟨_, rfl, .inr ⟨b, off, cap, cells, ty, fr, by rw [hxl], by rw [hxl]; exact hl, (Array.getElem?_eq_some_iff.1 hb).1, hb, fun i y hy => ?_⟩⟩, by rw [hxl]; omega, fun y hy => ?_⟩
            · obtain ⟨i', hi', cs', h4, _, h5⟩ := hxs.get hy
              have hlt := (List.getElem?_eq_some_iff.1 hy).1
              rw [List.getElem?_range (by omega)] at hi'
              cases hi'
              refine ⟨cs', h4, fun j v hv => ?_⟩
              have h6 := h5 j v hv
              rw [addr_add, addr_add] at h6
              unfold World.cell? at h6
              simp only [hb] at h6
              simpa using h6
            · obtain ⟨i, hi⟩ := List.getElem?_of_mem hy
              obtain ⟨i', hi', cs', _, h5, _⟩ := hxs.get hi
              exact h5
    · rename_i fs ht
      simp only [Bool.and_eq_true] at h
      obtain ⟨xs, m, _, _, h1, h2, h3⟩ := DataW.trod_struct ht hx
      have := fs_rd (fun h hx => trod_rd n h hx) (off := 0) (cs := cs) h.1 (by rw [h1, Nat.eq_of_beq_eq_true h.2]; simp) fun f hf => by
        obtain ⟨i, hi⟩ := List.getElem?_of_mem hf
        have hi' : fs[i]? = some f := by simpa using hi
        have := h3 i f hi'
        rw [List.getElem?_eq_getElem (by rw [h2]; have := (Array.getElem?_eq_some_iff.1 hi').1; exact this)] at this
        exact ⟨_, this⟩
      simpa using this
    · cases h
end
end Go.Am
set_option linter.unusedVariables false
set_option linter.unusedSimpArgs false
namespace Go.Am
open Go

/-! ### The law's own call -/

section
variable {P : Program}

theorem Does.calls {f : FuncId} {fn : Func} {c : Code} {args : Array Value} {w : World} {R : Value → World → Prop} (hf : P.funcs[f]? = some fn) (hb : fn.body = some c) (hn : (fn.name == "runtime.NumGoroutine") = false)
    (h : Does P f args w R) : Calls P f args w fun e w' => ∃ v, e = .returned v ∧ R v w' := by
  have h1 := h { dst := some 0, op := .move (.const undef), type := 0, pos := "", after := #[], guard := none } { tmps := #[undef], defers := [] } (fun a' w' => ∃ v, a'.tmps = #[v] ∧ R v w') (fun _ _ _ => False)
    fun v w' hr => ⟨v, by simp [Act.put], hr⟩
  have : (callFunc f args).run P w = .ok (.enter f args) w := by
    simp only [callFunc, Sem.run_bind, run_program, Result.andThen_ok, hf, hn, hb, Option.isNone_some]
    rfl
  rw [this, Oper.upon_enter] at h1
  refine Calls.mono h1 fun e w' he => ?_
  cases e with
  | returned v =>
    obtain ⟨v', h2, h3⟩ := he
    simp [Act.put] at h2
    exact ⟨v, rfl, by rw [h2]; exact h3⟩
  | panicked ch => exact he.elim
  | outgrown => obtain ⟨_, _, h2⟩ := he; exact h2.elim

def isStruct (P : Program) (t : TypeId) : Bool := match P.underlying t with
  | some (.struct _) => true
  | _ => false
theorem okWide_agg {w : World} {r : Reach} {b : Nat} {t : TypeId} {v : Value} (h : isStruct P t = true) (hv : Value.okWide P w r b t v) : ∃ cs, v = .agg cs := by
  unfold isStruct at h
  split at h
  · rename_i fs ht
    obtain ⟨cs, h1, _⟩ := WideShapes.okWide_struct ht hv
    exact ⟨cs, h1⟩
  · cases h
theorem Gl.triv {w : World} {S : Nat → Prop} (h : glob = []) : Gl w S := fun x hx => by rw [h] at hx; cases hx
/-- The world that a law's call starts from: nothing of it is the call's own. -/
def lawBase (w : World) (hg : Gl w (Old w)) (vs : List Value) : Base := ⟨w, fun _ => False, Old w, fun _ h => ⟨h, fun h => h⟩, vs, [], hg⟩
theorem law_stab {w : World} {hg : Gl w (Old w)} {vs : List Value} {G : Gh} {b : Nat} (h : Old w b) : Stab (lawBase w hg vs) (ptab []) G w b :=
  ⟨.inl h, fun ⟨r, x, h1, _⟩ => by simp [ptab, look] at h1⟩
theorem law_pk {w : World} {hg : Gl w (Old w)} {vs : List Value} {G : Gh} {bs : List AV} (h : All2 (AVRel (AtomRel w (Old w) (ptab []) G)) bs vs) : PkOk (lawBase w hg vs) ⟨bs, []⟩ vs w G where
  args := h.mono fun _ _ => AVRel.mono fun _ _ h1 => AtomRel.step (fun c hc => ⟨law_stab hc, rfl⟩) (Turns.refl _ _) h1
  mem := ⟨fun r x h => by simp [ptab, look] at h, fun r r' x x' b h => by simp [ptab, look] at h, fun b ⟨r, x, h1, _⟩ => by simp [ptab, look] at h1, Evo.refl _ _⟩
theorem PkOk.below {w w' : World} {hg : Gl w (Old w)} {vs : List Value} {q : Pk} {us : List Value} {G : Gh} (h : PkOk (lawBase w hg vs) q us w' G) : RowKit.Below w.heap.size w w' :=
  ⟨h.mem.evo.os, h.mem.evo.tape, h.mem.evo.output, h.mem.evo.size, fun b hb => h.mem.evo.block b hb fun h => h⟩

theorem arg_agg {w : World} {G : Gh} {k : Kd} {d : k.den} {xs : Array Value} (h : Rd w (Old w) k d xs.toList) : AVRel (AtomRel w (Old w) (ptab []) G) (.agg (cellsOf k d 0 k.size)) (.agg xs) := by
  have := cellsOf_rel (S := Old w) (rt := ptab []) (G := G) h k.size 0 (by omega)
  refine ⟨xs, rfl, ?_⟩
  rw [List.drop_zero, List.take_of_length_le (by rw [h.length]; exact Nat.le_refl _)] at this
  exact this
theorem arg_one {w : World} {G : Gh} {k : Kd} {d : k.den} {v : Value} (h : Rd w (Old w) k d [v]) : AVRel (AtomRel w (Old w) (ptab []) G) (.one (cellOf k d 0)) v :=
  cellOf_rel h 0 v rfl

/-- What a law says, once the program's text has been walked: the call comes back with what the plain function tells, and nothing that was there has turned. -/
theorem law_calls {f : Nat} {fn : Func} {c : Code} {h : KPs} (hok : FnOk P f h) (hf : P.funcs[f]? = some fn) (hb : fn.body = some c) (hn : (fn.name == "runtime.NumGoroutine") = false) {w : World} (hg : Gl w (Old w)) {args : Array Value} {avs : List AV} {outs : List AV} {rt : List (Rid × Root)} {b : Bool}
    (ha : All2 (AVRel (AtomRel w (Old w) (ptab []) (fun _ => undef))) avs args.toList) (he : h Pk ⟨avs, []⟩ some = some ⟨.one (.bool b) :: outs, rt⟩) :
    Calls P f args w fun e w' => e = .returned (.bool b) ∧ RowKit.Below w.heap.size w w' := by
  have h1 := (hok.ok _ _ he (lawBase w hg args.toList) args (fun _ => undef) rfl (law_pk ha)).calls hf hb hn
  refine Calls.mono h1 fun e w' he => ?_
  obtain ⟨v, rfl, H, hp⟩ := he
  have h2 : v = .bool b := hp.args.1
  exact ⟨by rw [h2], hp.below⟩
end
end Go.Am
set_option linter.unusedVariables false
set_option linter.unusedSimpArgs false
namespace Go.Am
open Go

/-! ### slices.Insert of one number -/

theorem setCells_at {b : Nat} {t : TypeId} {fr : Nat × Nat} : ∀ (vs : List Value) (o : Nat) (w : World) (cur : Array Value), w.heap[b]? = some (.cells cur t fr) → o + vs.length ≤ cur.size →
    ∃ cur', (w.setCells b o vs).heap[b]? = some (.cells cur' t fr) ∧ cur'.size = cur.size ∧ (∀ j v, vs[j]? = some v → cur'[o + j]? = some v) ∧ (∀ j, (j < o ∨ o + vs.length ≤ j) → cur'[j]? = cur[j]?)
  | [], o, w, cur, h, _ => ⟨cur, h, rfl, fun j v hv => by simp at hv, fun _ _ => rfl⟩
  | v :: vs, o, w, cur, h, hl => by
    have h1 : (w.setCell ⟨b, o, none⟩ v).heap[b]? = some (.cells (cur.setIfInBounds o v) t fr) := by
      show (w.heap.modify b _)[b]? = _
      rw [Array.getElem?_modify]
      simp [h]
    obtain ⟨cur', h2, h3, h4, h5⟩ := setCells_at vs (o + 1) (w.setCell ⟨b, o, none⟩ v) (cur.setIfInBounds o v) h1 (by simp at hl ⊢; omega)
    refine ⟨cur', h2, by rw [h3]; simp, fun j u hu => ?_, fun j hj => ?_⟩
    · cases j with
      | zero =>
        simp only [List.getElem?_cons_zero, Option.some.injEq] at hu
        subst hu
        rw [Nat.add_zero, h5 o (.inl (by omega)), Array.getElem?_setIfInBounds_self_of_lt (by simp at hl; omega)]
      | succ j =>
        have := h4 j u (by simpa using hu)
        rw [show o + (j + 1) = o + 1 + j by omega]
        exact this
    · simp only [List.length_cons] at hj
      rw [h5 j (by omega), Array.getElem?_setIfInBounds_ne (by omega)]
theorem setCells_other {b : Nat} : ∀ (vs : List Value) (o : Nat) (w : World) (c : Nat), c ≠ b → (w.setCells b o vs).heap[c]? = w.heap[c]?
  | [], _, _, _, _ => rfl
  | v :: vs, o, w, c, h => by
    rw [World.setCells, setCells_other vs (o + 1) _ c h]
    show (w.heap.modify b _)[c]? = _
    rw [Array.getElem?_modify, if_neg (fun e => h e.symm)]
theorem setCells_same {b : Nat} : ∀ (vs : List Value) (o : Nat) (w : World), (w.setCells b o vs).os = w.os ∧ (w.setCells b o vs).tape = w.tape ∧ (w.setCells b o vs).output = w.output ∧ (w.setCells b o vs).heap.size = w.heap.size
  | [], _, _ => ⟨rfl, rfl, rfl, rfl⟩
  | v :: vs, o, w => by
    obtain ⟨h1, h2, h3, h4⟩ := setCells_same (b := b) vs (o + 1) (w.setCell ⟨b, o, none⟩ v)
    refine ⟨h1, h2, h3, ?_⟩
    rw [World.setCells, h4]
    simp [World.setCell]

/-- What lies where: the cells of numbers. -/
abbrev cellsI (xs : List Int) : List Value := xs.map (Value.int .i64)
theorem elts_int {w : World} {S : Nat → Prop} {cells : Array Value} {off : Nat} {xs : List Int} (h : Elts cells off 1 (Rd w S (.int .i64)) xs) : ∀ j v, (cellsI xs)[j]? = some v → cells[off + j]? = some v := by
  intro j v hv
  rw [List.getElem?_map] at hv
  obtain ⟨x, hx, rfl⟩ := Option.map_eq_some_iff.1 hv
  obtain ⟨cs, h1, h2⟩ := h j x hx
  have h1' : cs = [.int .i64 x] := h1
  subst h1'
  have := h2 0 _ rfl
  simpa using this
theorem int_elts {w : World} {S : Nat → Prop} {cells : Array Value} {off : Nat} {xs : List Int} (h : ∀ j v, (cellsI xs)[j]? = some v → cells[off + j]? = some v) : Elts cells off 1 (Rd w S (.int .i64)) xs := by
  intro i x hx
  refine ⟨[.int .i64 x], rfl, fun j v hv => ?_⟩
  cases j with
  | zero =>
    simp only [List.getElem?_cons_zero, Option.some.injEq] at hv
    subst hv
    have := h i (.int .i64 x) (by rw [List.getElem?_map, hx]; rfl)
    simpa using this
  | succ j => simp at hv
theorem cellsI_one {xs : List Int} : ∀ v ∈ cellsI xs, v.oneCell' = true := by
  intro v hv
  obtain ⟨x, _, rfl⟩ := List.mem_map.1 hv
  rfl
theorem insert_list {xs vs : List Int} {i : Nat} (hi : i ≤ xs.length) : ∀ j v, (cellsI (xs.take i ++ vs ++ xs.drop i))[j]? = some v →
    (j < i ∧ (cellsI xs)[j]? = some v) ∨ (i ≤ j ∧ j < i + vs.length ∧ (cellsI vs)[j - i]? = some v) ∨ (i + vs.length ≤ j ∧ (cellsI (xs.drop i))[j - (i + vs.length)]? = some v) := by
  intro j v hv
  rw [cellsI, List.map_append, List.map_append] at hv
  have hl1 : (List.map (Value.int .i64) (xs.take i)).length = i := by simp; omega
  by_cases h1 : j < i
  · left
    rw [List.append_assoc, List.getElem?_append_left (by rw [hl1]; exact h1), List.map_take, List.getElem?_take, if_pos h1] at hv
    exact ⟨h1, hv⟩
  · by_cases h2 : j < i + vs.length
    · right; left
      rw [List.getElem?_append_left (by simp; omega), List.getElem?_append_right (by omega), hl1] at hv
      exact ⟨by omega, h2, hv⟩
    · right; right
      rw [List.getElem?_append_right (by simp; omega)] at hv
      refine ⟨by omega, ?_⟩
      rw [show (List.map (Value.int .i64) (xs.take i) ++ List.map (Value.int .i64) vs).length = i + vs.length by simp; omega] at hv
      exact hv
@[reducible] def insS : PkS := ⟨[.one (.whole (200000, 0)), .one (.int .i64), .one (.whole (200000, 1))], [((200000, 0), .arr (.int .i64)), ((200000, 1), .arr (.int .i64))]⟩
def insOut (xs : List Int) : Pk := ⟨[.one (.whole (300000, 0)), .one .dead, .one .dead, .one .dead], [((300000, 0), .arr (.int .i64) xs)]⟩
def insK : KPs := fun R p k => match (PkS.un insS p : Option (Int × List Int × List Int × Unit)) with
  | some (i, xs, vs, _) => bif decide (0 ≤ i) && (decide (i ≤ xs.length) && (decide (0 < vs.length) && decide (xs.length + vs.length ≤ LIM))) then k (insOut (xs.take (Int.toNat i) ++ vs ++ xs.drop (Int.toNat i))) else none
  | none => none
abbrev insRt (xs vs : List Int) : Roots := ptab [((200000, 0), .arr (.int .i64) xs), ((200000, 1), .arr (.int .i64) vs)]

section
variable {P : Program}

/-- What has come back: a row of one's own, and of what was there only what one owned has turned. -/
theorem ins_done {Z : Base} {H : Gh} {rt : Roots} {us : List Value} {ys : List Int} {g : Value} {w' : World} (hm : Mem Z rt H Z.w) (hlen : us.length = 3) (hg : ∀ S : Nat → Prop, ArrOk w' S (.int .i64) ys g)
    (hb : ∀ b, Bk g b → Owns rt H b ∨ Z.w.heap.size ≤ b) (hos : w'.os = Z.w.os) (htp : w'.tape = Z.w.tape) (hout : w'.output = Z.w.output) (hsz : Z.w.heap.size ≤ w'.heap.size)
    (hk : ∀ c, c < Z.w.heap.size → ¬ Owns rt H c → w'.heap[c]? = Z.w.heap[c]?) : ∃ H', PkOk Z (insOut ys) (g :: us) w' H' := by
  refine ⟨fun _ => g, ?_, ?_⟩
  · match us, hlen with
    | [_, _, _], _ => exact ⟨show RowRel (ptab (insOut ys).rt) (300000, 0) (g.oneCell' = true) (fun _ _ => g = g) from ⟨rfl, by
        rcases hg (fun _ => True) with ⟨_, a, h⟩ | ⟨b, off, cap, cells, t, h, _⟩ <;> rw [h] <;> rfl⟩, trivial, trivial, trivial, trivial⟩
  · have hl : ∀ r x, look (ptab (insOut ys).rt) r = some (some x) → r = (300000, 0) ∧ x = .arr (.int .i64) ys := by
      intro r x h
      simp only [insOut, ptab, List.map_cons, List.map_nil, look] at h
      cases hb : Rid.beq r (300000, 0) with
      | true => rw [hb] at h; simp at h; exact ⟨Rid.eq_of_beq hb, h.symm⟩
      | false => rw [hb] at h; simp at h
    refine ⟨fun r x h => ?_, fun r r' x x' b h h' _ _ _ _ => by rw [(hl r x h).1, (hl r' x' h').1], fun b ⟨r, x, h, _, h2⟩ => ?_, ⟨hos, htp, hout, hsz, fun b h1 h2 => hk b h1 fun h3 => ?_⟩⟩
    · obtain ⟨rfl, rfl⟩ := hl r x h
      exact hg _
    · rcases hb b h2 with h3 | h3
      · exact hm.base b h3
      · exact .inr h3
    · rcases hm.base b h3 with h4 | h4
      · exact h2 h4
      · omega

theorem insert_ok {ρ : Shelf.Ren} (L : Proofs.Lays2.n21 P ρ) {f : Nat} (hρ : ρ.f 21 = f) {fn : Func} {c : Code} (hf : P.funcs[f]? = some fn) (hb : fn.body = some c) (hn : (fn.name == "runtime.NumGoroutine") = false) : FnOk P f insK where
  nat R S' g p k := by
    unfold insK
    split
    · rename_i i xs vs _ _
      cases decide (0 ≤ i) && (decide (i ≤ xs.length) && (decide (0 < vs.length) && decide (xs.length + vs.length ≤ LIM))) <;> rfl
    · rfl
  ok p q hq Z vals H hv hp := by
    unfold insK at hq
    split at hq
    case h_2 => cases hq
    rename_i i xs vs u hu
    have hpk := PkS.un_pack hu
    subst hpk
    cases hcond : decide (0 ≤ i) && (decide (i ≤ xs.length) && (decide (0 < vs.length) && decide (xs.length + vs.length ≤ LIM))) with
    | false => rw [hcond] at hq; cases hq
    | true =>
      rw [hcond] at hq
      simp only [Bool.and_eq_true, decide_eq_true_eq] at hcond
      obtain ⟨hi0, hi1, hv0, hlim⟩ := hcond
      have hq' : insOut (xs.take (Int.toNat i) ++ vs ++ xs.drop (Int.toNat i)) = q := Option.some.inj hq
      subst hq'
      obtain ⟨n, rfl⟩ : ∃ n : Nat, i = n := ⟨i.toNat, by omega⟩
      rw [Int.toNat_natCast]
      have hin : n ≤ xs.length := by omega
      have ha : All2 (AVRel (AtomRel Z.w (Stab Z (insRt xs vs) H Z.w) (insRt xs vs) H)) [.one (.whole (200000, 0)), .one (.int .i64 n), .one (.whole (200000, 1))] vals.toList := hp.args
      have hm : Mem Z (insRt xs vs) H Z.w := hp.mem
      have l0 : look (insRt xs vs) (200000, 0) = some (some (.arr (.int .i64) xs)) := rfl
      have l1 : look (insRt xs vs) (200000, 1) = some (some (.arr (.int .i64) vs)) := rfl
      obtain ⟨u0, u1, u2, hvals⟩ : ∃ u0 u1 u2, vals = #[u0, u1, u2] := by
        have := ha.length
        simp only [List.length_cons, List.length_nil, Array.length_toList] at this
        exact ⟨vals[0], vals[1], vals[2], by apply Array.ext <;> simp [← this] ; intro i hi1 hi2; match i, hi2 with | 0, _ => rfl | 1, _ => rfl | 2, _ => rfl⟩
      subst hvals
      have e0 : u0 = H (200000, 0) := RowRel.row (show RowRel (insRt xs vs) (200000, 0) (u0.oneCell' = true) (fun _ _ => u0 = H (200000, 0)) from ha.1) (.inl ⟨rfl, l0⟩)
      have e1 : u1 = .int .i64 n := ha.2.1
      have e2 : u2 = H (200000, 1) := RowRel.row (show RowRel (insRt xs vs) (200000, 1) (u2.oneCell' = true) (fun _ _ => u2 = H (200000, 1)) from ha.2.2.1) (.inl ⟨rfl, l1⟩)
      have o0 : ArrOk Z.w (Stab Z (insRt xs vs) H Z.w) (.int .i64) xs (H (200000, 0)) := hm.roots _ _ l0
      have o1 : ArrOk Z.w (Stab Z (insRt xs vs) H Z.w) (.int .i64) vs (H (200000, 1)) := hm.roots _ _ l1
      unfold LIM at hlim
      rcases o1 with ⟨h, _⟩ | ⟨b2, off2, cap2, cells2, t2, g2, c2, ⟨p2, q2⟩, m2, f2, el2⟩
      · rw [h] at hv0; simp at hv0
      have el2 := elts_int el2
      have r2 : ∀ j v, (cellsI vs)[j]? = some v → Z.w.cell? ⟨b2, off2 + j, none⟩ = some v := fun j v hj => by
        have := el2 j v hj
        simp [World.cell?, m2, this]
      have vl : (cellsI vs).length = vs.length := by simp
      have hown2 : Owns (insRt xs vs) H b2 := ⟨_, _, l1, rfl, by rw [g2]; simp [Bk, blkOf]; omega⟩
      refine Does.of_calls hf hb hn ?_
      rw [← hρ, e1, e2, g2]
      have fin : ∀ {g : Value} {w' : World}, (∀ S : Nat → Prop, ArrOk w' S (.int .i64) (xs.take n ++ vs ++ xs.drop n) g) → (∀ b, Bk g b → Owns (insRt xs vs) H b ∨ Z.w.heap.size ≤ b) → w'.os = Z.w.os → w'.tape = Z.w.tape → w'.output = Z.w.output → Z.w.heap.size ≤ w'.heap.size →
          (∀ c, c < Z.w.heap.size → ¬ Owns (insRt xs vs) H c → w'.heap[c]? = Z.w.heap[c]?) → ∃ v, Ending.returned g = .returned v ∧ ∃ H', PkOk Z (insOut (xs.take n ++ vs ++ xs.drop n)) (v :: [u0, .int .i64 n, .slice (some ⟨b2, off2, none⟩) vs.length cap2]) w' H' :=
        fun h1 h2 h3 h4 h5 h6 h7 => ⟨_, rfl, ins_done hm rfl h1 h2 h3 h4 h5 h6 h7⟩
      have zs : ∀ k, (Builtin.zeroCells (Value.int .i64 0).cells k).size = k := fun k => by simp [Builtin.zeroCells, Value.cells]
      have newOk : ∀ (w' : World) (cells : Array Value) (t : TypeId) (b cap : Nat), w'.heap[b]? = some (.cells cells t (0, 0)) → xs.length + vs.length ≤ cap → cap ≤ cells.size → cap ≤ 9223372036854775807 →
          (∀ (j : Nat) (v : Value), (cellsI (xs.take n ++ vs ++ xs.drop n))[j]? = some v → cells[j]? = some v) → ∀ S : Nat → Prop, ArrOk w' S (.int .i64) (xs.take n ++ vs ++ xs.drop n) (.slice (some ⟨b, 0, none⟩) (xs.length + vs.length) cap) := by
        intro w' cells t b cap h1 h2 h3 h4 h5 S
        have hl : (xs.take n ++ vs ++ xs.drop n).length = xs.length + vs.length := by simp; omega
        refine .inr ⟨b, 0, cap, cells, t, by rw [hl], by rw [hl]; exact h2, ⟨by omega, h4⟩, h1, by simp [Kd.size]; omega, int_elts fun j v hj => ?_⟩
        rw [Nat.zero_add]
        exact h5 j v hj
      have big : (xs.length + vs.length) * 8 ≤ 140737488355328 := by omega
      have blkNew : ∀ (c : Nat) b, Bk (.slice (some ⟨Z.w.heap.size, 0, none⟩) (xs.length + vs.length) c) b → Owns (insRt xs vs) H b ∨ Z.w.heap.size ≤ b := fun c b h => by
        simp [Bk, blkOf] at h
        exact .inr (by omega)
      have capOk : ∀ c ty, grownCap Z.w (xs.length + vs.length) c ty ≤ 9223372036854775807 := fun c ty => by
        have := grownCap_le_maxLen Z.w (xs.length + vs.length) c ty (by unfold maxLen; omega)
        unfold maxLen at this
        exact this
      rcases o0 with ⟨h, ad, g1⟩ | ⟨b1, off1, cap1, cells1, t1, g1, c1, ⟨p1, q1⟩, m1, f1, el1⟩
      · -- nothing was there
        subst h
        have hn0 : n = 0 := by simpa using hin
        subst hn0
        have e0' := e0.trans g1
        subst e0'
        have := Proofs.Any2.slices_Insert_int_end_grow L ad 0 0 b2 off2 vs.length cap2 [] (cellsI vs) Z.w hv0 (Nat.le_refl _) (by omega) (by simpa using big) rfl vl (fun _ => rfl) (fun a _ j v hj => by simp at hj) r2 cellsI_one
        refine Calls.mono this fun e w' he => ?_
        obtain ⟨rfl, rfl⟩ := he
        have hge := grownCap_ge Z.w (0 + vs.length) 0 (ρ.t 3)
        refine fin ?_ (fun b h => ?_) rfl rfl rfl (by simp) (fun c h1 h2 => heap_alloc_old Z.w.drew _ h1)
        · have h3 := newOk (Z.w.drew.alloc (.cells (([] ++ cellsI vs).toArray ++ Builtin.zeroCells (Value.int .i64 0).cells (grownCap Z.w (0 + vs.length) 0 (ρ.t 3) - (0 + vs.length))) (ρ.t 3))) _ _ Z.w.heap.size (grownCap Z.w (0 + vs.length) 0 (ρ.t 3)) (heap_alloc_new Z.w.drew _) (by simpa using hge) (by rw [Array.size_append, zs]; simp; omega) (by simpa using capOk 0 (ρ.t 3)) (fun j v hj => by
            have : (cellsI vs)[j]? = some v := by simpa using hj
            have hlt := (List.getElem?_eq_some_iff.1 this).1
            rw [Array.getElem?_append_left (by simpa using hlt)]
            simpa using this)
          simpa using h3
        · have := blkNew (grownCap Z.w (0 + vs.length) 0 (ρ.t 3)) b
          simp only [List.length_nil] at this
          exact this h
      · have e0' := e0.trans g1
        subst e0'
        have el1 := elts_int el1
        have r1 : ∀ j v, (cellsI xs)[j]? = some v → Z.w.cell? ⟨b1, off1 + j, none⟩ = some v := fun j v hj => by
          have := el1 j v hj
          simp [World.cell?, m1, this]
        have xl : (cellsI xs).length = xs.length := by simp
        have f1' : off1 + cap1 ≤ cells1.size := by simpa [Kd.size] using f1
        have hown1 : Owns (insRt xs vs) H b1 := ⟨_, _, l0, rfl, by rw [g1]; simp [Bk, blkOf]; omega⟩
        have hlt1 : b1 < Z.w.heap.size := (Array.getElem?_eq_some_iff.1 m1).1
        have hne : b2 ≠ b1 := fun h => by
          subst h
          have := hm.sep _ _ _ _ b2 l0 l1 rfl rfl (by rw [g1]; simp [Bk, blkOf]; omega) (by rw [g2]; simp [Bk, blkOf]; omega)
          cases this
        have blkOld : ∀ b, Bk (.slice (some ⟨b1, off1, none⟩) (xs.length + vs.length) cap1) b → Owns (insRt xs vs) H b ∨ Z.w.heap.size ≤ b := fun b h => by
          simp [Bk, blkOf] at h
          obtain ⟨_, rfl⟩ := h
          exact .inl hown1
        have dl : (cellsI (xs.drop n)).length = xs.length - n := by simp
        have dropEq : (cellsI xs).drop n = cellsI (xs.drop n) := by simp [cellsI, List.map_drop]
        have takeEq : (cellsI xs).take n = cellsI (xs.take n) := by simp [cellsI, List.map_take]
        have hl : (xs.take n ++ vs ++ xs.drop n).length = xs.length + vs.length := by simp; omega
        by_cases hroom : xs.length + vs.length ≤ cap1
        · have sp : ∀ j, j < xs.length + vs.length → (Z.w.cell? ⟨b1, off1 + j, none⟩).isSome = true := fun j hj => by
            have : off1 + j < cells1.size := by omega
            simp [World.cell?, m1, this]
          have fz : ∀ j, Z.w.frozen? ⟨b1, j, none⟩ = false := fun j => by simp [World.frozen?, m1]
          have oldOk : ∀ (w' : World) (cells : Array Value), w'.heap[b1]? = some (.cells cells t1 (0, 0)) → cells.size = cells1.size →
              (∀ (j : Nat) (v : Value), (cellsI (xs.take n ++ vs ++ xs.drop n))[j]? = some v → cells[off1 + j]? = some v) → ∀ S : Nat → Prop, ArrOk w' S (.int .i64) (xs.take n ++ vs ++ xs.drop n) (.slice (some ⟨b1, off1, none⟩) (xs.length + vs.length) cap1) := by
            intro w' cells h1 h2 h5 S
            exact .inr ⟨b1, off1, cap1, cells, t1, by rw [hl], by rw [hl]; exact hroom, ⟨by omega, q1⟩, h1, by simp [Kd.size]; omega, int_elts h5⟩
          by_cases hend : n = xs.length
          · subst hend
            have := Proofs.Any2.slices_Insert_int_end_room L b1 off1 xs.length cap1 b2 off2 vs.length cap2 (cellsI vs) Z.w hv0 hroom q1 vl (fun j hj => by rw [Nat.add_assoc]; exact sp _ (by omega)) (fun j _ => fz _) r2 cellsI_one
            refine Calls.mono this fun e w' he => ?_
            obtain ⟨rfl, rfl⟩ := he
            obtain ⟨s1, s2, s3, s4⟩ := setCells_same (b := b1) (cellsI vs) (off1 + xs.length) Z.w
            obtain ⟨cur, k1, k2, k3, k4⟩ := setCells_at (cellsI vs) (off1 + xs.length) Z.w cells1 m1 (by rw [vl]; omega)
            refine fin (oldOk _ cur k1 k2 fun j v hj => ?_) blkOld s1 s2 s3 (by rw [s4]; exact Nat.le_refl _) (fun c h1 h2 => setCells_other _ _ _ c fun h => h2 (h ▸ hown1))
            rcases insert_list (Nat.le_refl _) j v hj with ⟨h1, h2⟩ | ⟨h1, h2, h3⟩ | ⟨h1, h2⟩
            · rw [k4 _ (.inl (by omega))]; exact el1 j v h2
            · have := k3 _ v h3
              rw [show off1 + xs.length + (j - xs.length) = off1 + j by omega] at this
              exact this
            · simp at h2
          · have := Proofs.Any2.slices_Insert_int_shift L b1 off1 xs.length cap1 n b2 off2 vs.length cap2 (cellsI xs) (cellsI vs) Z.w (by omega) hv0 hroom q1 hne xl vl r1 sp (fun j _ => fz _) r2 cellsI_one cellsI_one
              t2 t1 cells2.size cells1.size (by simp [World.shape?, m2]) (by simp [World.shape?, m1]) (by omega) (by simp [World.frozen?, m2]) (by simp [World.frozen?, m2])
            refine Calls.mono this fun e w' he => ?_
            obtain ⟨rfl, rfl⟩ := he
            rw [dropEq]
            obtain ⟨s1, s2, s3, s4⟩ := setCells_same (b := b1) (cellsI (xs.drop n)) (off1 + (n + vs.length)) Z.w.drew
            obtain ⟨u1, u2, u3, u4⟩ := setCells_same (b := b1) (cellsI vs) (off1 + n) (Z.w.drew.setCells b1 (off1 + (n + vs.length)) (cellsI (xs.drop n)))
            obtain ⟨cur, k1, k2, k3, k4⟩ := setCells_at (cellsI (xs.drop n)) (off1 + (n + vs.length)) Z.w.drew cells1 m1 (by rw [dl]; omega)
            obtain ⟨cur', j1, j2, j3, j4⟩ := setCells_at (cellsI vs) (off1 + n) _ cur k1 (by rw [vl, k2]; omega)
            refine fin (oldOk _ cur' j1 (by rw [j2, k2]) fun j v hj => ?_) blkOld (by rw [u1, s1]; rfl) (by rw [u2, s2]; rfl) (by rw [u3, s3]; rfl) (by rw [u4, s4]; exact Nat.le_refl _)
              (fun c h1 h2 => by rw [setCells_other _ _ _ c fun h => h2 (h ▸ hown1), setCells_other _ _ _ c fun h => h2 (h ▸ hown1)]; rfl)
            rcases insert_list hin j v hj with ⟨h1, h2⟩ | ⟨h1, h2, h3⟩ | ⟨h1, h2⟩
            · rw [j4 _ (.inl (by omega)), k4 _ (.inl (by omega))]; exact el1 j v h2
            · have := j3 _ v h3
              rw [show off1 + n + (j - n) = off1 + j by omega] at this
              exact this
            · have := k3 _ v h2
              rw [show off1 + (n + vs.length) + (j - (n + vs.length)) = off1 + j by omega] at this
              rw [j4 _ (.inr (by rw [vl]; omega))]
              exact this
        · by_cases hend : n = xs.length
          · subst hend
            have := Proofs.Any2.slices_Insert_int_end_grow L (some ⟨b1, off1, none⟩) xs.length cap1 b2 off2 vs.length cap2 (cellsI xs) (cellsI vs) Z.w hv0 c1 (by omega) big xl vl (fun h => by cases h) (fun a h j v hj => by cases h; rw [addr_add]; exact r1 j v hj) r2 cellsI_one
            refine Calls.mono this fun e w' he => ?_
            obtain ⟨rfl, rfl⟩ := he
            have hge := grownCap_ge Z.w (xs.length + vs.length) cap1 (ρ.t 3)
            refine fin (newOk _ _ _ _ _ (heap_alloc_new Z.w.drew _) hge (by rw [Array.size_append, zs]; simp; omega) (capOk _ _) fun j v hj => ?_) (blkNew _) rfl rfl rfl (by simp) (fun c h1 h2 => heap_alloc_old Z.w.drew _ h1)
            have hj' : (cellsI xs ++ cellsI vs)[j]? = some v := by
              rw [cellsI, List.take_of_length_le (Nat.le_refl _), List.drop_of_length_le (Nat.le_refl _), List.append_nil, List.map_append] at hj
              exact hj
            have hlt := (List.getElem?_eq_some_iff.1 hj').1
            rw [Array.getElem?_append_left (by simpa using hlt)]
            simpa using hj'
          · have := Proofs.Any2.slices_Insert_int_grow L b1 off1 xs.length cap1 n b2 off2 vs.length cap2 (cellsI xs) (cellsI vs) Z.w (by omega) hv0 c1 (by omega) big xl vl r1 r2 cellsI_one cellsI_one
            refine Calls.mono this fun e w' he => ?_
            obtain ⟨rfl, rfl⟩ := he
            rw [dropEq, takeEq]
            have hge := grownCap_ge Z.w (xs.length + vs.length) cap1 (ρ.t 3)
            generalize hG : grownCap Z.w (xs.length + vs.length) cap1 (ρ.t 3) = G at hge ⊢
            have hcap := capOk cap1 (ρ.t 3)
            rw [hG] at hcap
            generalize hR : (cellsI (xs.take n)).toArray ++ Builtin.zeroCells (Value.int .i64 0).cells (xs.length + vs.length - n) ++ Builtin.zeroCells (Value.int .i64 0).cells (G - (xs.length + vs.length)) = ROW
            have hRs : ROW.size = G := by
              rw [← hR, Array.size_append, Array.size_append, zs, zs]
              simp
              omega
            have hW : ((Z.w.alloc (.cells ROW (ρ.t 3))).drew).heap[Z.w.heap.size]? = some (.cells ROW (ρ.t 3) (0, 0)) := heap_alloc_new Z.w _
            obtain ⟨s1, s2, s3, s4⟩ := setCells_same (b := Z.w.heap.size) (cellsI vs) n (Z.w.alloc (.cells ROW (ρ.t 3))).drew
            obtain ⟨u1, u2, u3, u4⟩ := setCells_same (b := Z.w.heap.size) (cellsI (xs.drop n)) (n + vs.length) (((Z.w.alloc (.cells ROW (ρ.t 3))).drew.setCells Z.w.heap.size n (cellsI vs)).drew)
            obtain ⟨cur, k1, k2, k3, k4⟩ := setCells_at (cellsI vs) n (Z.w.alloc (.cells ROW (ρ.t 3))).drew ROW hW (by rw [vl]; omega)
            obtain ⟨cur', j1, j2, j3, j4⟩ := setCells_at (cellsI (xs.drop n)) (n + vs.length) (((Z.w.alloc (.cells ROW (ρ.t 3))).drew.setCells Z.w.heap.size n (cellsI vs)).drew) cur k1 (by rw [dl, k2]; omega)
            refine fin (newOk _ _ _ _ _ j1 hge (by rw [j2, k2]; omega) hcap fun j v hj => ?_) (blkNew _) (by rw [u1]; show (_ : World).os = _; rw [show ∀ X : World, X.drew.os = X.os from fun _ => rfl, s1]; rfl) (by rw [u2]; rw [show ∀ X : World, X.drew.tape = X.tape from fun _ => rfl, s2]; rfl) (by rw [u3]; rw [show ∀ X : World, X.drew.output = X.output from fun _ => rfl, s3]; rfl)
              (by rw [u4, World.size_drew, s4]; simp) (fun c h1 h2 => by
                rw [setCells_other _ _ _ c (by omega)]
                show ((Z.w.alloc (.cells ROW (ρ.t 3))).drew.setCells Z.w.heap.size n (cellsI vs)).heap[c]? = _
                rw [setCells_other _ _ _ c (by omega)]
                exact heap_alloc_old Z.w _ h1)
            rcases insert_list hin j v hj with ⟨h1, h2⟩ | ⟨h1, h2, h3⟩ | ⟨h1, h2⟩
            · rw [j4 _ (.inl (by omega)), k4 _ (.inl (by omega)), ← hR]
              have : (cellsI (xs.take n))[j]? = some v := by
                rw [← takeEq, List.getElem?_take, if_pos h1]; exact h2
              have hlt := (List.getElem?_eq_some_iff.1 this).1
              rw [Array.append_assoc, Array.getElem?_append_left (by simpa using hlt)]
              simpa using this
            · have := k3 _ v h3
              rw [show n + (j - n) = j by omega] at this
              rw [j4 _ (.inl (by omega))]
              exact this
            · have := j3 _ v h2
              rw [show n + vs.length + (j - (n + vs.length)) = j by omega] at this
              exact this
end
end Go.Am
