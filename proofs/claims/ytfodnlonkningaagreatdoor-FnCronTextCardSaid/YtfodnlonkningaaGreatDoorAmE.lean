/- slices.Insert and slices.Delete of texts, by their contracts on the shelf. -/
import Derived.Test.YtfodnlonkningaaGreatDoorAmD
import Derived.Shelf.Slices.Delete
import Derived.Lib.RowBridge
set_option linter.unusedVariables false
set_option linter.unusedSimpArgs false
namespace Go.Am
open Go

/-! ### slices.Insert of texts, slices.Delete of texts -/

/-- What lies where: the cells of numbers. -/
abbrev cellsZ (xs : List ByteArray) : List Value := xs.map Value.string
theorem elts_str {w : World} {S : Nat → Prop} {cells : Array Value} {off : Nat} {xs : List ByteArray} (h : Elts cells off 1 (Rd w S .str) xs) : ∀ j v, (cellsZ xs)[j]? = some v → cells[off + j]? = some v := by
  intro j v hv
  rw [List.getElem?_map] at hv
  obtain ⟨x, hx, rfl⟩ := Option.map_eq_some_iff.1 hv
  obtain ⟨cs, h1, h2⟩ := h j x hx
  have h1' : cs = [.string x] := h1
  subst h1'
  have := h2 0 _ rfl
  simpa using this
theorem str_elts {w : World} {S : Nat → Prop} {cells : Array Value} {off : Nat} {xs : List ByteArray} (h : ∀ j v, (cellsZ xs)[j]? = some v → cells[off + j]? = some v) : Elts cells off 1 (Rd w S .str) xs := by
  intro i x hx
  refine ⟨[.string x], rfl, fun j v hv => ?_⟩
  cases j with
  | zero =>
    simp only [List.getElem?_cons_zero, Option.some.injEq] at hv
    subst hv
    have := h i (.string x) (by rw [List.getElem?_map, hx]; rfl)
    simpa using this
  | succ j => simp at hv
theorem cellsZ_one {xs : List ByteArray} : ∀ v ∈ cellsZ xs, v.oneCell' = true := by
  intro v hv
  obtain ⟨x, _, rfl⟩ := List.mem_map.1 hv
  rfl
theorem insertZ_list {xs vs : List ByteArray} {i : Nat} (hi : i ≤ xs.length) : ∀ j v, (cellsZ (xs.take i ++ vs ++ xs.drop i))[j]? = some v →
    (j < i ∧ (cellsZ xs)[j]? = some v) ∨ (i ≤ j ∧ j < i + vs.length ∧ (cellsZ vs)[j - i]? = some v) ∨ (i + vs.length ≤ j ∧ (cellsZ (xs.drop i))[j - (i + vs.length)]? = some v) := by
  intro j v hv
  rw [cellsZ, List.map_append, List.map_append] at hv
  have hl1 : (List.map Value.string (xs.take i)).length = i := by simp; omega
  by_cases h1 : j < i
  · left
    rw [List.append_assoc, List.getElem?_append_left (by rw [hl1]; exact h1), List.map_take, List.getElem?_take, if_pos h1] at hv
    exact ⟨h1, hv⟩
  · by_cases h2 : j < i + vs.length
    · right; left
      rw [List.getElem?_append_left (by simp; omega), List.getElem?_append_right (by omega), hl1] at hv
      exact ⟨by omega, h2, hv⟩
    · right; right
      rw [List.getElem?_append_right (by simp; omega)] at hv
      refine ⟨by omega, ?_⟩
      rw [show (List.map Value.string (xs.take i) ++ List.map Value.string vs).length = i + vs.length by simp; omega] at hv
      exact hv
@[reducible] def insZS : PkS := ⟨[.one (.whole (200000, 0)), .one (.int .i64), .one (.whole (200000, 1))], [((200000, 0), .arr .str), ((200000, 1), .arr .str)]⟩
def insZOut (xs : List ByteArray) : Pk := ⟨[.one (.whole (300000, 0)), .one .dead, .one .dead, .one .dead], [((300000, 0), .arr .str xs)]⟩
def insZK : KPs := fun R p k => match (PkS.un insZS p : Option (Int × List ByteArray × List ByteArray × Unit)) with
  | some (i, xs, vs, _) => bif decide (0 ≤ i) && (decide (i ≤ xs.length) && (decide (0 < vs.length) && decide (xs.length + vs.length ≤ LIM))) then k (insZOut (xs.take (Int.toNat i) ++ vs ++ xs.drop (Int.toNat i))) else none
  | none => none
abbrev insZRt (xs vs : List ByteArray) : Roots := ptab [((200000, 0), .arr .str xs), ((200000, 1), .arr .str vs)]

section
variable {P : Program}

/-- What has come back: a row of one's own, and of what was there only what one owned has turned. -/
theorem insZ_done {Z : Base} {H : Gh} {rt : Roots} {us : List Value} {ys : List ByteArray} {g : Value} {w' : World} (hm : Mem Z rt H Z.w) (hlen : us.length = 3) (hg : ∀ S : Nat → Prop, ArrOk w' S .str ys g)
    (hb : ∀ b, Bk g b → Owns rt H b ∨ Z.w.heap.size ≤ b) (hos : w'.os = Z.w.os) (htp : w'.tape = Z.w.tape) (hout : w'.output = Z.w.output) (hsz : Z.w.heap.size ≤ w'.heap.size)
    (hk : ∀ c, c < Z.w.heap.size → ¬ Owns rt H c → w'.heap[c]? = Z.w.heap[c]?) : ∃ H', PkOk Z (insZOut ys) (g :: us) w' H' := by
  refine ⟨fun _ => g, ?_, ?_⟩
  · match us, hlen with
    | [_, _, _], _ => exact ⟨show RowRel (ptab (insZOut ys).rt) (300000, 0) (g.oneCell' = true) (fun _ _ => g = g) from ⟨rfl, by
        rcases hg (fun _ => True) with ⟨_, a, h⟩ | ⟨b, off, cap, cells, t, h, _⟩ <;> rw [h] <;> rfl⟩, trivial, trivial, trivial, trivial⟩
  · have hl : ∀ r x, look (ptab (insZOut ys).rt) r = some (some x) → r = (300000, 0) ∧ x = .arr .str ys := by
      intro r x h
      simp only [insZOut, ptab, List.map_cons, List.map_nil, look] at h
      cases hb : Rid.beq r (300000, 0) with
      | true => rw [hb] at h; simp at h; exact ⟨Rid.eq_of_beq hb, h.symm⟩
      | false => rw [hb] at h; simp at h
    refine ⟨fun r x h => ?_, fun r r' x x' b h h' _ _ _ _ => by rw [(hl r x h).1, (hl r' x' h').1], fun b ⟨r, x, h, _, h2⟩ => ?_, ⟨hos, htp, hout, hsz, fun b h1 h2 => hk b h1 fun h3 => ?_⟩⟩
    · obtain ⟨rfl, rfl⟩ := hl r x h
      exact hg _
    · rcases hb b h2 with h3 | h3
      · exact hm.base b h3
      · exact .inr h3
    · rcases hm.base b h3 with h4 | h4
      · exact h2 h4
      · omega

theorem insertZ_ok {ρ : Shelf.Ren} (L : Proofs.Lays2.n22 P ρ) {f : Nat} (hρ : ρ.f 22 = f) {fn : Func} {c : Code} (hf : P.funcs[f]? = some fn) (hb : fn.body = some c) (hn : (fn.name == "runtime.NumGoroutine") = false) : FnOk P f insZK where
  nat R S' g p k := by
    unfold insZK
    split
    · rename_i i xs vs _ _
      cases decide (0 ≤ i) && (decide (i ≤ xs.length) && (decide (0 < vs.length) && decide (xs.length + vs.length ≤ LIM))) <;> rfl
    · rfl
  ok p q hq Z vals H hv hp := by
    unfold insZK at hq
    split at hq
    case h_2 => cases hq
    rename_i i xs vs u hu
    have hpk := PkS.un_pack hu
    subst hpk
    cases hcond : decide (0 ≤ i) && (decide (i ≤ xs.length) && (decide (0 < vs.length) && decide (xs.length + vs.length ≤ LIM))) with
    | false => rw [hcond] at hq; cases hq
    | true =>
      rw [hcond] at hq
      simp only [Bool.and_eq_true, decide_eq_true_eq] at hcond
      obtain ⟨hi0, hi1, hv0, hlim⟩ := hcond
      have hq' : insZOut (xs.take (Int.toNat i) ++ vs ++ xs.drop (Int.toNat i)) = q := Option.some.inj hq
      subst hq'
      obtain ⟨n, rfl⟩ : ∃ n : Nat, i = n := ⟨i.toNat, by omega⟩
      rw [Int.toNat_natCast]
      have hin : n ≤ xs.length := by omega
      have ha : All2 (AVRel (AtomRel Z.w (Stab Z (insZRt xs vs) H Z.w) (insZRt xs vs) H)) [.one (.whole (200000, 0)), .one (.int .i64 n), .one (.whole (200000, 1))] vals.toList := hp.args
      have hm : Mem Z (insZRt xs vs) H Z.w := hp.mem
      have l0 : look (insZRt xs vs) (200000, 0) = some (some (.arr .str xs)) := rfl
      have l1 : look (insZRt xs vs) (200000, 1) = some (some (.arr .str vs)) := rfl
      obtain ⟨u0, u1, u2, hvals⟩ : ∃ u0 u1 u2, vals = #[u0, u1, u2] := by
        have := ha.length
        simp only [List.length_cons, List.length_nil, Array.length_toList] at this
        exact ⟨vals[0], vals[1], vals[2], by apply Array.ext <;> simp [← this] ; intro i hi1 hi2; match i, hi2 with | 0, _ => rfl | 1, _ => rfl | 2, _ => rfl⟩
      subst hvals
      have e0 : u0 = H (200000, 0) := RowRel.row (show RowRel (insZRt xs vs) (200000, 0) (u0.oneCell' = true) (fun _ _ => u0 = H (200000, 0)) from ha.1) (.inl ⟨rfl, l0⟩)
      have e1 : u1 = .int .i64 n := ha.2.1
      have e2 : u2 = H (200000, 1) := RowRel.row (show RowRel (insZRt xs vs) (200000, 1) (u2.oneCell' = true) (fun _ _ => u2 = H (200000, 1)) from ha.2.2.1) (.inl ⟨rfl, l1⟩)
      have o0 : ArrOk Z.w (Stab Z (insZRt xs vs) H Z.w) .str xs (H (200000, 0)) := hm.roots _ _ l0
      have o1 : ArrOk Z.w (Stab Z (insZRt xs vs) H Z.w) .str vs (H (200000, 1)) := hm.roots _ _ l1
      unfold LIM at hlim
      rcases o1 with ⟨h, _⟩ | ⟨b2, off2, cap2, cells2, t2, g2, c2, ⟨p2, q2⟩, m2, f2, el2⟩
      · rw [h] at hv0; simp at hv0
      have el2 := elts_str el2
      have r2 : ∀ j v, (cellsZ vs)[j]? = some v → Z.w.cell? ⟨b2, off2 + j, none⟩ = some v := fun j v hj => by
        have := el2 j v hj
        simp [World.cell?, m2, this]
      have vl : (cellsZ vs).length = vs.length := by simp
      have hown2 : Owns (insZRt xs vs) H b2 := ⟨_, _, l1, rfl, by rw [g2]; simp [Bk, blkOf]; omega⟩
      refine Does.of_calls hf hb hn ?_
      rw [← hρ, e1, e2, g2]
      have fin : ∀ {g : Value} {w' : World}, (∀ S : Nat → Prop, ArrOk w' S .str (xs.take n ++ vs ++ xs.drop n) g) → (∀ b, Bk g b → Owns (insZRt xs vs) H b ∨ Z.w.heap.size ≤ b) → w'.os = Z.w.os → w'.tape = Z.w.tape → w'.output = Z.w.output → Z.w.heap.size ≤ w'.heap.size →
          (∀ c, c < Z.w.heap.size → ¬ Owns (insZRt xs vs) H c → w'.heap[c]? = Z.w.heap[c]?) → ∃ v, Ending.returned g = .returned v ∧ ∃ H', PkOk Z (insZOut (xs.take n ++ vs ++ xs.drop n)) (v :: [u0, .int .i64 n, .slice (some ⟨b2, off2, none⟩) vs.length cap2]) w' H' :=
        fun h1 h2 h3 h4 h5 h6 h7 => ⟨_, rfl, insZ_done hm rfl h1 h2 h3 h4 h5 h6 h7⟩
      have zs : ∀ k, (Builtin.zeroCells (Value.string ⟨#[]⟩).cells k).size = k := fun k => by simp [Builtin.zeroCells, Value.cells]
      have newOk : ∀ (w' : World) (cells : Array Value) (t : TypeId) (b cap : Nat), w'.heap[b]? = some (.cells cells t (0, 0)) → xs.length + vs.length ≤ cap → cap ≤ cells.size → cap ≤ 9223372036854775807 →
          (∀ (j : Nat) (v : Value), (cellsZ (xs.take n ++ vs ++ xs.drop n))[j]? = some v → cells[j]? = some v) → ∀ S : Nat → Prop, ArrOk w' S .str (xs.take n ++ vs ++ xs.drop n) (.slice (some ⟨b, 0, none⟩) (xs.length + vs.length) cap) := by
        intro w' cells t b cap h1 h2 h3 h4 h5 S
        have hl : (xs.take n ++ vs ++ xs.drop n).length = xs.length + vs.length := by simp; omega
        refine .inr ⟨b, 0, cap, cells, t, by rw [hl], by rw [hl]; exact h2, ⟨by omega, h4⟩, h1, by simp [Kd.size]; omega, str_elts fun j v hj => ?_⟩
        rw [Nat.zero_add]
        exact h5 j v hj
      have big : (xs.length + vs.length) * 16 ≤ 140737488355328 := by omega
      have blkNew : ∀ (c : Nat) b, Bk (.slice (some ⟨Z.w.heap.size, 0, none⟩) (xs.length + vs.length) c) b → Owns (insZRt xs vs) H b ∨ Z.w.heap.size ≤ b := fun c b h => by
        simp [Bk, blkOf] at h
        exact .inr (by omega)
      have capOk : ∀ c ty, grownCap Z.w (xs.length + vs.length) c ty ≤ 9223372036854775807 := fun c ty => by
        have := grownCap_le_maxLen Z.w (xs.length + vs.length) c ty (by unfold maxLen; omega)
        unfold maxLen at this
        exact this
      rcases o0 with ⟨h, ad, g1⟩ | ⟨b1, off1, cap1, cells1, t1, g1, c1, ⟨p1, q1⟩, m1, f1, el1⟩
      · -- nothing was there
        subst h
        have hn0 : n = 0 := by simpa using hin
        subst hn0
        have e0' := e0.trans g1
        subst e0'
        have := Proofs.Any2.slices_Insert_string_end_grow L ad 0 0 b2 off2 vs.length cap2 [] (cellsZ vs) Z.w hv0 (Nat.le_refl _) (by omega) (by simpa using big) rfl vl (fun _ => rfl) (fun a _ j v hj => by simp at hj) r2 cellsZ_one
        refine Calls.mono this fun e w' he => ?_
        obtain ⟨rfl, rfl⟩ := he
        have hge := grownCap_ge Z.w (0 + vs.length) 0 (ρ.t 9)
        refine fin ?_ (fun b h => ?_) rfl rfl rfl (by simp) (fun c h1 h2 => heap_alloc_old Z.w.drew _ h1)
        · have h3 := newOk (Z.w.drew.alloc (.cells (([] ++ cellsZ vs).toArray ++ Builtin.zeroCells (Value.string ⟨#[]⟩).cells (grownCap Z.w (0 + vs.length) 0 (ρ.t 9) - (0 + vs.length))) (ρ.t 9))) _ _ Z.w.heap.size (grownCap Z.w (0 + vs.length) 0 (ρ.t 9)) (heap_alloc_new Z.w.drew _) (by simpa using hge) (by rw [Array.size_append, zs]; simp; omega) (by simpa using capOk 0 (ρ.t 9)) (fun j v hj => by
            have : (cellsZ vs)[j]? = some v := by simpa using hj
            have hlt := (List.getElem?_eq_some_iff.1 this).1
            rw [Array.getElem?_append_left (by simpa using hlt)]
            simpa using this)
          simpa using h3
        · have := blkNew (grownCap Z.w (0 + vs.length) 0 (ρ.t 9)) b
          simp only [List.length_nil] at this
          exact this h
      · have e0' := e0.trans g1
        subst e0'
        have el1 := elts_str el1
        have r1 : ∀ j v, (cellsZ xs)[j]? = some v → Z.w.cell? ⟨b1, off1 + j, none⟩ = some v := fun j v hj => by
          have := el1 j v hj
          simp [World.cell?, m1, this]
        have xl : (cellsZ xs).length = xs.length := by simp
        have f1' : off1 + cap1 ≤ cells1.size := by simpa [Kd.size] using f1
        have hown1 : Owns (insZRt xs vs) H b1 := ⟨_, _, l0, rfl, by rw [g1]; simp [Bk, blkOf]; omega⟩
        have hlt1 : b1 < Z.w.heap.size := (Array.getElem?_eq_some_iff.1 m1).1
        have hne : b2 ≠ b1 := fun h => by
          subst h
          have := hm.sep _ _ _ _ b2 l0 l1 rfl rfl (by rw [g1]; simp [Bk, blkOf]; omega) (by rw [g2]; simp [Bk, blkOf]; omega)
          cases this
        have blkOld : ∀ b, Bk (.slice (some ⟨b1, off1, none⟩) (xs.length + vs.length) cap1) b → Owns (insZRt xs vs) H b ∨ Z.w.heap.size ≤ b := fun b h => by
          simp [Bk, blkOf] at h
          obtain ⟨_, rfl⟩ := h
          exact .inl hown1
        have dl : (cellsZ (xs.drop n)).length = xs.length - n := by simp
        have dropEq : (cellsZ xs).drop n = cellsZ (xs.drop n) := by simp [cellsZ, List.map_drop]
        have takeEq : (cellsZ xs).take n = cellsZ (xs.take n) := by simp [cellsZ, List.map_take]
        have hl : (xs.take n ++ vs ++ xs.drop n).length = xs.length + vs.length := by simp; omega
        by_cases hroom : xs.length + vs.length ≤ cap1
        · have sp : ∀ j, j < xs.length + vs.length → (Z.w.cell? ⟨b1, off1 + j, none⟩).isSome = true := fun j hj => by
            have : off1 + j < cells1.size := by omega
            simp [World.cell?, m1, this]
          have fz : ∀ j, Z.w.frozen? ⟨b1, j, none⟩ = false := fun j => by simp [World.frozen?, m1]
          have oldOk : ∀ (w' : World) (cells : Array Value), w'.heap[b1]? = some (.cells cells t1 (0, 0)) → cells.size = cells1.size →
              (∀ (j : Nat) (v : Value), (cellsZ (xs.take n ++ vs ++ xs.drop n))[j]? = some v → cells[off1 + j]? = some v) → ∀ S : Nat → Prop, ArrOk w' S .str (xs.take n ++ vs ++ xs.drop n) (.slice (some ⟨b1, off1, none⟩) (xs.length + vs.length) cap1) := by
            intro w' cells h1 h2 h5 S
            exact .inr ⟨b1, off1, cap1, cells, t1, by rw [hl], by rw [hl]; exact hroom, ⟨by omega, q1⟩, h1, by simp [Kd.size]; omega, str_elts h5⟩
          by_cases hend : n = xs.length
          · subst hend
            have := Proofs.Any2.slices_Insert_string_end_room L b1 off1 xs.length cap1 b2 off2 vs.length cap2 (cellsZ vs) Z.w hv0 hroom q1 vl (fun j hj => by rw [Nat.add_assoc]; exact sp _ (by omega)) (fun j _ => fz _) r2 cellsZ_one
            refine Calls.mono this fun e w' he => ?_
            obtain ⟨rfl, rfl⟩ := he
            obtain ⟨s1, s2, s3, s4⟩ := setCells_same (b := b1) (cellsZ vs) (off1 + xs.length) Z.w
            obtain ⟨cur, k1, k2, k3, k4⟩ := setCells_at (cellsZ vs) (off1 + xs.length) Z.w cells1 m1 (by rw [vl]; omega)
            refine fin (oldOk _ cur k1 k2 fun j v hj => ?_) blkOld s1 s2 s3 (by rw [s4]; exact Nat.le_refl _) (fun c h1 h2 => setCells_other _ _ _ c fun h => h2 (h ▸ hown1))
            rcases insertZ_list (Nat.le_refl _) j v hj with ⟨h1, h2⟩ | ⟨h1, h2, h3⟩ | ⟨h1, h2⟩
            · rw [k4 _ (.inl (by omega))]; exact el1 j v h2
            · have := k3 _ v h3
              rw [show off1 + xs.length + (j - xs.length) = off1 + j by omega] at this
              exact this
            · simp at h2
          · have := Proofs.Any2.slices_Insert_string_shift L b1 off1 xs.length cap1 n b2 off2 vs.length cap2 (cellsZ xs) (cellsZ vs) Z.w (by omega) hv0 hroom q1 hne xl vl r1 sp (fun j _ => fz _) r2 cellsZ_one cellsZ_one
              t2 t1 cells2.size cells1.size (by simp [World.shape?, m2]) (by simp [World.shape?, m1]) (by omega) (by simp [World.frozen?, m2]) (by simp [World.frozen?, m2])
            refine Calls.mono this fun e w' he => ?_
            obtain ⟨rfl, rfl⟩ := he
            rw [dropEq]
            obtain ⟨s1, s2, s3, s4⟩ := setCells_same (b := b1) (cellsZ (xs.drop n)) (off1 + (n + vs.length)) Z.w.drew
            obtain ⟨u1, u2, u3, u4⟩ := setCells_same (b := b1) (cellsZ vs) (off1 + n) (Z.w.drew.setCells b1 (off1 + (n + vs.length)) (cellsZ (xs.drop n)))
            obtain ⟨cur, k1, k2, k3, k4⟩ := setCells_at (cellsZ (xs.drop n)) (off1 + (n + vs.length)) Z.w.drew cells1 m1 (by rw [dl]; omega)
            obtain ⟨cur', j1, j2, j3, j4⟩ := setCells_at (cellsZ vs) (off1 + n) _ cur k1 (by rw [vl, k2]; omega)
            refine fin (oldOk _ cur' j1 (by rw [j2, k2]) fun j v hj => ?_) blkOld (by rw [u1, s1]; rfl) (by rw [u2, s2]; rfl) (by rw [u3, s3]; rfl) (by rw [u4, s4]; exact Nat.le_refl _)
              (fun c h1 h2 => by rw [setCells_other _ _ _ c fun h => h2 (h ▸ hown1), setCells_other _ _ _ c fun h => h2 (h ▸ hown1)]; rfl)
            rcases insertZ_list hin j v hj with ⟨h1, h2⟩ | ⟨h1, h2, h3⟩ | ⟨h1, h2⟩
            · rw [j4 _ (.inl (by omega)), k4 _ (.inl (by omega))]; exact el1 j v h2
            · have := j3 _ v h3
              rw [show off1 + n + (j - n) = off1 + j by omega] at this
              exact this
            · have := k3 _ v h2
              rw [show off1 + (n + vs.length) + (j - (n + vs.length)) = off1 + j by omega] at this
              rw [j4 _ (.inr (by rw [vl]; omega))]
              exact this
        · by_cases hend : n = xs.length
          · subst hend
            have := Proofs.Any2.slices_Insert_string_end_grow L (some ⟨b1, off1, none⟩) xs.length cap1 b2 off2 vs.length cap2 (cellsZ xs) (cellsZ vs) Z.w hv0 c1 (by omega) big xl vl (fun h => by cases h) (fun a h j v hj => by cases h; rw [addr_add]; exact r1 j v hj) r2 cellsZ_one
            refine Calls.mono this fun e w' he => ?_
            obtain ⟨rfl, rfl⟩ := he
            have hge := grownCap_ge Z.w (xs.length + vs.length) cap1 (ρ.t 9)
            refine fin (newOk _ _ _ _ _ (heap_alloc_new Z.w.drew _) hge (by rw [Array.size_append, zs]; simp; omega) (capOk _ _) fun j v hj => ?_) (blkNew _) rfl rfl rfl (by simp) (fun c h1 h2 => heap_alloc_old Z.w.drew _ h1)
            have hj' : (cellsZ xs ++ cellsZ vs)[j]? = some v := by
              rw [cellsZ, List.take_of_length_le (Nat.le_refl _), List.drop_of_length_le (Nat.le_refl _), List.append_nil, List.map_append] at hj
              exact hj
            have hlt := (List.getElem?_eq_some_iff.1 hj').1
            rw [Array.getElem?_append_left (by simpa using hlt)]
            simpa using hj'
          · have := Proofs.Any2.slices_Insert_string_grow L b1 off1 xs.length cap1 n b2 off2 vs.length cap2 (cellsZ xs) (cellsZ vs) Z.w (by omega) hv0 c1 (by omega) big xl vl r1 r2 cellsZ_one cellsZ_one
            refine Calls.mono this fun e w' he => ?_
            obtain ⟨rfl, rfl⟩ := he
            rw [dropEq, takeEq]
            have hge := grownCap_ge Z.w (xs.length + vs.length) cap1 (ρ.t 9)
            generalize hG : grownCap Z.w (xs.length + vs.length) cap1 (ρ.t 9) = G at hge ⊢
            have hcap := capOk cap1 (ρ.t 9)
            rw [hG] at hcap
            generalize hR : (cellsZ (xs.take n)).toArray ++ Builtin.zeroCells (Value.string ⟨#[]⟩).cells (xs.length + vs.length - n) ++ Builtin.zeroCells (Value.string ⟨#[]⟩).cells (G - (xs.length + vs.length)) = ROW
            have hRs : ROW.size = G := by
              rw [← hR, Array.size_append, Array.size_append, zs, zs]
              simp
              omega
            have hW : ((Z.w.alloc (.cells ROW (ρ.t 9))).drew).heap[Z.w.heap.size]? = some (.cells ROW (ρ.t 9) (0, 0)) := heap_alloc_new Z.w _
            obtain ⟨s1, s2, s3, s4⟩ := setCells_same (b := Z.w.heap.size) (cellsZ vs) n (Z.w.alloc (.cells ROW (ρ.t 9))).drew
            obtain ⟨u1, u2, u3, u4⟩ := setCells_same (b := Z.w.heap.size) (cellsZ (xs.drop n)) (n + vs.length) (((Z.w.alloc (.cells ROW (ρ.t 9))).drew.setCells Z.w.heap.size n (cellsZ vs)).drew)
            obtain ⟨cur, k1, k2, k3, k4⟩ := setCells_at (cellsZ vs) n (Z.w.alloc (.cells ROW (ρ.t 9))).drew ROW hW (by rw [vl]; omega)
            obtain ⟨cur', j1, j2, j3, j4⟩ := setCells_at (cellsZ (xs.drop n)) (n + vs.length) (((Z.w.alloc (.cells ROW (ρ.t 9))).drew.setCells Z.w.heap.size n (cellsZ vs)).drew) cur k1 (by rw [dl, k2]; omega)
            refine fin (newOk _ _ _ _ _ j1 hge (by rw [j2, k2]; omega) hcap fun j v hj => ?_) (blkNew _) (by rw [u1]; show (_ : World).os = _; rw [show ∀ X : World, X.drew.os = X.os from fun _ => rfl, s1]; rfl) (by rw [u2]; rw [show ∀ X : World, X.drew.tape = X.tape from fun _ => rfl, s2]; rfl) (by rw [u3]; rw [show ∀ X : World, X.drew.output = X.output from fun _ => rfl, s3]; rfl)
              (by rw [u4, World.size_drew, s4]; simp) (fun c h1 h2 => by
                rw [setCells_other _ _ _ c (by omega)]
                show ((Z.w.alloc (.cells ROW (ρ.t 9))).drew.setCells Z.w.heap.size n (cellsZ vs)).heap[c]? = _
                rw [setCells_other _ _ _ c (by omega)]
                exact heap_alloc_old Z.w _ h1)
            rcases insertZ_list hin j v hj with ⟨h1, h2⟩ | ⟨h1, h2, h3⟩ | ⟨h1, h2⟩
            · rw [j4 _ (.inl (by omega)), k4 _ (.inl (by omega)), ← hR]
              have : (cellsZ (xs.take n))[j]? = some v := by
                rw [← takeEq, List.getElem?_take, if_pos h1]; exact h2
              have hlt := (List.getElem?_eq_some_iff.1 this).1
              rw [Array.append_assoc, Array.getElem?_append_left (by simpa using hlt)]
              simpa using this
            · have := k3 _ v h3
              rw [show n + (j - n) = j by omega] at this
              rw [j4 _ (.inl (by omega))]
              exact this
            · have := j3 _ v h2
              rw [show n + vs.length + (j - (n + vs.length)) = j by omega] at this
              exact this

end

/-! ### slices.Delete of texts -/
@[reducible] def delZS : PkS := ⟨[.one (.whole (200000, 0)), .one (.int .i64), .one (.int .i64)], [((200000, 0), .arr .str)]⟩
def delZK : KPs := fun R p k => match (PkS.un delZS p : Option (Int × Int × List ByteArray × Unit)) with
  | some (i, j, xs, _) => bif decide (0 ≤ i) && (decide (i < j) && decide (j ≤ xs.length)) then k (insZOut (xs.take (Int.toNat i) ++ xs.drop (Int.toNat j))) else none
  | none => none
abbrev delZRt (xs : List ByteArray) : Roots := ptab [((200000, 0), .arr .str xs)]
theorem encStr_map (xs : List ByteArray) : (xs.map (·.data.toList)).map Proofs.encStr = cellsZ xs := by
  rw [cellsZ, List.map_map]
  exact List.map_congr_left fun x _ => rfl
section
variable {P : Program}
theorem deleteZ_ok {ρ : Shelf.Ren} (L : Proofs.Lays2.n24 P ρ) {f : Nat} (hρ : ρ.f 24 = f) {fn : Func} {c : Code} (hf : P.funcs[f]? = some fn) (hb : fn.body = some c) (hn : (fn.name == "runtime.NumGoroutine") = false) : FnOk P f delZK where
  nat R S' g p k := by
    unfold delZK
    split
    · rename_i i j xs _ _
      cases decide (0 ≤ i) && (decide (i < j) && decide (j ≤ xs.length)) <;> rfl
    · rfl
  ok p q hq Z vals H hv hp := by
    unfold delZK at hq
    split at hq
    case h_2 => cases hq
    rename_i i j xs u hu
    have hpk := PkS.un_pack hu
    subst hpk
    cases hcond : decide (0 ≤ i) && (decide (i < j) && decide (j ≤ xs.length)) with
    | false => rw [hcond] at hq; cases hq
    | true =>
      rw [hcond] at hq
      simp only [Bool.and_eq_true, decide_eq_true_eq] at hcond
      obtain ⟨hi0, hij, hjl⟩ := hcond
      have hq' : insZOut (xs.take (Int.toNat i) ++ xs.drop (Int.toNat j)) = q := Option.some.inj hq
      subst hq'
      obtain ⟨n, rfl⟩ : ∃ n : Nat, i = n := ⟨i.toNat, by omega⟩
      obtain ⟨m, rfl⟩ : ∃ m : Nat, j = m := ⟨j.toNat, by omega⟩
      rw [Int.toNat_natCast, Int.toNat_natCast]
      have hnm : n < m := by omega
      have hml : m ≤ xs.length := by omega
      have ha : All2 (AVRel (AtomRel Z.w (Stab Z (delZRt xs) H Z.w) (delZRt xs) H)) [.one (.whole (200000, 0)), .one (.int .i64 n), .one (.int .i64 m)] vals.toList := hp.args
      have hm : Mem Z (delZRt xs) H Z.w := hp.mem
      have l0 : look (delZRt xs) (200000, 0) = some (some (.arr .str xs)) := rfl
      obtain ⟨u0, u1, u2, hvals⟩ : ∃ u0 u1 u2, vals = #[u0, u1, u2] := by
        have := ha.length
        simp only [List.length_cons, List.length_nil, Array.length_toList] at this
        exact ⟨vals[0], vals[1], vals[2], by apply Array.ext <;> simp [← this] ; intro i hi1 hi2; match i, hi2 with | 0, _ => rfl | 1, _ => rfl | 2, _ => rfl⟩
      subst hvals
      have e0 : u0 = H (200000, 0) := RowRel.row (show RowRel (delZRt xs) (200000, 0) (u0.oneCell' = true) (fun _ _ => u0 = H (200000, 0)) from ha.1) (.inl ⟨rfl, l0⟩)
      have e1 : u1 = .int .i64 n := ha.2.1
      have e2 : u2 = .int .i64 m := ha.2.2.1
      have o0 : ArrOk Z.w (Stab Z (delZRt xs) H Z.w) .str xs (H (200000, 0)) := hm.roots _ _ l0
      rcases o0 with ⟨h, _⟩ | ⟨b1, off1, cap1, cells1, t1, g1, c1, ⟨p1, q1⟩, m1, f1, el1⟩
      · rw [h] at hml; simp at hml; omega
      have el1 := elts_str el1
      have r1 : ∀ j v, (cellsZ xs)[j]? = some v → Z.w.cell? ⟨b1, off1 + j, none⟩ = some v := fun j v hj => by
        have := el1 j v hj
        simp [World.cell?, m1, this]
      have hown1 : Owns (delZRt xs) H b1 := ⟨_, _, l0, rfl, by rw [g1]; simp [Bk, blkOf]; omega⟩
      have fz : ∀ j, Z.w.frozen? ⟨b1, j, none⟩ = false := fun j => by simp [World.frozen?, m1]
      have hold := Go.Lib.holds_of_strings (w := Z.w) (b := b1) (off := off1) (n := xs.length) (ss := xs) (Nat.le_refl _) (fun j hj => by
        refine r1 j _ ?_
        rw [cellsZ, List.getElem?_map, List.getElem?_eq_getElem hj, List.getD_eq_getElem?_getD, List.getElem?_eq_getElem hj]; rfl) (fun j _ => fz _)
      rw [List.take_of_length_le (Nat.le_refl _)] at hold
      have hlen0 : (xs.map (·.data.toList)).length = xs.length := by simp
      have call := Proofs.Any.slices_Delete_string L b1 off1 cap1 n m (xs.map (·.data.toList)) Z.w hold (by rw [hlen0]; exact c1) q1 (by omega) (by rw [hlen0]; exact hml)
      rw [hlen0, hρ] at call
      refine Does.of_calls hf hb hn ?_
      rw [e0, e1, e2, g1]
      refine Calls.mono call fun e w' he => ?_
      obtain ⟨rfl, q, rfl⟩ := he
      generalize hys : (xs.map (·.data.toList)).take n ++ (xs.map (·.data.toList)).drop m ++ List.replicate (m - n) [] = ys
      have hyl : ys.length = xs.length := by rw [← hys]; simp; omega
      have hye : ys.map Proofs.encStr = cellsZ (xs.take n ++ xs.drop m) ++ List.replicate (m - n) (Proofs.encStr []) := by
        rw [← hys, List.map_append, List.map_append, List.map_replicate, ← encStr_map (xs.take n ++ xs.drop m), List.map_append, List.map_append, List.map_take, List.map_drop, List.map_take, List.map_drop, List.map_take, List.map_drop]
      rw [Go.Lib.putRow_eq_setCells Proofs.encStr Z.w b1 off1 (xs.map (·.data.toList)).toArray ys q hold (by rw [hyl]; simp)]
      have hml2 : (ys.map Proofs.encStr).length = xs.length := by rw [List.length_map, hyl]
      have m1' : (Z.w.drewN q).heap[b1]? = some (.cells cells1 t1 (0, 0)) := m1
      have f1' : off1 + cap1 ≤ cells1.size := by simpa [Kd.size] using f1
      obtain ⟨cur, k1, k2, k3, k4⟩ := setCells_at (ys.map Proofs.encStr) off1 (Z.w.drewN q) cells1 m1' (by rw [hml2]; omega)
      obtain ⟨s1, s2, s3, s4⟩ := setCells_same (b := b1) (ys.map Proofs.encStr) off1 (Z.w.drewN q)
      have hl : (xs.take n ++ xs.drop m).length = xs.length - (m - n) := by simp; omega
      refine ⟨_, rfl, insZ_done (H := H) (us := [_, _, _]) hm rfl (fun S => .inr ⟨b1, off1, cap1, cur, t1, by rw [hl], by rw [hl]; omega, ⟨p1, q1⟩, k1, by rw [k2]; exact f1, str_elts fun j v hj => ?_⟩) (fun b h => ?_) s1 s2 s3 (by rw [s4]; exact Nat.le_refl _) (fun c h1 h2 => by
        rw [setCells_other _ _ _ c fun h => h2 (h ▸ hown1)]; rfl)⟩
      · refine k3 j v ?_
        rw [hye, List.getElem?_append_left (List.getElem?_eq_some_iff.1 hj).1]
        exact hj
      · simp [Bk, blkOf] at h
        obtain ⟨_, rfl⟩ := h
        exact .inl hown1
end
end Go.Am
