/- What a call says of rows, in the kit's words. -/
import Derived.Test.YtjkakpepejlooaaAmC
import Derived.WalkKit
import Derived.Deep.LoopGhost
import Derived.Deep.OwnRows
import Derived.Deep.Light
set_option linter.unusedVariables false
set_option linter.unusedSimpArgs false
namespace Go.Am
open Go

/-! ### Rows of rows, marked and made: what a call says, in the kit's words -/
section
variable {P : Program}
theorem Evo.mono {B B' : Nat → Prop} {w w' : World} (hb : ∀ b, b < w.heap.size → B b → B' b) (h : Evo B w w') : Evo B' w w' :=
  ⟨h.os, h.tape, h.output, h.size, fun b h1 h2 => h.block b h1 fun h3 => h2 (hb b h1 h3)⟩
theorem Evo.step {B B' : Nat → Prop} {w w' w'' : World} (h : Evo B w w') (k : Evo B' w' w'') (hb : ∀ b, b < w.heap.size → B' b → B b) : Evo B w w'' :=
  ⟨k.os.trans h.os, k.tape.trans h.tape, k.output.trans h.output, Nat.le_trans h.size k.size, fun b h1 h2 => (k.block b (Nat.lt_of_lt_of_le h1 h.size) fun h3 => h2 (hb b h1 h3)).trans (h.block b h1 h2)⟩
/-- A function that takes a row of one's own and a number. -/
@[reducible] def rowIntS : PkS := ⟨[.one (.whole (200000, 0)), .one (.int .i64)], [((200000, 0), .arr (.int .i64))]⟩
theorem calls_rowInt {f : FuncId} {fn : Func} {c : Code} (hf : P.funcs[f]? = some fn) (hb : fn.body = some c) (hn : (fn.name == "runtime.NumGoroutine") = false) {K : KPs} (h : FnOk P f K)
    {w : World} {xs : List Int} {k r : Int} {rest : List AV} {rt : List (Rid × Root)} (hK : K Pk (PkS.pack rowIntS (k, xs, ())) some = some ⟨.one (.int .i64 r) :: rest, rt⟩) {v : Value} (hv : ArrOk w (fun _ => False) (.int .i64) xs v) :
    Calls P f #[v, .int .i64 k] w fun e w' => e = .returned (.int .i64 r) ∧ Evo (Bk v) w w' := by
  have := h.ok _ _ hK { w := w, B := Bk v, S := fun _ => False, old := fun _ h => h.elim, vs := [v, .int .i64 k] } #[v, .int .i64 k] (fun _ => v) rfl ⟨⟨⟨rfl, ?_⟩, rfl, trivial⟩, ?_⟩
  · refine Calls.mono (this.calls hf hb hn) ?_
    rintro e w' ⟨u, rfl, H', h1⟩
    have e1 : u = .int .i64 r := h1.args.1
    exact ⟨by rw [e1], h1.mem.evo⟩
  · rcases hv with ⟨_, a, h⟩ | ⟨b, off, cap, cells, t, h, _⟩ <;> rw [h] <;> rfl
  · have hl : ∀ q x, look (ptab [((200000, 0), Root.arr (.int .i64) xs)]) q = some (some x) → q = (200000, 0) ∧ x = .arr (.int .i64) xs := by
      intro q x h
      simp only [ptab, List.map_cons, List.map_nil, look] at h
      cases hb : Rid.beq q (200000, 0) with
      | true => rw [hb] at h; simp at h; exact ⟨Rid.eq_of_beq hb, h.symm⟩
      | false => rw [hb] at h; simp at h
    refine ⟨fun q x h => ?_, fun q q' x x' b h h' _ _ _ _ => by rw [(hl q x h).1, (hl q' x' h').1], fun b ⟨q, x, h, _, h2⟩ => .inl h2, .refl _ _⟩
    obtain ⟨rfl, rfl⟩ := hl q x h
    exact ArrOk.blk hv (fun c hc => hc.elim) fun _ _ => rfl
/-- A function that takes a number and a row to be read, and gives both back, the row one's own. -/
@[reducible] def intRoS : PkS := ⟨[.agg [.int .i64, .ro (.int .i64)]], []⟩
theorem calls_intRo {f : FuncId} {fn : Func} {c : Code} (hf : P.funcs[f]? = some fn) (hb : fn.body = some c) (hn : (fn.name == "runtime.NumGoroutine") = false) {K : KPs} (h : FnOk P f K)
    {w : World} {xs : List Int} {k : Int} {rest : List AV} (hK : K Pk (PkS.pack intRoS (k, xs, ())) some = some ⟨.agg [.int .i64 k, .whole (300000, 0)] :: rest, [((300000, 0), .arr (.int .i64) xs)]⟩) {v : Value} {S : Nat → Prop} (hS : ∀ b, S b → b < w.heap.size) (hv : SlV w S 1 (Rd w S (.int .i64)) xs v) :
    Calls P f #[.agg #[.int .i64 k, v]] w fun e w' => ∃ g, e = .returned (.agg #[.int .i64 k, g]) ∧ Evo (fun _ => False) w w' ∧ ArrOk w' (fun _ => False) (.int .i64) xs g ∧ ∀ b, Bk g b → w.heap.size ≤ b ∧ b < w'.heap.size := by
  have := h.ok _ _ hK { w := w, B := fun _ => False, S := S, old := fun b h => ⟨hS b h, id⟩, vs := [.agg #[.int .i64 k, v]] } #[.agg #[.int .i64 k, v]] (fun _ => v) rfl ⟨⟨⟨_, rfl, rfl, ⟨?_, fun h => by cases h⟩, trivial⟩, trivial⟩, ?_⟩
  · refine Calls.mono (this.calls hf hb hn) ?_
    rintro e w' ⟨u, rfl, H', h1⟩
    obtain ⟨vs, e1, h2⟩ := h1.args.1
    obtain ⟨x0, x1, e2⟩ : ∃ x0 x1, vs = #[x0, x1] := by
      have := h2.length
      simp only [List.length_cons, List.length_nil, Array.length_toList] at this
      exact ⟨vs[0], vs[1], by apply Array.ext <;> simp [← this]; intro i hi1 hi2; match i, hi2 with | 0, _ => rfl | 1, _ => rfl⟩
    subst e2
    have l0 : look (ptab [((300000, 0), Root.arr (.int .i64) xs)]) (300000, 0) = some (some (.arr (.int .i64) xs)) := rfl
    have e3 : x0 = .int .i64 k := h2.1
    have e4 : x1 = H' (300000, 0) := RowRel.row (show RowRel (ptab [((300000, 0), Root.arr (.int .i64) xs)]) (300000, 0) (x1.oneCell' = true) (fun _ _ => x1 = H' (300000, 0)) from h2.2.1) (.inl ⟨rfl, l0⟩)
    have hok := h1.mem.roots _ _ l0
    refine ⟨H' (300000, 0), by rw [e1, e3, e4], h1.mem.evo, ArrOk.flat rfl (show ArrOk w' _ (.int .i64) xs _ from hok), fun b hb => ?_⟩
    have how : Owns (ptab [((300000, 0), Root.arr (.int .i64) xs)]) H' b := ⟨_, _, l0, rfl, hb⟩
    exact ⟨(h1.mem.base b how).elim (fun h => h.elim) id, h1.mem.own_lt how⟩
  · exact SlV.mono (fun b hb => ⟨⟨.inl hb, fun ⟨q, x, h, _⟩ => by have : look ([] : Roots) q = some (some x) := h; cases this⟩, rfl⟩) (fun x cs hx => Rd.mono (fun b hb => ⟨⟨.inl hb, fun ⟨q, x, h, _⟩ => by have : look ([] : Roots) q = some (some x) := h; cases this⟩, rfl⟩) hx) hv
  · have no : ∀ q (x : Root), look ([] : Roots) q = some (some x) → False := fun q x h => by cases h
    exact ⟨fun q x h => (no q x h).elim, fun q q' x x' b h => (no q x h).elim, fun b ⟨q, x, h, _⟩ => (no q x h).elim, .refl _ _⟩
end
end Go.Am
