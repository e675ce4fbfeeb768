/- A marking as a key of a map: the function that makes it, walked by hand. -/
import Derived.Test.YtjijikgjefingaaAmC
import Derived.WalkKit
import Derived.Lib.Hide
import Derived.Laws.CopyRow
import Derived.Laws.IdiomCopy
import Derived.Test.YtjijikgjefingaaChecked
set_option linter.unusedVariables false
set_option linter.unusedSimpArgs false
namespace Go.Am
open Go Go.Proofs
/-- A marking as an array of eight numbers. -/
def key8 (xs : List Int) : Array Value := #[.int .i64 (xs.getD 0 0), .int .i64 (xs.getD 1 0), .int .i64 (xs.getD 2 0), .int .i64 (xs.getD 3 0), .int .i64 (xs.getD 4 0), .int .i64 (xs.getD 5 0), .int .i64 (xs.getD 6 0), .int .i64 (xs.getD 7 0)]
def zero8 : Array Value := #[.int .i64 0, .int .i64 0, .int .i64 0, .int .i64 0, .int .i64 0, .int .i64 0, .int .i64 0, .int .i64 0]
theorem key8_eq (xs : List Int) : (zero8.toList.take 0 ++ (xs.take 8).map (Value.int .i64) ++ zero8.toList.drop (0 + ((xs.take 8).map (Value.int .i64)).length)).toArray = key8 xs := by
  match xs with
  | [] => rfl
  | [a] => rfl
  | [a, b] => rfl
  | [a, b, c] => rfl
  | [a, b, c, d] => rfl
  | [a, b, c, d, e] => rfl
  | [a, b, c, d, e, f] => rfl
  | [a, b, c, d, e, f, g] => rfl
  | a :: b :: c :: d :: e :: f :: g :: h :: l => simp [key8, zero8]
set_option maxHeartbeats 2000000 in
set_option maxRecDepth 100000 in
theorem keyOf_walk (m : Value) (y0 y1 y2 y3 y4 y5 y6 y7 : Int) (w : World) (hc : ∀ W1 : World, W1.heap[w.heap.size + 1]? = some (.cells zero8 162 (0, 0)) → (∀ k, k < w.heap.size → W1.heap[k]? = w.heap[k]?) →
      ∃ v, (Builtin.copy_ #[22, 22] 3 #[.slice (some { block := w.heap.size + 1, off := 0 }) 8 8, m]).run Try.prog W1 = .ok v (W1.setRow (w.heap.size + 1) (#[.int .i64 y0, .int .i64 y1, .int .i64 y2, .int .i64 y3, .int .i64 y4, .int .i64 y5, .int .i64 y6, .int .i64 y7]))) :
    Calls Try.prog 160 #[m] w fun e w' => e = .returned (.agg (#[.int .i64 y0, .int .i64 y1, .int .i64 y2, .int .i64 y3, .int .i64 y4, .int .i64 y5, .int .i64 y6, .int .i64 y7])) ∧ RowKit.Below w.heap.size w w' := by
  have HC := Lib.hid hc
  clear hc
  go_enter Try.func160, Try.ntmps160
  go_wp2
  obtain ⟨v, hv⟩ := HC.out ((w.alloc (.cells zero8 162)).alloc (.cells zero8 162)) (by
    show ((w.heap.push _).push _)[w.heap.size + 1]? = _
    rw [Array.getElem?_push, if_pos (by simp)]) (by
    intro k hk
    show ((w.heap.push _).push _)[k]? = _
    rw [Array.getElem?_push, if_neg (by simp; omega), Array.getElem?_push, if_neg (by omega)])
  clear HC
  have g1 : (((w.alloc (.cells zero8 162)).alloc (.cells zero8 162)).setRow (w.heap.size + 1) (#[.int .i64 y0, .int .i64 y1, .int .i64 y2, .int .i64 y3, .int .i64 y4, .int .i64 y5, .int .i64 y6, .int .i64 y7])).heap[w.heap.size + 1]? = some (.cells (#[.int .i64 y0, .int .i64 y1, .int .i64 y2, .int .i64 y3, .int .i64 y4, .int .i64 y5, .int .i64 y6, .int .i64 y7]) 162 (0, 0)) := setRow_heap _ _ zero8 _ _ _ (by
    show ((w.heap.push _).push _)[w.heap.size + 1]? = _
    rw [Array.getElem?_push, if_pos (by simp)])
  have g2 : (((w.alloc (.cells zero8 162)).alloc (.cells zero8 162)).setRow (w.heap.size + 1) (#[.int .i64 y0, .int .i64 y1, .int .i64 y2, .int .i64 y3, .int .i64 y4, .int .i64 y5, .int .i64 y6, .int .i64 y7])).heap[w.heap.size]? = some (.cells zero8 162 (0, 0)) := by
    show (((w.heap.push _).push _).modify _ _)[w.heap.size]? = _
    rw [Array.getElem?_modify, if_neg (by omega), Array.getElem?_push, if_neg (by simp), Array.getElem?_push, if_pos rfl]
  have g3 : RowKit.Below w.heap.size w (((w.alloc (.cells zero8 162)).alloc (.cells zero8 162)).setRow (w.heap.size + 1) (#[.int .i64 y0, .int .i64 y1, .int .i64 y2, .int .i64 y3, .int .i64 y4, .int .i64 y5, .int .i64 y6, .int .i64 y7])) := ⟨rfl, rfl, rfl, by
    show _ ≤ (((w.heap.push _).push _).modify _ _).size
    simp; omega, fun k hk => by
    show (((w.heap.push _).push _).modify _ _)[k]? = _
    rw [Array.getElem?_modify, if_neg (by omega), Array.getElem?_push, if_neg (by simp; omega), Array.getElem?_push, if_neg (by omega)]⟩
  have g3 := Lib.hid g3
  simp only [zero8] at hv g1 g2
  rw [hv]
  simp only [zero8] at g3
  generalize World.setRow _ _ _ = W2 at g1 g2 g3 ⊢
  clear hv
  have c0 : W2.cell? { block := w.heap.size + 1, off := 0 } = some (.int .i64 y0) := by simp [World.cell?, g1]
  have c1 : W2.cell? { block := w.heap.size + 1, off := 1 } = some (.int .i64 y1) := by simp [World.cell?, g1]
  have c2 : W2.cell? { block := w.heap.size + 1, off := 2 } = some (.int .i64 y2) := by simp [World.cell?, g1]
  have c3 : W2.cell? { block := w.heap.size + 1, off := 3 } = some (.int .i64 y3) := by simp [World.cell?, g1]
  have c4 : W2.cell? { block := w.heap.size + 1, off := 4 } = some (.int .i64 y4) := by simp [World.cell?, g1]
  have c5 : W2.cell? { block := w.heap.size + 1, off := 5 } = some (.int .i64 y5) := by simp [World.cell?, g1]
  have c6 : W2.cell? { block := w.heap.size + 1, off := 6 } = some (.int .i64 y6) := by simp [World.cell?, g1]
  have c7 : W2.cell? { block := w.heap.size + 1, off := 7 } = some (.int .i64 y7) := by simp [World.cell?, g1]
  have d0 : W2.cell? { block := w.heap.size, off := 0 } = some (.int .i64 0) := by simp [World.cell?, g2]
  have f0 : W2.frozen? { block := w.heap.size, off := 0 } = false := by simp [World.frozen?, g2]
  have d1 : W2.cell? { block := w.heap.size, off := 1 } = some (.int .i64 0) := by simp [World.cell?, g2]
  have f1 : W2.frozen? { block := w.heap.size, off := 1 } = false := by simp [World.frozen?, g2]
  have d2 : W2.cell? { block := w.heap.size, off := 2 } = some (.int .i64 0) := by simp [World.cell?, g2]
  have f2 : W2.frozen? { block := w.heap.size, off := 2 } = false := by simp [World.frozen?, g2]
  have d3 : W2.cell? { block := w.heap.size, off := 3 } = some (.int .i64 0) := by simp [World.cell?, g2]
  have f3 : W2.frozen? { block := w.heap.size, off := 3 } = false := by simp [World.frozen?, g2]
  have d4 : W2.cell? { block := w.heap.size, off := 4 } = some (.int .i64 0) := by simp [World.cell?, g2]
  have f4 : W2.frozen? { block := w.heap.size, off := 4 } = false := by simp [World.frozen?, g2]
  have d5 : W2.cell? { block := w.heap.size, off := 5 } = some (.int .i64 0) := by simp [World.cell?, g2]
  have f5 : W2.frozen? { block := w.heap.size, off := 5 } = false := by simp [World.frozen?, g2]
  have d6 : W2.cell? { block := w.heap.size, off := 6 } = some (.int .i64 0) := by simp [World.cell?, g2]
  have f6 : W2.frozen? { block := w.heap.size, off := 6 } = false := by simp [World.frozen?, g2]
  have d7 : W2.cell? { block := w.heap.size, off := 7 } = some (.int .i64 0) := by simp [World.cell?, g2]
  have f7 : W2.frozen? { block := w.heap.size, off := 7 } = false := by simp [World.frozen?, g2]
  go_wp2
  have s0 : (W2.setCell ⟨w.heap.size, 0, none⟩ (.int .i64 y0)).heap[w.heap.size]? = some (.cells #[.int .i64 y0, .int .i64 0, .int .i64 0, .int .i64 0, .int .i64 0, .int .i64 0, .int .i64 0, .int .i64 0] 162 (0, 0)) := heap_setCell_same _ _ 0 _ _ (.int .i64 y0) g2
  have s1 : ((W2.setCell ⟨w.heap.size, 0, none⟩ (.int .i64 y0)).setCell ⟨w.heap.size, 1, none⟩ (.int .i64 y1)).heap[w.heap.size]? = some (.cells #[.int .i64 y0, .int .i64 y1, .int .i64 0, .int .i64 0, .int .i64 0, .int .i64 0, .int .i64 0, .int .i64 0] 162 (0, 0)) := heap_setCell_same _ _ 1 _ _ (.int .i64 y1) s0
  have s2 : (((W2.setCell ⟨w.heap.size, 0, none⟩ (.int .i64 y0)).setCell ⟨w.heap.size, 1, none⟩ (.int .i64 y1)).setCell ⟨w.heap.size, 2, none⟩ (.int .i64 y2)).heap[w.heap.size]? = some (.cells #[.int .i64 y0, .int .i64 y1, .int .i64 y2, .int .i64 0, .int .i64 0, .int .i64 0, .int .i64 0, .int .i64 0] 162 (0, 0)) := heap_setCell_same _ _ 2 _ _ (.int .i64 y2) s1
  have s3 : ((((W2.setCell ⟨w.heap.size, 0, none⟩ (.int .i64 y0)).setCell ⟨w.heap.size, 1, none⟩ (.int .i64 y1)).setCell ⟨w.heap.size, 2, none⟩ (.int .i64 y2)).setCell ⟨w.heap.size, 3, none⟩ (.int .i64 y3)).heap[w.heap.size]? = some (.cells #[.int .i64 y0, .int .i64 y1, .int .i64 y2, .int .i64 y3, .int .i64 0, .int .i64 0, .int .i64 0, .int .i64 0] 162 (0, 0)) := heap_setCell_same _ _ 3 _ _ (.int .i64 y3) s2
  have s4 : (((((W2.setCell ⟨w.heap.size, 0, none⟩ (.int .i64 y0)).setCell ⟨w.heap.size, 1, none⟩ (.int .i64 y1)).setCell ⟨w.heap.size, 2, none⟩ (.int .i64 y2)).setCell ⟨w.heap.size, 3, none⟩ (.int .i64 y3)).setCell ⟨w.heap.size, 4, none⟩ (.int .i64 y4)).heap[w.heap.size]? = some (.cells #[.int .i64 y0, .int .i64 y1, .int .i64 y2, .int .i64 y3, .int .i64 y4, .int .i64 0, .int .i64 0, .int .i64 0] 162 (0, 0)) := heap_setCell_same _ _ 4 _ _ (.int .i64 y4) s3
  have s5 : ((((((W2.setCell ⟨w.heap.size, 0, none⟩ (.int .i64 y0)).setCell ⟨w.heap.size, 1, none⟩ (.int .i64 y1)).setCell ⟨w.heap.size, 2, none⟩ (.int .i64 y2)).setCell ⟨w.heap.size, 3, none⟩ (.int .i64 y3)).setCell ⟨w.heap.size, 4, none⟩ (.int .i64 y4)).setCell ⟨w.heap.size, 5, none⟩ (.int .i64 y5)).heap[w.heap.size]? = some (.cells #[.int .i64 y0, .int .i64 y1, .int .i64 y2, .int .i64 y3, .int .i64 y4, .int .i64 y5, .int .i64 0, .int .i64 0] 162 (0, 0)) := heap_setCell_same _ _ 5 _ _ (.int .i64 y5) s4
  have s6 : (((((((W2.setCell ⟨w.heap.size, 0, none⟩ (.int .i64 y0)).setCell ⟨w.heap.size, 1, none⟩ (.int .i64 y1)).setCell ⟨w.heap.size, 2, none⟩ (.int .i64 y2)).setCell ⟨w.heap.size, 3, none⟩ (.int .i64 y3)).setCell ⟨w.heap.size, 4, none⟩ (.int .i64 y4)).setCell ⟨w.heap.size, 5, none⟩ (.int .i64 y5)).setCell ⟨w.heap.size, 6, none⟩ (.int .i64 y6)).heap[w.heap.size]? = some (.cells #[.int .i64 y0, .int .i64 y1, .int .i64 y2, .int .i64 y3, .int .i64 y4, .int .i64 y5, .int .i64 y6, .int .i64 0] 162 (0, 0)) := heap_setCell_same _ _ 6 _ _ (.int .i64 y6) s5
  have s7 : ((((((((W2.setCell ⟨w.heap.size, 0, none⟩ (.int .i64 y0)).setCell ⟨w.heap.size, 1, none⟩ (.int .i64 y1)).setCell ⟨w.heap.size, 2, none⟩ (.int .i64 y2)).setCell ⟨w.heap.size, 3, none⟩ (.int .i64 y3)).setCell ⟨w.heap.size, 4, none⟩ (.int .i64 y4)).setCell ⟨w.heap.size, 5, none⟩ (.int .i64 y5)).setCell ⟨w.heap.size, 6, none⟩ (.int .i64 y6)).setCell ⟨w.heap.size, 7, none⟩ (.int .i64 y7)).heap[w.heap.size]? = some (.cells #[.int .i64 y0, .int .i64 y1, .int .i64 y2, .int .i64 y3, .int .i64 y4, .int .i64 y5, .int .i64 y6, .int .i64 y7] 162 (0, 0)) := heap_setCell_same _ _ 7 _ _ (.int .i64 y7) s6
  try simp only [Exit.inBlock, Exit.then]
  refine ⟨rfl, _, results_cell_row (p := 2) (ty := 162) (d := .array 8 3) (t := 162) (fr := (0, 0)) (cs := #[.int .i64 y0, .int .i64 y1, .int .i64 y2, .int .i64 y3, .int .i64 y4, .int .i64 y5, .int .i64 y6, .int .i64 y7]) rfl _ _ w.heap.size rfl s7 (by kernel_rfl) rfl (by kernel_rfl), rfl, ?_⟩
  exact (((((((g3.out.setCell (Nat.le_refl _) _).setCell (Nat.le_refl _) _).setCell (Nat.le_refl _) _).setCell (Nat.le_refl _) _).setCell (Nat.le_refl _) _).setCell (Nat.le_refl _) _).setCell (Nat.le_refl _) _).setCell (Nat.le_refl _) _

/-- What comes back holds no row. -/
theorem pk_flat8 {Z : Base} {H : Gh} {w' : World} {v : Value} {us : List Value} {a : AV} {ds : List AV} (hB : RowKit.Below Z.w.heap.size Z.w w') (ha : ∀ S rt', AVRel (AtomRel w' S rt' H) a v) (hd : ∀ S rt', All2 (AVRel (AtomRel w' S rt' H)) ds us) : PkOk Z ⟨a :: ds, []⟩ (v :: us) w' H := by
  have no : ∀ q (x : Root), look ([] : Roots) q = some (some x) → False := fun q x h => by cases h
  exact ⟨⟨ha _ _, hd _ _⟩, ⟨fun q x h => (no q x h).elim, fun q q' x x' b h => (no q x h).elim, fun b ⟨q, x, h, _⟩ => (no q x h).elim, ⟨hB.os, hB.tape, hB.output, hB.size, fun b hb' _ => hB.block b hb'⟩⟩⟩
@[reducible] def keyOfI : PkS := ⟨[.one (.ro (.int .i64))], []⟩
@[reducible] def keyOfT : PkS := ⟨[.agg [.int .i64, .int .i64, .int .i64, .int .i64, .int .i64, .int .i64, .int .i64, .int .i64], .one (.dead)], []⟩
def keyOfK : KPs := fun R p k => match (PkS.un keyOfI p : Option (List Int × Unit)) with
  | some (x, _) => k (PkS.pack keyOfT (x.getD 0 0, x.getD 1 0, x.getD 2 0, x.getD 3 0, x.getD 4 0, x.getD 5 0, x.getD 6 0, x.getD 7 0, ()))
  | none => none
/-- What the row's copy does: the source lies in memory that stays. -/
theorem keyOf_copy {S : Nat → Prop} {xs : List Int} {m : Value} {w : World} (hS : ∀ b, S b → b < w.heap.size) (h : SlV w S 1 (Rd w S (.int .i64)) xs m) (W1 : World) (h1 : W1.heap[w.heap.size + 1]? = some (.cells zero8 162 (0, 0))) (h2 : ∀ k, k < w.heap.size → W1.heap[k]? = w.heap[k]?) :
    ∃ v, (Builtin.copy_ #[22, 22] 3 #[.slice (some { block := w.heap.size + 1, off := 0 }) 8 8, m]).run Try.prog W1 = .ok v (W1.setRow (w.heap.size + 1) (key8 xs)) := by
  have hu : Try.prog.underlying 22 = some (.slice 3) := by kernel_rfl
  have hi : (Try.prog.info? 3).map (·.size) = some 1 := by kernel_rfl
  rcases h with ⟨rfl, a, c, rfl, _⟩ | ⟨b, off, cap, cells, t, fr, rfl, hcap, hb, hh, he⟩
  · have := run_copy_none (P := Try.prog) W1 22 22 3 3 (some { block := w.heap.size + 1, off := 0 }) a 8 8 0 c hu hi rfl
    have hz : key8 [] = zero8 := rfl
    rw [hz, setRow_self W1 _ zero8 162 (0, 0) h1]
    exact ⟨_, this⟩
  · have hlt := hS b hb
    have hr := run_copy_row (P := Try.prog) W1 22 22 3 3 (w.heap.size + 1) 0 8 8 ⟨b, off, none⟩ xs.length cap zero8 162 ((xs.take 8).map (Value.int .i64)) hu hi h1 (by
      rw [List.length_map, List.length_take]
      show min 8 xs.length = min xs.length 8
      omega) (fun j v hj => by
      rw [List.getElem?_map] at hj
      cases hx : (xs.take 8)[j]? with
      | none => rw [hx] at hj; cases hj
      | some x =>
        rw [hx] at hj
        have hv : Value.int .i64 x = v := by simpa using hj
        have hx2 : xs[j]? = some x := by
          rw [List.getElem?_take] at hx
          split at hx
          · exact hx
          · cases hx
        obtain ⟨cs, hcs, hat⟩ := he j x hx2
        have hcs' : cs = [.int .i64 x] := hcs
        subst hcs'
        have := hat 0 (.int .i64 x) rfl
        rw [Nat.mul_one, Nat.add_zero] at this
        have hadd : (⟨b, off, none⟩ : Addr).add j = ⟨b, off + j, none⟩ := by unfold Addr.add; split <;> simp_all
        rw [hadd]
        simp [World.cell?, h2 b hlt, hh, this, hv]) (by
      rw [List.length_map, List.length_take]
      show 0 + min 8 xs.length ≤ 8
      omega) (fun v hv => by
      obtain ⟨x, _, rfl⟩ := List.mem_map.1 hv
      rfl)
    rw [key8_eq] at hr
    exact ⟨_, hr⟩
set_option maxRecDepth 100000 in
theorem keyOf_ok {fn : Func} {c : Code} (hf : Try.prog.funcs[160]? = some fn) (hb : fn.body = some c) (hn : (fn.name == "runtime.NumGoroutine") = false) : FnOk Try.prog 160 keyOfK where
  nat R S' g p k := by
    unfold keyOfK
    split <;> rfl
  ok p q hq Z vals H hv hp := by
    unfold keyOfK at hq
    split at hq
    case h_2 => cases hq
    rename_i xs u hu
    have hpk := PkS.un_pack hu
    subst hpk
    have hq' := Option.some.inj hq
    subst hq'
    have ha : All2 (AVRel (AtomRel Z.w (Stab Z (ptab []) H Z.w) (ptab []) H)) [.one (.ro (.int .i64) xs false)] vals.toList := hp.args
    obtain ⟨u0, hvals⟩ : ∃ u0, vals = #[u0] := by
      have := ha.length
      simp only [List.length_cons, List.length_nil, Array.length_toList] at this
      exact ⟨vals[0], by
        refine Array.ext (by simp [← this]) fun i hi1 hi2 => ?_
        match i, hi2 with | 0, _ => rfl⟩
    subst hvals
    have e0 : SlV Z.w (Stab Z (ptab []) H Z.w) 1 (Rd Z.w (Stab Z (ptab []) H Z.w) (.int .i64)) xs u0 := ha.1.1
    have hS : ∀ b, Stab Z (ptab []) H Z.w b → b < Z.w.heap.size := fun b h => by
      rcases h.1 with h | h
      · exact (Z.old _ h).1
      · exact h.2
    refine Does.of_calls hf hb hn ?_
    refine Calls.mono (keyOf_walk u0 _ _ _ _ _ _ _ _ Z.w fun W1 h1 h2 => keyOf_copy hS e0 W1 h1 h2) fun e w' he => ?_
    obtain ⟨rfl, hB⟩ := he
    exact ⟨_, rfl, H, pk_flat8 hB (fun S rt' => ⟨_, rfl, rfl, rfl, rfl, rfl, rfl, rfl, rfl, rfl, trivial⟩) fun S rt' => ⟨trivial, trivial⟩⟩
end Go.Am
