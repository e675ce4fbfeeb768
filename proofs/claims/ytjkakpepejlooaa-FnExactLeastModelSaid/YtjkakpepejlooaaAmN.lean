/- Rows of rows, made and marked: two functions walked by hand. -/
import Derived.Test.YtjkakpepejlooaaAmM
import Derived.Lib.Hide
import Derived.Test.YtjkakpepejlooaaChecked
set_option linter.unusedVariables false
set_option linter.unusedSimpArgs false
namespace Go.Am
open Go Go.Proofs

/-- Rows of rows, as far as they are marked. -/
structure MkInv (w wi : World) (O : Nat → Prop) (ob oo n : Nat) (bd : Nat → Value) (bl : Nat → List Int) (i : Nat) : Prop where
  evo : Evo O w wi
  top : ∃ cur t, wi.heap[ob]? = some (.cells cur t (0, 0)) ∧ oo + n * 2 ≤ cur.size ∧ ∀ j, j < n → cur[oo + j * 2 + 1]? = some (bd j)
  rest : ∀ j, i ≤ j → j < n → ArrOk wi (fun _ => False) (.int .i64) (bl j) (bd j)
structure MkFix (w : World) (O : Nat → Prop) (ob n : Nat) (bd : Nat → Value) : Prop where
  own : ∀ j b, j < n → Bk (bd j) b → O b
  oob : O ob
  out : ∀ j, j < n → ¬ Bk (bd j) ob
  sep : ∀ j j' b, j < n → j' < n → Bk (bd j) b → Bk (bd j') b → j = j'
theorem MkInv.cell {w wi : World} {O : Nat → Prop} {ob oo n i : Nat} {bd : Nat → Value} {bl : Nat → List Int} (h : MkInv w wi O ob oo n bd bl i) {j : Nat} (hj : j < n) : wi.cell? ⟨ob, oo + j * 2 + 1, none⟩ = some (bd j) := by
  obtain ⟨cur, t, h1, h2, h3⟩ := h.top
  simp [World.cell?, h1, h3 j hj]
theorem MkInv.cell0 {w wi : World} {O : Nat → Prop} {ob oo n i : Nat} {bd : Nat → Value} {bl : Nat → List Int} (h : MkInv w wi O ob oo n bd bl i) {j : Nat} (hj : j < n) : ∃ v, wi.cell? ⟨ob, oo + j * 2, none⟩ = some v := by
  obtain ⟨cur, t, h1, h2, h3⟩ := h.top
  have : oo + j * 2 < cur.size := by omega
  exact ⟨cur[oo + j * 2], by simp [World.cell?, h1, this]⟩
theorem MkInv.frozen {w wi : World} {O : Nat → Prop} {ob oo n i : Nat} {bd : Nat → Value} {bl : Nat → List Int} (h : MkInv w wi O ob oo n bd bl i) (k : Nat) : wi.frozen? ⟨ob, k, none⟩ = false := by
  obtain ⟨cur, t, h1, h2, h3⟩ := h.top
  simp [World.frozen?, h1]
theorem MkInv.set {w wi : World} {O : Nat → Prop} {ob oo n i : Nat} {bd : Nat → Value} {bl : Nat → List Int} (hf : MkFix w O ob n bd) (h : MkInv w wi O ob oo n bd bl i) {j : Nat} (v : Value) : MkInv w (wi.setCell ⟨ob, oo + j * 2, none⟩ v) O ob oo n bd bl i := by
  obtain ⟨cur, t, h1, h2, h3⟩ := h.top
  have ho : ∀ c, c ≠ ob → (wi.setCell ⟨ob, oo + j * 2, none⟩ v).heap[c]? = wi.heap[c]? := fun c hc => by
    show (wi.heap.modify ob _)[c]? = _
    rw [Array.getElem?_modify, if_neg (fun e => hc e.symm)]
  refine ⟨h.evo.step (B' := fun c => c = ob) ⟨rfl, rfl, rfl, by simp [World.setCell], fun b _ hb => ho b hb⟩ (fun b _ hb => by rw [hb]; exact hf.oob), ⟨cur.setIfInBounds (oo + j * 2) v, t, ?_, by simpa using h2, fun k hk => ?_⟩, fun k hk hn => ArrOk.blk (h.rest k hk hn) (fun c hc => hc.elim) fun b hb => ho b fun e => hf.out k hn (e ▸ hb)⟩
  · show (wi.heap.modify ob _)[ob]? = _
    rw [Array.getElem?_modify]
    simp [h1]
  · rw [Array.getElem?_setIfInBounds_ne (by omega)]
    exact h3 k hk
theorem MkInv.drew {w wi : World} {O : Nat → Prop} {ob oo n i : Nat} {bd : Nat → Value} {bl : Nat → List Int} (h : MkInv w wi O ob oo n bd bl i) : MkInv w wi.drew O ob oo n bd bl i :=
  ⟨⟨h.evo.os, h.evo.tape, h.evo.output, h.evo.size, h.evo.block⟩, h.top, h.rest⟩
theorem MkInv.drewN {w wi : World} {O : Nat → Prop} {ob oo n i : Nat} {bd : Nat → Value} {bl : Nat → List Int} (h : MkInv w wi O ob oo n bd bl i) (q : Nat) : MkInv w (wi.drewN q) O ob oo n bd bl i :=
  ⟨⟨h.evo.os, h.evo.tape, h.evo.output, h.evo.size, h.evo.block⟩, h.top, h.rest⟩
theorem MkInv.call {w wi w' : World} {O : Nat → Prop} {ob oo n i : Nat} {bd : Nat → Value} {bl : Nat → List Int} (hf : MkFix w O ob n bd) (h : MkInv w wi O ob oo n bd bl i) (hi : i < n) (k : Evo (Bk (bd i)) wi w') : MkInv w w' O ob oo n bd bl (i + 1) := by
  obtain ⟨cur, t, h1, h2, h3⟩ := h.top
  have lt : ob < wi.heap.size := (Array.getElem?_eq_some_iff.1 h1).1
  refine ⟨h.evo.step k (fun b _ hb => hf.own i b hi hb), ⟨cur, t, by rw [k.block ob lt (hf.out i hi)]; exact h1, h2, h3⟩, fun j hj hn => ?_⟩
  have hok := h.rest j (by omega) hn
  refine ArrOk.blk hok (fun c hc => hc.elim) fun b hb => k.block b ?_ fun hb' => ?_
  · rcases hok with ⟨_, a, e⟩ | ⟨b', off, cap, cells, t, e, _, _, e2, _⟩
    · rw [e] at hb; cases a <;> simp [Bk, blkOf] at hb
    · rw [e] at hb; simp [Bk, blkOf] at hb
      obtain ⟨_, rfl⟩ := hb
      exact (Array.getElem?_eq_some_iff.1 e2).1
  · have := hf.sep j i b hn hi hb hb'
    omega
def qAt (bl : Nat → List Int) (q : Int) : Nat → Int
  | 0 => q
  | i + 1 => qAt bl q i + 1 + (bl i).length
theorem mark_walk {ob oo n cap : Nat} {bd : Nat → Value} {bl : Nat → List Int} {q : Int} {w : World} {O : Nat → Prop} (hn63 : n ≤ 4611686018427387904)
    (hq : ∀ i, i ≤ n → 0 ≤ qAt bl q i ∧ qAt bl q i ≤ 4611686018427387904) (hcall : ∀ (i : Nat) (wi : World), i < n → ArrOk wi (fun _ => False) (.int .i64) (bl i) (bd i) → Calls Try.prog 24 #[bd i, .int .i64 (qAt bl q i + 1)] wi fun e w' => e = .returned (.int .i64 (qAt bl q (i + 1))) ∧ Evo (Bk (bd i)) wi w')
    (hf : MkFix w O ob n bd) (h0 : MkInv w w O ob oo n bd bl 0) :
    Calls Try.prog 23 #[.slice (some ⟨ob, oo, none⟩) n cap, .int .i64 q] w fun e w' => e = .returned (.int .i64 (qAt bl q n)) ∧ Evo O w w' := by
  have Hq := Lib.hid hq
  have Hc := Lib.hid hcall
  clear hq hcall
  go_enter Try.func23, Try.ntmps23
  go_wp2
  go_loopg [1, 5] n (fun g s1 s5 wi => ∃ i : Nat, i ≤ n ∧ g = n - i ∧ s1 = .int .i64 (qAt bl q i) ∧ s5 = .int .i64 i ∧ MkInv w wi O ob oo n bd bl i)
  case atStart => exact ⟨0, Nat.zero_le _, rfl, rfl, rfl, h0⟩
  case round =>
    obtain ⟨i, hi, rfl, rfl, rfl, hI⟩ := hrel
    by_cases hlt : i < n
    · have hz : (i : Int) < (n : Int) := by omega
      have hq1 := (Hq.out i hi).1
      have hq2 := (Hq.out i hi).2
      have hC := Lib.hid (Hc.out i)
      generalize qAt bl q i = k at hq1 hq2 hC ⊢
      obtain ⟨v0, t1⟩ := hI.cell0 hlt
      have t2 := hI.cell hlt
      have t3 := hI.frozen (oo + i * 2)
      go_wp2_with fail
      have hS := hI.set hf (j := i) (.int .i64 k)
      refine (hC.out _ hlt (hS.rest i (Nat.le_refl _) hlt)).mono ?_
      rintro e w' ⟨rfl, E⟩
      have hE := Lib.hid (hS.call hf hlt E)
      obtain ⟨k', hk'⟩ : ∃ k', k' = qAt bl q (i + 1) := ⟨_, rfl⟩
      rw [← hk']
      have Hk := Lib.hid hk'
      clear E hS hC t1 t2 t3 hI hk'
      go_wp2
      go_roundg (n - (i + 1))
      case measure => go_light; omega
      case rel => exact ⟨i + 1, by omega, rfl, by rw [Hk.out], by simp, hE.out⟩
    · obtain rfl : i = n := by omega
      have hz : ¬ ((i : Int) < (i : Int)) := by omega
      go_wp2
      go_ret
      exact ⟨rfl, hI.evo⟩
theorem mark_walk0 {a : Option Addr} {q : Int} {w : World} : Calls Try.prog 23 #[.slice a 0 0, .int .i64 q] w fun e w' => e = .returned (.int .i64 q) ∧ w' = w := by
  go_enter Try.func23, Try.ntmps23
  go_wp2
  go_loopg [1, 5] 0 (fun g s1 s5 wi => g = 0 ∧ s1 = .int .i64 q ∧ s5 = .int .i64 0 ∧ wi = w)
  case atStart => exact ⟨rfl, rfl, rfl, rfl⟩
  case round =>
    obtain ⟨rfl, rfl, rfl, rfl⟩ := hrel
    go_wp2
    go_ret
    exact ⟨rfl, rfl⟩
/-! ### Marked: the function -/
abbrev RuleK : Kd := .pr (.int .i64) (.sl (.int .i64))
@[reducible] def markRS : PkS := ⟨[.one (.mp (200000, 0)), .one (.int .i64)], [((200000, 0), .dee RuleK)]⟩
def markTo : List (Int × List Int) → Int → Int
  | [], q => q
  | x :: l, q => markTo l (q + 1 + x.2.length)
def markOut (r : Int) : Pk := ⟨[.one (.int .i64 r), .one .dead, .one .dead], []⟩
def markRK (n : Nat) : KPs := fun R p k => match (PkS.un markRS p : Option (Int × List (Int × List Int) × Unit)) with
  | some (q, xs, _) => bif decide (0 ≤ q) && (decide (markTo xs q ≤ 4611686018427387904) && (decide (xs.length ≤ 4611686018427387904) && xs.all fun x => decide (x.2.length < n))) then k (markOut (markTo xs q)) else none
  | none => none
theorem markTo_at : ∀ (xs : List (Int × List Int)) (q : Int) (i : Nat), i ≤ xs.length → qAt (fun j => (xs.getD j (0, [])).2) q i = markTo (xs.take i) q := by
  intro xs q i hi
  have snoc : ∀ (l : List (Int × List Int)) (x : Int × List Int) (q : Int), markTo (l ++ [x]) q = markTo l q + 1 + x.2.length := by
    intro l x
    induction l with
    | nil => intro q; rfl
    | cons y l ih => intro q; exact ih _
  induction i with
  | zero => rfl
  | succ i ih =>
    have hlt : i < xs.length := by omega
    rw [qAt, ih (by omega), List.take_succ_eq_append_getElem hlt, snoc, List.getD_eq_getElem?_getD, List.getElem?_eq_getElem hlt]
    rfl
theorem markTo_mono : ∀ (xs : List (Int × List Int)) (q : Int), q ≤ markTo xs q
  | [], q => Int.le_refl _
  | x :: l, q => by
    have := markTo_mono l (q + 1 + x.2.length)
    rw [markTo]; omega
theorem markTo_take (xs : List (Int × List Int)) (q : Int) (i : Nat) : markTo (xs.take i) q ≤ markTo xs q := by
  have app : ∀ (l m : List (Int × List Int)) (q : Int), markTo (l ++ m) q = markTo m (markTo l q) := by
    intro l m
    induction l with
    | nil => intro q; rfl
    | cons y l ih => intro q; exact ih _
  have := markTo_mono (xs.drop i) (markTo (xs.take i) q)
  rw [← app, List.take_append_drop] at this
  exact this
theorem bk_of {v : Value} {b : Nat} (hs : ∃ a n c, v = .slice a n c) (h : Bk v b) : blkOf v = some b := by
  obtain ⟨a, n, c, rfl⟩ := hs
  rcases h with h | ⟨cs, h, _⟩
  · exact h
  · cases h
theorem markR_ok {K24 : KPs} {fn24 : Func} {c24 : Code} (hf24 : Try.prog.funcs[24]? = some fn24) (hb24 : fn24.body = some c24) (hn24 : (fn24.name == "runtime.NumGoroutine") = false) (h24 : FnOk Try.prog 24 K24) {n : Nat}
    (hM : ∀ (l : List Int) (q : Int), l.length < n → 0 ≤ q → q + l.length ≤ 4611686018427387904 → ∃ rest rt, K24 Pk (PkS.pack rowIntS (q, l, ())) some = some ⟨.one (.int .i64 (q + l.length)) :: rest, rt⟩)
    {fn : Func} {c : Code} (hf : Try.prog.funcs[23]? = some fn) (hb : fn.body = some c) (hn : (fn.name == "runtime.NumGoroutine") = false) : FnOk Try.prog 23 (markRK n) where
  nat R S' g p k := by
    unfold markRK
    split
    · rename_i q xs _ _
      cases decide (0 ≤ q) && (decide (markTo xs q ≤ 4611686018427387904) && (decide (xs.length ≤ 4611686018427387904) && xs.all fun x => decide (x.2.length < n))) <;> rfl
    · rfl
  ok p q hq Z vals H hv hp := by
    unfold markRK at hq
    split at hq
    case h_2 => cases hq
    rename_i k xs u hu
    have hpk := PkS.un_pack hu
    subst hpk
    cases hcond : decide (0 ≤ k) && (decide (markTo xs k ≤ 4611686018427387904) && (decide (xs.length ≤ 4611686018427387904) && xs.all fun x => decide (x.2.length < n))) with
    | false => rw [hcond] at hq; cases hq
    | true =>
      rw [hcond] at hq
      simp only [Bool.and_eq_true, decide_eq_true_eq, List.all_eq_true] at hcond
      obtain ⟨hk0, hk1, hlen, hall⟩ := hcond
      have hq' : markOut (markTo xs k) = q := Option.some.inj hq
      subst hq'
      have ha : All2 (AVRel (AtomRel Z.w (Stab Z (ptab [((200000, 0), Root.map (.dee RuleK xs))]) H Z.w) (ptab [((200000, 0), Root.map (.dee RuleK xs))]) H)) [.one (.mp (200000, 0)), .one (.int .i64 k)] vals.toList := hp.args
      have hm : Mem Z (ptab [((200000, 0), Root.map (.dee RuleK xs))]) H Z.w := hp.mem
      have l0 : look (ptab [((200000, 0), Root.map (.dee RuleK xs))]) (200000, 0) = some (some (.map (.dee RuleK xs))) := rfl
      obtain ⟨u0, u1, hvals⟩ : ∃ u0 u1, vals = #[u0, u1] := by
        have := ha.length
        simp only [List.length_cons, List.length_nil, Array.length_toList] at this
        exact ⟨vals[0], vals[1], by apply Array.ext <;> simp [← this]; intro i hi1 hi2; match i, hi2 with | 0, _ => rfl | 1, _ => rfl⟩
      subst hvals
      have e0 : u0 = hdOf (H (200000, 0)) := (show _ ∧ _ from ha.1).1
      have e1 : u1 = .int .i64 k := ha.2.1
      have fin : ∀ {w' : World}, Evo (Bk (H (200000, 0))) Z.w w' → ∃ v, Ending.returned (Value.int .i64 (markTo xs k)) = .returned v ∧ ∃ H', PkOk Z (markOut (markTo xs k)) (v :: [u0, u1]) w' H' := fun {w'} hE => by
        have no : ∀ q (x : Root), look ([] : Roots) q = some (some x) → False := fun q x h => by cases h
        refine ⟨_, rfl, H, ⟨rfl, trivial, trivial, trivial⟩, fun q x h => (no q x h).elim, fun q q' x x' b h => (no q x h).elim, fun b ⟨q, x, h, _⟩ => (no q x h).elim, Evo.mono (fun b hb h => ?_) hE⟩
        rcases hm.base b ⟨_, _, l0, rfl, h⟩ with h1 | h1
        · exact h1
        · omega
      have hd : DeeOk Z.w RuleK xs (H (200000, 0)) := hm.roots _ _ l0
      obtain ⟨outer, bodies, hG, hbl, ho, har, hsp⟩ := hd
      have hhd : hdOf (H (200000, 0)) = outer := by rw [hG]; rfl
      refine Does.of_calls hf hb hn ?_
      rw [e0, e1, hhd]
      rcases ho with ⟨hx, a, rfl⟩ | ⟨b, off, cap, cells, t, rfl, c1, ⟨p1, q1⟩, m1, f1, hel, hno⟩
      · subst hx
        refine Calls.mono mark_walk0 ?_
        rintro e w' ⟨rfl, rfl⟩
        have := fin (w' := Z.w) (.refl _ _)
        rw [e0, e1, hhd] at this
        exact this
      · have get : ∀ j, j < xs.length → bodies[j]? = some (bodies.getD j .nilIface) ∧ xs[j]? = some (xs.getD j (0, [])) := fun j hj => by
          have hj' : j < bodies.length := by omega
          simp only [List.getD_eq_getElem?_getD, List.getElem?_eq_getElem hj, List.getElem?_eq_getElem hj', Option.getD_some, and_self]
        have sl : ∀ j, j < xs.length → ∃ a n c, bodies.getD j .nilIface = .slice a n c := fun j hj => by
          rcases har j _ _ (get j hj).2 (get j hj).1 with ⟨_, a, e⟩ | ⟨b', off', cap', cl', t', e, _⟩ <;> exact ⟨_, _, _, e⟩
        have bk : ∀ j b', j < xs.length → Bk (bodies.getD j .nilIface) b' → ∃ o n c, bodies.getD j .nilIface = .slice (some ⟨b', o, none⟩) n c ∧ c ≠ 0 := fun j b' hj h => by
          have h2 := bk_of (sl j hj) h
          rcases har j _ _ (get j hj).2 (get j hj).1 with ⟨_, a, e⟩ | ⟨b2, off', cap', cl', t', e, _, ⟨z, _⟩, _⟩
          · rw [e] at h2; cases a <;> simp [blkOf] at h2
          · rw [e] at h2; simp [blkOf] at h2
            obtain ⟨_, rfl⟩ := h2
            exact ⟨_, _, _, e, by omega⟩
        have hfix : MkFix Z.w (Bk (H (200000, 0))) b xs.length (fun j => bodies.getD j .nilIface) := by
          refine ⟨fun j b' hj h => ?_, ?_, fun j hj h => ?_, fun j j' b' hj hj' h h' => ?_⟩
          · rw [hG]
            exact .inr ⟨_, rfl, _, List.mem_cons_of_mem _ (List.mem_of_getElem? (get j hj).1), bk_of (sl j hj) h⟩
          · rw [hG]
            exact .inr ⟨_, rfl, _, List.mem_cons_self, by simp [blkOf]; omega⟩
          · obtain ⟨o, n', c', e, hc⟩ := bk j b hj h
            exact hc (hno j _ o n' c' (get j hj).1 e)
          · obtain ⟨o, n1, c1', e, hc⟩ := bk j b' hj h
            obtain ⟨o', n2, c2', e', hc'⟩ := bk j' b' hj' h'
            exact hsp j j' _ _ b' o n1 c1' o' n2 c2' (get j hj).1 (get j' hj').1 e e' hc hc'
        have hinv : MkInv Z.w Z.w (Bk (H (200000, 0))) b off xs.length (fun j => bodies.getD j .nilIface) (fun j => (xs.getD j (0, [])).2) 0 := by
          refine ⟨.refl _ _, ⟨cells, t, m1, by omega, fun j hj => (hel j _ _ (get j hj).2 (get j hj).1).2⟩, fun j _ hj => har j _ _ (get j hj).2 (get j hj).1⟩
        have hqq : ∀ i, i ≤ xs.length → 0 ≤ qAt (fun j => (xs.getD j (0, [])).2) k i ∧ qAt (fun j => (xs.getD j (0, [])).2) k i ≤ 4611686018427387904 := fun i hi => by
          rw [markTo_at xs k i hi]
          have h1 := markTo_mono (xs.take i) k
          have h2 := markTo_take xs k i
          omega
        have hend : qAt (fun j => (xs.getD j (0, [])).2) k xs.length = markTo xs k := by rw [markTo_at xs k _ (Nat.le_refl _), List.take_length]
        have hcl : ∀ (i : Nat) (wi : World), i < xs.length → ArrOk wi (fun _ => False) (.int .i64) ((fun j => (xs.getD j (0, [])).2) i) ((fun j => bodies.getD j .nilIface) i) → Calls Try.prog 24 #[(fun j => bodies.getD j .nilIface) i, .int .i64 (qAt (fun j => (xs.getD j (0, [])).2) k i + 1)] wi fun e w' => e = .returned (.int .i64 (qAt (fun j => (xs.getD j (0, [])).2) k (i + 1))) ∧ Evo (Bk ((fun j => bodies.getD j .nilIface) i)) wi w' := fun i wi hi hok => by
          have h1 := hqq i (by omega)
          have h2 := hqq (i + 1) (by omega)
          have h3 : (xs.getD i (0, [])).2.length < n := hall _ (List.mem_of_getElem? (get i hi).2)
          rw [qAt] at h2
          obtain ⟨rest, rt, hK⟩ := hM (xs.getD i (0, [])).2 (qAt (fun j => (xs.getD j (0, [])).2) k i + 1) h3 (by omega) (by omega)
          exact calls_rowInt hf24 hb24 hn24 h24 hK hok
        have walk := mark_walk (cap := cap) (q := k) hlen hqq hcl hfix hinv
        refine Calls.mono walk ?_
        rintro e w' ⟨rfl, E⟩
        rw [hend]
        have := fin E
        rw [e0, e1, hhd] at this
        exact this
/-! ### Rows of rows, made -/
theorem setCell_at {w : World} {b o : Nat} {v : Value} {cur : Array Value} {t : TypeId} {fr : Nat × Nat} (h : w.heap[b]? = some (.cells cur t fr)) : (w.setCell ⟨b, o, none⟩ v).heap[b]? = some (.cells (cur.setIfInBounds o v) t fr) := by
  show (w.heap.modify b _)[b]? = _
  rw [Array.getElem?_modify]
  simp [h]
theorem setCell_off {w : World} {b o c : Nat} {v : Value} (h : c ≠ b) : (w.setCell ⟨b, o, none⟩ v).heap[c]? = w.heap[c]? := by
  show (w.heap.modify b _)[c]? = _
  rw [Array.getElem?_modify, if_neg (fun e => h e.symm)]
/-- As far as they are made: the row itself, and one row an element. -/
structure TrInv (w wi : World) (n : Nat) (hd : Nat → Int) (bl : Nat → List Int) (i : Nat) (bds : List Value) : Prop where
  evo : Evo (fun _ => False) w wi
  len : bds.length = i
  row : ∃ cur t, wi.heap[w.heap.size]? = some (.cells cur t (0, 0)) ∧ cur.size = n * 2 ∧ ∀ (j : Nat) (v : Value), bds[j]? = some v → cur[j * 2]? = some (.int .i64 (hd j)) ∧ cur[j * 2 + 1]? = some v
  ok : ∀ (j : Nat) (v : Value), bds[j]? = some v → ArrOk wi (fun _ => False) (.int .i64) (bl j) v
  new : ∀ (j : Nat) (v : Value) (b : Nat), bds[j]? = some v → Bk v b → w.heap.size < b ∧ b < wi.heap.size
  sep : ∀ (j j' : Nat) (v v' : Value) (b : Nat), bds[j]? = some v → bds[j']? = some v' → Bk v b → Bk v' b → j = j'
section
variable {w wi : World} {n i : Nat} {hd : Nat → Int} {bl : Nat → List Int} {bds : List Value}
theorem TrInv.old (h : TrInv w wi n hd bl i bds) {a : Addr} (ha : a.block < w.heap.size) : wi.cell? a = w.cell? a := by
  simp [World.cell?, h.evo.block _ ha id]
theorem TrInv.cell (h : TrInv w wi n hd bl i bds) {k : Nat} (hk : k < n * 2) : ∃ v, wi.cell? ⟨w.heap.size, k, none⟩ = some v := by
  obtain ⟨cur, t, h1, h2, h3⟩ := h.row
  have : k < cur.size := by omega
  exact ⟨cur[k], by simp [World.cell?, h1, this]⟩
theorem TrInv.frozen (h : TrInv w wi n hd bl i bds) (k : Nat) : wi.frozen? ⟨w.heap.size, k, none⟩ = false := by
  obtain ⟨cur, t, h1, h2, h3⟩ := h.row
  simp [World.frozen?, h1]
theorem TrInv.call {w' : World} (h : TrInv w wi n hd bl i bds) (k : Evo (fun _ => False) wi w') : TrInv w w' n hd bl i bds := by
  obtain ⟨cur, t, h1, h2, h3⟩ := h.row
  have lt : w.heap.size < wi.heap.size := (Array.getElem?_eq_some_iff.1 h1).1
  refine ⟨h.evo.step k (fun b _ hb => hb), h.len, ⟨cur, t, by rw [k.block _ lt id]; exact h1, h2, h3⟩, fun j v hv => ArrOk.blk (h.ok j v hv) (fun c hc => hc.elim) fun b hb => k.block b (h.new j v b hv hb).2 id, fun j v b hv hb => ⟨(h.new j v b hv hb).1, Nat.lt_of_lt_of_le (h.new j v b hv hb).2 k.size⟩, h.sep⟩
theorem TrInv.set (h : TrInv w wi n hd bl i bds) (hi : i < n) {g : Value} (hg : ArrOk wi (fun _ => False) (.int .i64) (bl i) g) (hn : ∀ b, Bk g b → w.heap.size < b ∧ b < wi.heap.size) (hs : ∀ (j : Nat) (v : Value) (b : Nat), bds[j]? = some v → Bk v b → ¬ Bk g b) :
    TrInv w (((wi.setCell ⟨w.heap.size, i * 2, none⟩ (.int .i64 (hd i))).setCell ⟨w.heap.size, i * 2 + 1, none⟩ g)) n hd bl (i + 1) (bds ++ [g]) := by
  obtain ⟨cur, t, h1, h2, h3⟩ := h.row
  have ho : ∀ c, c ≠ w.heap.size → ((wi.setCell ⟨w.heap.size, i * 2, none⟩ (.int .i64 (hd i))).setCell ⟨w.heap.size, i * 2 + 1, none⟩ g).heap[c]? = wi.heap[c]? := fun c hc => by
    rw [setCell_off hc, setCell_off hc]
  have get : ∀ j v, (bds ++ [g])[j]? = some v → (j < i ∧ bds[j]? = some v) ∨ (j = i ∧ v = g) := fun j v hv => by
    by_cases c : j < i
    · rw [List.getElem?_append_left (by rw [h.len]; exact c)] at hv
      exact .inl ⟨c, hv⟩
    · rw [List.getElem?_append_right (by rw [h.len]; omega)] at hv
      have := (List.getElem?_eq_some_iff.1 hv).1
      simp only [List.length_cons, List.length_nil] at this
      have e : j - bds.length = 0 := by omega
      rw [e] at hv
      exact .inr ⟨by have := h.len; omega, (Option.some.inj hv).symm⟩
  have keep : ∀ (l : List Int) v, ArrOk wi (fun _ => False) (.int .i64) l v → (∀ b, Bk v b → w.heap.size < b) → ArrOk ((wi.setCell ⟨w.heap.size, i * 2, none⟩ (.int .i64 (hd i))).setCell ⟨w.heap.size, i * 2 + 1, none⟩ g) (fun _ => False) (.int .i64) l v := fun l v h1 h2 =>
    ArrOk.blk h1 (fun c hc => hc.elim) fun b hb => ho b fun e => by have := h2 b hb; omega
  have sz : ((wi.setCell ⟨w.heap.size, i * 2, none⟩ (.int .i64 (hd i))).setCell ⟨w.heap.size, i * 2 + 1, none⟩ g).heap.size = wi.heap.size := by simp [World.setCell]
  refine ⟨⟨h.evo.os, h.evo.tape, h.evo.output, by rw [sz]; exact h.evo.size, fun b hb hn => (ho b (by omega)).trans (h.evo.block b hb hn)⟩, by simp [h.len], ⟨(cur.setIfInBounds (i * 2) (.int .i64 (hd i))).setIfInBounds (i * 2 + 1) g, t, ?_, by simpa using h2, fun j v hv => ?_⟩, fun j v hv => ?_, fun j v b hv hb => ?_, fun j j' v v' b hv hv' hb hb' => ?_⟩
  · exact setCell_at (setCell_at h1)
  · rcases get j v hv with ⟨c, hv⟩ | ⟨rfl, rfl⟩
    · obtain ⟨a, b⟩ := h3 j v hv
      exact ⟨by rw [Array.getElem?_setIfInBounds_ne (by omega), Array.getElem?_setIfInBounds_ne (by omega)]; exact a, by rw [Array.getElem?_setIfInBounds_ne (by omega), Array.getElem?_setIfInBounds_ne (by omega)]; exact b⟩
    · exact ⟨by rw [Array.getElem?_setIfInBounds_ne (by omega), Array.getElem?_setIfInBounds_self_of_lt (by omega)], by rw [Array.getElem?_setIfInBounds_self_of_lt (by simp; omega)]⟩
  · rcases get j v hv with ⟨c, hv⟩ | ⟨rfl, rfl⟩
    · exact keep _ _ (h.ok j v hv) fun b hb => (h.new j v b hv hb).1
    · exact keep _ _ hg fun b hb => (hn b hb).1
  · rw [sz]
    rcases get j v hv with ⟨c, hv⟩ | ⟨rfl, rfl⟩
    · exact h.new j v b hv hb
    · exact hn b hb
  · rcases get j v hv with ⟨c, hv⟩ | ⟨rfl, rfl⟩
    · rcases get j' v' hv' with ⟨c', hv'⟩ | ⟨rfl, rfl⟩
      · exact h.sep j j' v v' b hv hv' hb hb'
      · exact absurd hb' (hs j v b ‹_› hb)
    · rcases get j' v' hv' with ⟨c', hv'⟩ | ⟨rfl, rfl⟩
      · exact absurd hb (hs j' v' b ‹_› hb')
      · rfl
theorem TrInv.start {z : Array Value} {t : TypeId} : TrInv w (w.alloc (.cells (madeCells z (n * 2)) t)) n hd bl 0 [] := by
  have hsz : w.heap.size < (w.heap.push (.cells (madeCells z (n * 2)) t)).size := by simp
  refine ⟨⟨rfl, rfl, rfl, by show w.heap.size ≤ (w.heap.push _).size; simp, fun b hb _ => ?_⟩, rfl, ⟨madeCells z (n * 2), t, ?_, size_madeCells _ _, fun j v hv => by simp at hv⟩, fun j v hv => by simp at hv, fun j v b hv => by simp at hv, fun j j' v v' b hv => by simp at hv⟩
  · show (w.heap.push _)[b]? = _
    rw [Array.getElem?_push, if_neg (by omega)]
  · show (w.heap.push _)[w.heap.size]? = _
    simp
theorem TrInv.drew (h : TrInv w wi n hd bl i bds) : TrInv w wi.drew n hd bl i bds :=
  ⟨⟨h.evo.os, h.evo.tape, h.evo.output, h.evo.size, h.evo.block⟩, h.len, h.row, h.ok, h.new, h.sep⟩
end
theorem info48 : (Try.prog.info? 48).map (fun i => (i.zero, i.size, i.bytes)) = some (some (.agg #[.int .i64 0, .slice none 0 0]), 2, 32) := by kernel_rfl
theorem make25 (n : Nat) (hn : n ≤ 1048576) (w : World) : (Instr.makeSlice 25 (.int .i64 (n : Int)) (.int .i64 (n : Int))).run Try.prog w = .ok (.slice (some ⟨w.heap.size, 0, none⟩) n n) (w.alloc (.cells (madeCells (Value.agg #[.int .i64 0, .slice none 0 0]).cells (n * 2)) 48)) := by
  obtain ⟨i, hi, hzz⟩ := Option.map_eq_some_iff.1 info48
  simp only [Prod.mk.injEq] at hzz
  obtain ⟨hz, hs, hb⟩ := hzz
  have hr := run_make (P := Try.prog) w 25 48 i _ (by kernel_rfl) hi hz .i64 .i64 n n (by omega) (Int.le_refl _) (by rw [hb]; omega) (by omega)
  rw [hs] at hr
  simpa using hr
set_option maxRecDepth 100000 in
set_option maxHeartbeats 1000000 in
theorem to_walk {ab ao n cap : Nat} {hd : Nat → Int} {bl : Nat → List Int} {bs : Nat → Value} {w : World} (hn : n ≤ 1048576) (hcap : n ≤ cap)
    (hab : ab < w.heap.size) (hc0 : ∀ j, j < n → w.cell? ⟨ab, ao + j * 2, none⟩ = some (.int .i64 (hd j))) (hc1 : ∀ j, j < n → w.cell? ⟨ab, ao + j * 2 + 1, none⟩ = some (bs j))
    (hcall : ∀ (i : Nat) (wi : World), i < n → Evo (fun _ => False) w wi → Calls Try.prog 42 #[.agg #[.int .i64 (hd i), bs i]] wi fun e w' => ∃ g, e = .returned (.agg #[.int .i64 (hd i), g]) ∧ Evo (fun _ => False) wi w' ∧ ArrOk w' (fun _ => False) (.int .i64) (bl i) g ∧ ∀ b, Bk g b → wi.heap.size ≤ b ∧ b < w'.heap.size) :
    Calls Try.prog 14 #[.slice (some ⟨ab, ao, none⟩) n cap] w fun e w' => e = .returned (.slice (some ⟨w.heap.size, 0, none⟩) n n) ∧ ∃ bds, TrInv w w' n hd bl n bds := by
  have H0 := Lib.hid hc0
  have H1 := Lib.hid hc1
  have Hc := Lib.hid hcall
  clear hc0 hc1 hcall
  have hmk := make25 n hn
  go_enter Try.func14, Try.ntmps14
  go_wp2
  clear hmk
  go_loopg [4] n (fun g s4 wi => ∃ (i : Nat) (bds : List Value), i ≤ n ∧ g = n - i ∧ s4 = .int .i64 i ∧ TrInv w wi n hd bl i bds)
  case atStart => exact ⟨0, [], Nat.zero_le _, rfl, rfl, TrInv.start⟩
  case round =>
    obtain ⟨i, bds, hi, rfl, rfl, hI⟩ := hrel
    by_cases hlt : i < n
    · have hz : (i : Int) < (n : Int) := by omega
      have a0 : wr.cell? ⟨ab, ao + i * 2, none⟩ = some (.int .i64 (hd i)) := (hI.old hab).trans (H0.out i hlt)
      have a1 : wr.cell? ⟨ab, ao + i * 2 + 1, none⟩ = some (bs i) := (hI.old hab).trans (H1.out i hlt)
      have hC := Lib.hid (Hc.out i wr hlt hI.evo)
      go_wp2_with fail
      refine hC.out.mono ?_
      rintro e w' ⟨g, rfl, E, hg, hgn⟩
      obtain ⟨ga, gn, gc, rfl⟩ : ∃ a n c, g = .slice a n c := by
        rcases hg with ⟨_, a, e⟩ | ⟨b', off', cap', cl', t', e, _⟩ <;> exact ⟨_, _, _, e⟩
      have hI2 := hI.call E
      have hnew : ∀ b, Bk (.slice ga gn gc) b → w.heap.size < b ∧ b < w'.heap.size := fun b hb => by
        obtain ⟨cur, t, h1, _⟩ := hI.row
        have := (Array.getElem?_eq_some_iff.1 h1).1
        have := hgn b hb
        omega
      have hdis : ∀ (j : Nat) (v : Value) (b : Nat), bds[j]? = some v → Bk v b → ¬ Bk (.slice ga gn gc) b := fun j v b hv hb hb' => by
        have h1 := (hI.new j v b hv hb).2
        have h2 := (hgn b hb').1
        omega
      have hS := Lib.hid (hI2.set hlt hg hnew hdis)
      obtain ⟨v0, b0⟩ := hI2.cell (k := i * 2) (by omega)
      obtain ⟨v1, b1⟩ := hI2.cell (k := i * 2 + 1) (by omega)
      have f0 := hI2.frozen (i * 2)
      have f1 := hI2.frozen (i * 2 + 1)
      have b2 : ∀ u, (w'.setCell ⟨w.heap.size, i * 2, none⟩ u).cell? ⟨w.heap.size, i * 2 + 1, none⟩ = some v1 := fun u => by
        rw [World.cell?_setCell_other _ _ _ _ (fun e => by have := congrArg Addr.off e; simp at this)]; exact b1
      have f2 : ∀ u, (w'.setCell ⟨w.heap.size, i * 2, none⟩ u).frozen? ⟨w.heap.size, i * 2 + 1, none⟩ = false := fun u => by
        obtain ⟨cur, t, h1, _⟩ := hI2.row
        have := setCell_at (o := i * 2) (v := u) h1
        simp [World.frozen?, this]
      clear hI E hg hgn hnew hdis hC hI2 a0 a1
      go_wp2
      go_roundg (n - (i + 1))
      case measure => go_light; omega
      case rel => exact ⟨i + 1, _, by omega, rfl, by simp, hS.out⟩
    · obtain rfl : i = n := by omega
      have hz : ¬ ((i : Int) < (i : Int)) := by omega
      go_wp2
      go_ret
      exact ⟨rfl, _, hI⟩
theorem evo_alloc (w : World) (o : Obj) : Evo (fun _ => False) w (w.alloc o) :=
  ⟨rfl, rfl, rfl, by show w.heap.size ≤ (w.heap.push o).size; simp, fun b hb _ => by show (w.heap.push _)[b]? = _; rw [Array.getElem?_push, if_neg (by omega)]⟩
theorem to_walk0 {a : Option Addr} {c : Nat} {w : World} : Calls Try.prog 14 #[.slice a 0 c] w fun e w' => e = .returned (.slice (some ⟨w.heap.size, 0, none⟩) 0 0) ∧ Evo (fun _ => False) w w' := by
  obtain ⟨C, hC⟩ : ∃ C, C = madeCells (Value.agg #[.int .i64 0, .slice none 0 0]).cells (0 * 2) := ⟨_, rfl⟩
  have hmk : ∀ w, (Instr.makeSlice 25 (.int .i64 0) (.int .i64 0)).run Try.prog w = .ok (.slice (some ⟨w.heap.size, 0, none⟩) 0 0) (w.alloc (.cells C 48)) := hC ▸ make25 0 (by omega)
  clear hC
  go_enter Try.func14, Try.ntmps14
  go_wp2
  clear hmk
  go_loopg [4] 0 (fun g s4 wi => g = 0 ∧ s4 = .int .i64 0 ∧ wi = w.alloc (.cells C 48))
  case atStart => exact ⟨rfl, rfl, rfl⟩
  case round =>
    obtain ⟨rfl, rfl, rfl⟩ := hrel
    go_wp2
    go_ret
    exact ⟨rfl, evo_alloc _ _⟩
/-! ### Made: the function -/
@[reducible] def toRS : PkS := ⟨[.one (.ro RuleK)], []⟩
def toOut (xs : List (Int × List Int)) : Pk := ⟨[.one (.mp (300000, 0)), .one .dead], [((300000, 0), .map (.dee RuleK xs))]⟩
def toRK (n : Nat) : KPs := fun R p k => match (PkS.un toRS p : Option (List (Int × List Int) × Unit)) with
  | some (xs, _) => bif decide (xs.length ≤ 1048576) && xs.all fun x => decide (x.2.length ≤ 1048576) && decide (x.2.length < n) then k (toOut xs) else none
  | none => none
theorem toR_ok {K42 : KPs} {fn42 : Func} {c42 : Code} (hf42 : Try.prog.funcs[42]? = some fn42) (hb42 : fn42.body = some c42) (hn42 : (fn42.name == "runtime.NumGoroutine") = false) (h42 : FnOk Try.prog 42 K42) {n : Nat}
    (hT : ∀ (k : Int) (l : List Int), l.length ≤ 1048576 → l.length < n → ∃ rest, K42 Pk (PkS.pack intRoS (k, l, ())) some = some ⟨.agg [.int .i64 k, .whole (300000, 0)] :: rest, [((300000, 0), .arr (.int .i64) l)]⟩)
    {fn : Func} {c : Code} (hf : Try.prog.funcs[14]? = some fn) (hb : fn.body = some c) (hn : (fn.name == "runtime.NumGoroutine") = false) : FnOk Try.prog 14 (toRK n) where
  nat R S' g p k := by
    unfold toRK
    split
    · rename_i xs _ _
      cases decide (xs.length ≤ 1048576) && xs.all fun x => decide (x.2.length ≤ 1048576) && decide (x.2.length < n) <;> rfl
    · rfl
  ok p q hq Z vals H hv hp := by
    unfold toRK at hq
    split at hq
    case h_2 => cases hq
    rename_i xs u hu
    have hpk := PkS.un_pack hu
    subst hpk
    cases hcond : decide (xs.length ≤ 1048576) && xs.all fun x => decide (x.2.length ≤ 1048576) && decide (x.2.length < n) with
    | false => rw [hcond] at hq; cases hq
    | true =>
      rw [hcond] at hq
      simp only [Bool.and_eq_true, decide_eq_true_eq, List.all_eq_true] at hcond
      obtain ⟨hlen, hall⟩ := hcond
      have hq' : toOut xs = q := Option.some.inj hq
      subst hq'
      have ha : All2 (AVRel (AtomRel Z.w (Stab Z [] H Z.w) [] H)) [.one (.ro RuleK xs false)] vals.toList := hp.args
      have hm : Mem Z [] H Z.w := hp.mem
      obtain ⟨u0, hvals⟩ : ∃ u0, vals = #[u0] := by
        have := ha.length
        simp only [List.length_cons, List.length_nil, Array.length_toList] at this
        exact ⟨vals[0], by
          refine Array.ext (by simp [← this]) fun i hi1 hi2 => ?_
          match i, hi2 with | 0, _ => rfl⟩
      subst hvals
      have hsl : SlV Z.w (Stab Z [] H Z.w) 2 (Rd Z.w (Stab Z [] H Z.w) RuleK) xs u0 := (show _ ∧ _ from ha.1).1
      have hst : ∀ b, Stab Z [] H Z.w b → b < Z.w.heap.size := fun b hb => Stab.lt hm hb
      -- what comes back
      have fin : ∀ {w' : World} {outer : Value} {bodies : List Value}, Evo (fun _ => False) Z.w w' → DeeOk w' RuleK xs (.agg (outer :: bodies).toArray) → (∀ b, Bk (.agg (outer :: bodies).toArray) b → Z.w.heap.size ≤ b) → outer.oneCell' = true → ∃ v, Ending.returned outer = .returned v ∧ ∃ H', PkOk Z (toOut xs) (v :: [u0]) w' H' := fun {w' outer bodies} hE hD hB h1 => by
        have hl : ∀ r x, look (ptab (toOut xs).rt) r = some (some x) → r = (300000, 0) ∧ x = .map (.dee RuleK xs) := by
          intro r x h
          simp only [toOut, ptab, List.map_cons, List.map_nil, look] at h
          cases hb : Rid.beq r (300000, 0) with
          | true => rw [hb] at h; simp at h; exact ⟨Rid.eq_of_beq hb, h.symm⟩
          | false => rw [hb] at h; simp at h
        refine ⟨_, rfl, fun _ => .agg (outer :: bodies).toArray, ⟨⟨show outer = hdOf (.agg (outer :: bodies).toArray) from rfl, h1⟩, trivial, trivial⟩, fun r x h => ?_, fun r r' x x' b h h' _ _ _ _ => by rw [(hl r x h).1, (hl r' x' h').1], fun b ⟨r, x, h, _, h2⟩ => .inr (hB b h2), Evo.mono (fun b _ h => h.elim) hE⟩
        obtain ⟨rfl, rfl⟩ := hl r x h
        exact hD
      refine Does.of_calls hf hb hn ?_
      rcases hsl with ⟨hx, a, c', rfl, _⟩ | ⟨ab, ao, cap, cells, t, fr, rfl, c1, hS, m1, hel⟩
      · subst hx
        refine Calls.mono to_walk0 ?_
        rintro e w' ⟨rfl, E⟩
        exact fin (bodies := []) E ⟨_, [], rfl, rfl, .inl ⟨rfl, _, rfl⟩, fun i x v hx => by simp at hx, fun i j v v' b o n c o' n' c' h => by simp at h⟩ (fun b hb => by
          rcases hb with hb | ⟨cs, hb, u, hu, h2⟩
          · cases hb
          · cases hb; simp at hu; subst hu; simp [blkOf] at h2) rfl
      · have get : ∀ j, j < xs.length → xs[j]? = some (xs.getD j (0, [])) := fun j hj => by
          simp only [List.getD_eq_getElem?_getD, List.getElem?_eq_getElem hj, Option.getD_some]
        have rd : ∀ j, j < xs.length → ∃ v, cells[ao + j * 2]? = some (.int .i64 (xs.getD j (0, [])).1) ∧ cells[ao + j * 2 + 1]? = some v ∧ SlV Z.w (Stab Z [] H Z.w) 1 (Rd Z.w (Stab Z [] H Z.w) (.int .i64)) (xs.getD j (0, [])).2 v := fun j hj => by
          obtain ⟨cs, h1, h2⟩ := hel j _ (get j hj)
          obtain ⟨c₁, c₂, e, r1, v, r2, r3⟩ := h1
          have r1' : c₁ = [.int .i64 (xs.getD j (0, [])).1] := r1
          subst r1'
          subst r2
          subst e
          exact ⟨v, by have := h2 0 _ rfl; simpa using this, h2 1 _ rfl, r3⟩
        have hc : ∀ j, ∃ v, j < xs.length → cells[ao + j * 2]? = some (.int .i64 (xs.getD j (0, [])).1) ∧ cells[ao + j * 2 + 1]? = some v ∧ SlV Z.w (Stab Z [] H Z.w) 1 (Rd Z.w (Stab Z [] H Z.w) (.int .i64)) (xs.getD j (0, [])).2 v := fun j => by
          by_cases hj : j < xs.length
          · obtain ⟨v, h⟩ := rd j hj; exact ⟨v, fun _ => h⟩
          · exact ⟨.nilIface, fun h => absurd h hj⟩
        obtain ⟨bs, hbs⟩ := Classical.axiomOfChoice hc
        have walk := to_walk (ab := ab) (ao := ao) (n := xs.length) (cap := cap) (hd := fun j => (xs.getD j (0, [])).1) (bl := fun j => (xs.getD j (0, [])).2) (bs := bs) (w := Z.w) hlen c1 (hst ab hS)
          (fun j hj => by have := (hbs j hj).1; simp [World.cell?, m1, this]) (fun j hj => by have := (hbs j hj).2.1; simp [World.cell?, m1, this]) (fun i wi hi hev => by
            have h3 := hall _ (List.mem_of_getElem? (get i hi))
            obtain ⟨rest, hK⟩ := hT (xs.getD i (0, [])).1 (xs.getD i (0, [])).2 h3.1 h3.2
            refine calls_intRo hf42 hb42 hn42 h42 hK (S := Stab Z [] H Z.w) (fun b hb => Nat.lt_of_lt_of_le (hst b hb) hev.size) ?_
            exact SlV.mono (fun b hb => ⟨hb, hev.block b (hst b hb) id⟩) (fun x cs hx => Rd.mono (fun b hb => ⟨hb, hev.block b (hst b hb) id⟩) hx) (hbs i hi).2.2)
        refine Calls.mono walk ?_
        rintro e w' ⟨rfl, bds, hI⟩
        obtain ⟨cur, t', k1, k2, k3⟩ := hI.row
        by_cases h0 : xs.length = 0
        · have hx : xs = [] := List.length_eq_zero_iff.1 h0
          subst hx
          exact fin (bodies := []) hI.evo ⟨_, [], rfl, rfl, .inl ⟨rfl, _, rfl⟩, fun i x v hx => by simp at hx, fun i j v v' b o n c o' n' c' h => by simp at h⟩ (fun b hb => by
            rcases hb with hb | ⟨cs, hb, u, hu, h2⟩
            · cases hb
            · cases hb; simp at hu; subst hu; simp [blkOf] at h2) rfl
        · have isl : ∀ (i : Nat) v, bds[i]? = some v → ∃ a n c, v = .slice a n c := fun i v hv => by
            rcases hI.ok i v hv with ⟨_, a, e⟩ | ⟨b', off', cap', cl', t', e, _⟩ <;> exact ⟨_, _, _, e⟩
          refine fin (bodies := bds) hI.evo ⟨_, bds, rfl, hI.len, .inr ⟨Z.w.heap.size, 0, xs.length, cur, t', rfl, Nat.le_refl _, ⟨by omega, by omega⟩, k1, by omega, fun i x v hx hv => ?_, fun i v o n' c' hv e => ?_⟩, fun i x v hx hv => ?_, fun i j v v' b o n1 c1 o' n2 c2 hv hv' e e' z z' => ?_⟩ (fun b hb => ?_) rfl
          · have := k3 i v hv
            have hi : i < xs.length := (List.getElem?_eq_some_iff.1 hx).1
            have hxe : xs.getD i (0, []) = x := by have := get i hi; rw [hx] at this; exact (Option.some.inj this).symm
            simp only [hxe, Nat.zero_add] at this ⊢
            exact this
          · cases c' with
            | zero => rfl
            | succ c' =>
              have := (hI.new i v Z.w.heap.size hv (.inl (by rw [e]; rfl))).1
              omega
          · have hi : i < xs.length := (List.getElem?_eq_some_iff.1 hx).1
            have hxe : xs.getD i (0, []) = x := by have := get i hi; rw [hx] at this; exact (Option.some.inj this).symm
            have := hI.ok i v hv
            rw [hxe] at this
            exact this
          · exact hI.sep i j v v' b hv hv' (.inl (by rw [e]; simp [blkOf]; omega)) (.inl (by rw [e']; simp [blkOf]; omega))
          · rcases hb with hb | ⟨cs, hb, u, hu, h2⟩
            · cases hb
            · cases hb
              simp only [List.mem_cons] at hu
              rcases hu with rfl | hu
              · simp [blkOf] at h2; omega
              · obtain ⟨i, hi⟩ := List.mem_iff_getElem?.1 hu
                have := (hI.new i u b hi (.inl h2)).1
                omega
end Go.Am
