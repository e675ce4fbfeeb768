/- Texts of numbers, texts cut and joined, by their contracts on the shelf. -/
import Derived.Test.YtfodnlonkningaaGreatDoorAmE
import Derived.Shelf.Strconv.Itoa3
import Derived.Shelf.Strconv.Atoi
import Derived.Shelf.Strings.OnBuilder
import Derived.Shelf.Strings.Split
import Derived.Lib.AppendIntMem
import Derived.Lib.SmallJoins
import Derived.Shelf.Strings.Cut
import Derived.Lib.SplitLaws
set_option linter.unusedVariables false
set_option linter.unusedSimpArgs false
namespace Go.Am
open Go

/-! ### Texts of numbers, texts cut and joined: by their contracts on the shelf -/
section
variable {P : Program}
theorem Gl.tab {w : World} {S : Nat → Prop} (h : Gl w S) {g : Nat} (hG : (g, isTab) ∈ glob) {name : String} (hT : P.globalNamed name = some g) : Lib.TabIs P w name .u64 Lib.pow10Tab ∧ S g := by
  obtain ⟨h1, c, t, fr, h2, h3⟩ := h _ hG
  refine ⟨?_, h1⟩
  unfold Lib.TabIs World.var?
  have h2' : w.heap[g]? = some (.cells c t fr) := h2
  rw [hT]
  simp only [Option.bind_some, h2']
  rw [show c = _ from h3]
  rfl
theorem Gl.int {w : World} {S : Nat → Prop} (h : Gl w S) {g : Nat} (hG : (g, isInt) ∈ glob) : ∃ m, w.cell? ⟨g, 0, none⟩ = some (.int .i64 m) := by
  obtain ⟨h1, c, t, fr, h2, m, h3⟩ := h _ hG
  have h2' : w.heap[g]? = some (.cells c t fr) := h2
  exact ⟨m, by simp [World.cell?, h2', h3]⟩
/-- What comes back holds no row. -/
theorem pk_flat {Z : Base} {H : Gh} {w' : World} {v : Value} {us : List Value} {a : AV} {ds : List AV} (hB : RowKit.Below Z.w.heap.size Z.w w') (ha : ∀ S rt', AVRel (AtomRel w' S rt' H) a v) (hd : ∀ S rt', All2 (AVRel (AtomRel w' S rt' H)) ds us) : PkOk Z ⟨a :: ds, []⟩ (v :: us) w' H := by
  have no : ∀ q (x : Root), look ([] : Roots) q = some (some x) → False := fun q x h => by cases h
  exact ⟨⟨ha _ _, hd _ _⟩, ⟨fun q x h => (no q x h).elim, fun q q' x x' b h => (no q x h).elim, fun b ⟨q, x, h, _⟩ => (no q x h).elim, ⟨hB.os, hB.tape, hB.output, hB.size, fun b hb' _ => hB.block b hb'⟩⟩⟩
@[reducible] def itoaI : PkS := ⟨[.one (.int .i64)], []⟩
@[reducible] def itoaT : PkS := ⟨[.one (.str), .one (.dead)], []⟩
def itoaK : KPs := fun R p k => match (PkS.un itoaI p : Option (Int × Unit)) with
  | some (n, _) => (bif decide (-9223372036854775808 ≤ n) && decide (n ≤ 9223372036854775807) then k (PkS.pack itoaT (⟨(Lib.itoa n).toArray⟩, ())) else none)
  | none => none
theorem itoa_ok {ρ : Shelf.Ren} (L : Proofs.LaysM.n171 P ρ) {g : Nat} (hG : (g, isTab) ∈ glob) (hT : P.globalNamed "internal/strconv.uint64pow10" = some g) {f : Nat} (hρ : ρ.f 171 = f) {fn : Func} {c : Code} (hf : P.funcs[f]? = some fn) (hb : fn.body = some c) (hn : (fn.name == "runtime.NumGoroutine") = false) : FnOk P f itoaK where
  nat R S' g p k := by
    unfold itoaK
    split
    · rename_i n _ _
      cases decide (-9223372036854775808 ≤ n) && decide (n ≤ 9223372036854775807) <;> rfl
    · rfl
  ok p q hq Z vals H hv hp := by
    unfold itoaK at hq
    split at hq
    case h_2 => cases hq
    rename_i n u hu
    have hpk := PkS.un_pack hu
    subst hpk
    cases h1 : decide (-9223372036854775808 ≤ n) && decide (n ≤ 9223372036854775807) with
    | false => rw [h1] at hq; cases hq
    | true =>
    rw [h1] at hq
    simp only [Bool.and_eq_true, decide_eq_true_eq] at h1
    have hq' := Option.some.inj hq
    subst hq'
    have ha : All2 (AVRel (AtomRel Z.w (Stab Z (ptab []) H Z.w) (ptab []) H)) [.one (.int .i64 n)] vals.toList := hp.args
    obtain ⟨u0, hvals⟩ : ∃ u0, vals = #[u0] := by
      have := ha.length
      simp only [List.length_cons, List.length_nil, Array.length_toList] at this
      exact ⟨vals[0], by
        refine Array.ext (by simp [← this]) fun i hi1 hi2 => ?_
        match i, hi2 with | 0, _ => rfl⟩
    subst hvals
    have e0 : u0 = .int .i64 n := ha.1
    refine Does.of_calls hf hb hn ?_
    rw [← hρ, e0]
    refine Calls.mono (Proofs.Any.strconv_Itoa L n h1.1 h1.2 Z.w (Z.gl.tab hG hT).1) fun e w' he => ?_
    obtain ⟨rfl, k, os, rfl⟩ := he
    exact ⟨_, rfl, H, pk_flat (Lib.below_grow _ _ (Nat.le_refl _) k os) (fun S rt' => rfl) fun S rt' => ⟨trivial, trivial⟩⟩
/-- What comes back is a row of one's own, new. -/
theorem ins0_done {Z : Base} {H : Gh} {us : List Value} {ys : List ByteArray} {g : Value} {o : Obj} (hm : Mem Z [] H Z.w) (hlen : us.length = 3) (hg : ∀ S : Nat → Prop, ArrOk (Z.w.alloc o) S .str ys g) (hb : ∀ b, Bk g b → Z.w.heap.size ≤ b) :
    ∃ H', PkOk Z ⟨[.one (.whole (300000, 0)), .one .dead, .one .dead, .one .dead], [((300000, 0), .arr .str ys)]⟩ (g :: us) (Z.w.alloc o) H' := by
  obtain ⟨H', h⟩ := insZ_done (Z := Z) (H := H) (rt := []) (us := us) (ys := ys) (g := g) (w' := Z.w.alloc o) hm hlen hg (fun b h => .inr (hb b h)) rfl rfl rfl (by show Z.w.heap.size ≤ (Z.w.heap.push o).size; simp) (fun c h1 _ => heap_alloc_old Z.w _ h1)
  exact ⟨H', h⟩
@[reducible] def splitI : PkS := ⟨[.one (.str), .one (.str), .one (.int .i64)], []⟩
def splitOut (xs : List ByteArray) : Pk := ⟨[.one (.whole (300000, 0)), .one .dead, .one .dead, .one .dead], [((300000, 0), .arr .str xs)]⟩
def splitK : KPs := fun R p k => match (PkS.un splitI p : Option (ByteArray × ByteArray × Int × Unit)) with
  | some (s, sep, n, _) => (bif decide (s.size < 4294967281) && (decide (1 ≤ sep.size) && (decide (1 ≤ n) && decide (n ≤ 9223372036854775807))) then k (splitOut (Lib.splitB sep 0 (min (Int.toNat n) (s.size + 1) - 1) s)) else none)
  | none => none
theorem splitN_ok {ρ : Shelf.Ren} (L : Proofs.Lays.n147 P ρ) (hi9 : (P.info? (ρ.t 9)).map (fun i => (i.zero, i.size, i.bytes)) = some (some (.string ByteArray.empty), 1, 16)) (hG : (ρ.g 1, isInt) ∈ glob) {f : Nat} (hρ : ρ.f 147 = f) {fn : Func} {c : Code} (hf : P.funcs[f]? = some fn) (hb : fn.body = some c) (hn : (fn.name == "runtime.NumGoroutine") = false) : FnOk P f splitK where
  nat R S' g p k := by
    unfold splitK
    split
    · rename_i s sep n _ _
      cases decide (s.size < 4294967281) && (decide (1 ≤ sep.size) && (decide (1 ≤ n) && decide (n ≤ 9223372036854775807))) <;> rfl
    · rfl
  ok p q hq Z vals H hv hp := by
    unfold splitK at hq
    split at hq
    case h_2 => cases hq
    rename_i s sep n u hu
    have hpk := PkS.un_pack hu
    subst hpk
    cases h1 : decide (s.size < 4294967281) && (decide (1 ≤ sep.size) && (decide (1 ≤ n) && decide (n ≤ 9223372036854775807))) with
    | false => rw [h1] at hq; cases hq
    | true =>
    rw [h1] at hq
    simp only [Bool.and_eq_true, decide_eq_true_eq] at h1
    obtain ⟨hs, h2, h3, h4⟩ := h1
    have hq' := Option.some.inj hq
    subst hq'
    obtain ⟨m, rfl⟩ : ∃ m : Nat, n = m := ⟨n.toNat, by omega⟩
    rw [Int.toNat_natCast]
    have ha : All2 (AVRel (AtomRel Z.w (Stab Z (ptab []) H Z.w) (ptab []) H)) [.one (.str s), .one (.str sep), .one (.int .i64 m)] vals.toList := hp.args
    have hm : Mem Z [] H Z.w := hp.mem
    obtain ⟨u0, u1, u2, hvals⟩ : ∃ u0 u1 u2, vals = #[u0, u1, u2] := by
      have := ha.length
      simp only [List.length_cons, List.length_nil, Array.length_toList] at this
      exact ⟨vals[0], vals[1], vals[2], by apply Array.ext <;> simp [← this] ; intro i hi1 hi2; match i, hi2 with | 0, _ => rfl | 1, _ => rfl | 2, _ => rfl⟩
    subst hvals
    have e0 : u0 = .string s := ha.1
    have e1 : u1 = .string sep := ha.2.1
    have e2 : u2 = .int .i64 m := ha.2.2.1
    obtain ⟨mm, hmm⟩ := Z.gl.int hG
    refine Does.of_calls hf hb hn ?_
    rw [← hρ, e0, e1, e2]
    refine Calls.mono (Proofs.Any.strings_SplitN L hi9 s sep m mm Z.w hs hmm h2 (by omega) (by omega)) fun e w' he => ?_
    obtain ⟨rfl, rfl⟩ := he
    have hle := Lib.splitB_length_le sep 0 (min m (s.size + 1) - 1) s
    generalize hX : Lib.splitB sep 0 (min m (s.size + 1) - 1) s = xs at hle ⊢
    have hcap : xs.length ≤ min m (s.size + 1) := by omega
    refine ⟨_, rfl, ins0_done hm rfl (fun S => .inr ⟨Z.w.heap.size, 0, min m (s.size + 1), Lib.cellsOf xs (min m (s.size + 1)), ρ.t 9, rfl, hcap, ⟨by omega, by omega⟩, heap_alloc_new Z.w _, ?_, str_elts fun j v hj => ?_⟩) (fun b h => ?_)⟩
    · rw [Lib.cellsOf_size hcap]
      simp [Kd.size]
    · have hlt := (List.getElem?_eq_some_iff.1 hj).1
      rw [Nat.zero_add, Lib.cellsOf, List.getElem?_toArray, List.getElem?_append_left hlt]
      exact hj
    · simp [Bk, blkOf] at h
      omega
@[reducible] def joinI : PkS := ⟨[.one (.ro .str), .one (.str)], []⟩
@[reducible] def joinT : PkS := ⟨[.one (.str), .one (.dead), .one (.dead)], []⟩
def joinK : KPs := fun R p k => match (PkS.un joinI p : Option (List ByteArray × ByteArray × Unit)) with
  | some (xs, sep, _) => (bif decide (0 < xs.length) && (decide (xs.length ≤ 1099511627776) && decide ((Lib.join (xs.map (·.data.toList)) sep.data.toList).length ≤ 1099511627776)) then k (PkS.pack joinT (⟨(Lib.join (xs.map (·.data.toList)) sep.data.toList).toArray⟩, ())) else none)
  | none => none
theorem join_ok {ρ : Shelf.Ren} (L : Proofs.Lays.n156 P ρ) (X : Proofs.Builder.Extra P ρ) {f : Nat} (hρ : ρ.f 156 = f) {fn : Func} {c : Code} (hf : P.funcs[f]? = some fn) (hb : fn.body = some c) (hn : (fn.name == "runtime.NumGoroutine") = false) : FnOk P f joinK where
  nat R S' g p k := by
    unfold joinK
    split
    · rename_i xs sep _ _
      cases decide (0 < xs.length) && (decide (xs.length ≤ 1099511627776) && decide ((Lib.join (xs.map (·.data.toList)) sep.data.toList).length ≤ 1099511627776)) <;> rfl
    · rfl
  ok p q hq Z vals H hv hp := by
    unfold joinK at hq
    split at hq
    case h_2 => cases hq
    rename_i xs sep u hu
    have hpk := PkS.un_pack hu
    subst hpk
    cases h1 : decide (0 < xs.length) && (decide (xs.length ≤ 1099511627776) && decide ((Lib.join (xs.map (·.data.toList)) sep.data.toList).length ≤ 1099511627776)) with
    | false => rw [h1] at hq; cases hq
    | true =>
    rw [h1] at hq
    simp only [Bool.and_eq_true, decide_eq_true_eq] at h1
    obtain ⟨h0, h2, h3⟩ := h1
    have hq' := Option.some.inj hq
    subst hq'
    have ha : All2 (AVRel (AtomRel Z.w (Stab Z (ptab []) H Z.w) (ptab []) H)) [.one (.ro .str xs false), .one (.str sep)] vals.toList := hp.args
    have hm : Mem Z [] H Z.w := hp.mem
    obtain ⟨u0, u1, hvals⟩ : ∃ u0 u1, vals = #[u0, u1] := by
      have := ha.length
      simp only [List.length_cons, List.length_nil, Array.length_toList] at this
      exact ⟨vals[0], vals[1], by apply Array.ext <;> simp [← this] ; intro i hi1 hi2; match i, hi2 with | 0, _ => rfl | 1, _ => rfl⟩
    subst hvals
    have e1 : u1 = .string sep := ha.2.1
    have hsl : SlV Z.w (Stab Z [] H Z.w) 1 (Rd Z.w (Stab Z [] H Z.w) .str) xs u0 := (show _ ∧ _ from ha.1).1
    rcases hsl with ⟨hx, _⟩ | ⟨b, o, cap, cells, t, fr, rfl, c1, hS, m1, hel⟩
    · rw [hx] at h0; simp at h0
    have hel := elts_str hel
    refine Does.of_calls hf hb hn ?_
    rw [← hρ, e1]
    refine Calls.mono (Proofs.Any.strings_Join L X b o cap xs sep Z.w (fun j x hj => ?_) (Stab.lt hm hS) (Nat.le_trans h2 (by omega)) c1 (Nat.le_trans h3 (by omega))) fun e w' he => ?_
    · have := hel j (.string x) (by rw [cellsZ, List.getElem?_map, hj]; rfl)
      simp [World.cell?, m1, this]
    · obtain ⟨rfl, hB⟩ := he
      exact ⟨_, rfl, H, pk_flat hB (fun S rt' => rfl) fun S rt' => ⟨trivial, trivial, trivial⟩⟩
end
end Go.Am
set_option linter.unusedVariables false
set_option linter.unusedSimpArgs false
namespace Go.Am
open Go

/-! ### strings.Cut, strings.Split: by their contracts on the shelf -/
section
variable {P : Program}
@[reducible] def cutI : PkS := ⟨[.one (.str), .one (.str)], []⟩
@[reducible] def cutT : PkS := ⟨[.tup [(false, [.str]), (false, [.str]), (false, [.bool])], .one (.dead), .one (.dead)], []⟩
def cutK : KPs := fun R p k => match (PkS.un cutI p : Option (ByteArray × ByteArray × Unit)) with
  | some (s, sep, _) => (bif decide (s.size < 4294967281) then k (PkS.pack cutT (⟨(Lib.cut s.data.toList sep.data.toList).1.toArray⟩, ⟨(Lib.cut s.data.toList sep.data.toList).2.1.toArray⟩, (Lib.cut s.data.toList sep.data.toList).2.2, ())) else none)
  | none => none
theorem cut_ok {ρ : Shelf.Ren} (L : Proofs.Lays.n145 P ρ) (hG : (ρ.g 1, isInt) ∈ glob) {f : Nat} (hρ : ρ.f 145 = f) {fn : Func} {c : Code} (hf : P.funcs[f]? = some fn) (hb : fn.body = some c) (hn : (fn.name == "runtime.NumGoroutine") = false) : FnOk P f cutK where
  nat R S' g p k := by
    unfold cutK
    split
    · rename_i s sep _ _
      cases decide (s.size < 4294967281) <;> rfl
    · rfl
  ok p q hq Z vals H hv hp := by
    unfold cutK at hq
    split at hq
    case h_2 => cases hq
    rename_i s sep u hu
    have hpk := PkS.un_pack hu
    subst hpk
    cases h1 : decide (s.size < 4294967281) with
    | false => rw [h1] at hq; cases hq
    | true =>
    rw [h1] at hq
    have hs := of_decide_eq_true h1
    have hq' := Option.some.inj hq
    subst hq'
    have ha : All2 (AVRel (AtomRel Z.w (Stab Z (ptab []) H Z.w) (ptab []) H)) [.one (.str s), .one (.str sep)] vals.toList := hp.args
    obtain ⟨u0, u1, hvals⟩ : ∃ u0 u1, vals = #[u0, u1] := by
      have := ha.length
      simp only [List.length_cons, List.length_nil, Array.length_toList] at this
      exact ⟨vals[0], vals[1], by apply Array.ext <;> simp [← this] ; intro i hi1 hi2; match i, hi2 with | 0, _ => rfl | 1, _ => rfl⟩
    subst hvals
    have e0 : u0 = .string s := ha.1
    have e1 : u1 = .string sep := ha.2.1
    obtain ⟨mm, hmm⟩ := Z.gl.int hG
    refine Does.of_calls hf hb hn ?_
    rw [← hρ, e0, e1]
    refine Calls.mono (Proofs.Any.strings_Cut L s sep mm Z.w hs hmm) fun e w' he => ?_
    obtain ⟨rfl, n, rfl⟩ := he
    exact ⟨_, rfl, H, pk_flat ⟨rfl, rfl, rfl, Nat.le_refl _, fun _ _ => rfl⟩ (fun S rt' => ⟨_, rfl, rfl, rfl, rfl, trivial⟩) fun S rt' => ⟨trivial, trivial, trivial⟩⟩
theorem ins0_done2 {Z : Base} {H : Gh} {us : List Value} {ys : List ByteArray} {g : Value} {o : Obj} (hm : Mem Z [] H Z.w) (hlen : us.length = 2) (hg : ∀ S : Nat → Prop, ArrOk (Z.w.alloc o) S .str ys g) (hb : ∀ b, Bk g b → Z.w.heap.size ≤ b) :
    ∃ H', PkOk Z ⟨[.one (.whole (300000, 0)), .one .dead, .one .dead], [((300000, 0), .arr .str ys)]⟩ (g :: us) (Z.w.alloc o) H' := by
  obtain ⟨H', h⟩ := ins0_done (us := us ++ [.bool true]) hm (by simp [hlen]) hg hb
  match us, hlen with
  | [a, b], _ => exact ⟨H', ⟨⟨h.args.1, h.args.2.1, h.args.2.2.1, trivial⟩, h.mem⟩⟩
@[reducible] def splitAI : PkS := ⟨[.one (.str), .one (.str)], []⟩
def splitAOut (xs : List ByteArray) : Pk := ⟨[.one (.whole (300000, 0)), .one .dead, .one .dead], [((300000, 0), .arr .str xs)]⟩
def splitAK : KPs := fun R p k => match (PkS.un splitAI p : Option (ByteArray × ByteArray × Unit)) with
  | some (s, sep, _) => (bif decide (s.size < 4294967281) && decide (1 ≤ sep.size) then k (splitAOut (Lib.splitB sep 0 (Lib.countB s sep) s)) else none)
  | none => none
theorem splitA_ok {ρ : Shelf.Ren} (L : Proofs.Lays.n146 P ρ) (hi9 : (P.info? (ρ.t 9)).map (fun i => (i.zero, i.size, i.bytes)) = some (some (.string ByteArray.empty), 1, 16)) (hG : (ρ.g 1, isInt) ∈ glob) {f : Nat} (hρ : ρ.f 146 = f) {fn : Func} {c : Code} (hf : P.funcs[f]? = some fn) (hb : fn.body = some c) (hn : (fn.name == "runtime.NumGoroutine") = false) : FnOk P f splitAK where
  nat R S' g p k := by
    unfold splitAK
    split
    · rename_i s sep _ _
      cases decide (s.size < 4294967281) && decide (1 ≤ sep.size) <;> rfl
    · rfl
  ok p q hq Z vals H hv hp := by
    unfold splitAK at hq
    split at hq
    case h_2 => cases hq
    rename_i s sep u hu
    have hpk := PkS.un_pack hu
    subst hpk
    cases h1 : decide (s.size < 4294967281) && decide (1 ≤ sep.size) with
    | false => rw [h1] at hq; cases hq
    | true =>
    rw [h1] at hq
    simp only [Bool.and_eq_true, decide_eq_true_eq] at h1
    obtain ⟨hs, h2⟩ := h1
    have hq' := Option.some.inj hq
    subst hq'
    have ha : All2 (AVRel (AtomRel Z.w (Stab Z (ptab []) H Z.w) (ptab []) H)) [.one (.str s), .one (.str sep)] vals.toList := hp.args
    have hm : Mem Z [] H Z.w := hp.mem
    obtain ⟨u0, u1, hvals⟩ : ∃ u0 u1, vals = #[u0, u1] := by
      have := ha.length
      simp only [List.length_cons, List.length_nil, Array.length_toList] at this
      exact ⟨vals[0], vals[1], by apply Array.ext <;> simp [← this] ; intro i hi1 hi2; match i, hi2 with | 0, _ => rfl | 1, _ => rfl⟩
    subst hvals
    have e0 : u0 = .string s := ha.1
    have e1 : u1 = .string sep := ha.2.1
    obtain ⟨mm, hmm⟩ := Z.gl.int hG
    refine Does.of_calls hf hb hn ?_
    rw [← hρ, e0, e1]
    refine Calls.mono (Proofs.Any.strings_Split L hi9 s sep mm Z.w hs hmm h2) fun e w' he => ?_
    obtain ⟨rfl, rfl⟩ := he
    have hle := Lib.countB_le sep h2 s.size s (Nat.le_refl _)
    have hlen := Lib.splitB_all sep h2 0 _ s rfl
    generalize hX : Lib.splitB sep 0 (Lib.countB s sep) s = xs at hlen ⊢
    refine ⟨_, rfl, ins0_done2 hm rfl (fun S => .inr ⟨Z.w.heap.size, 0, Lib.countB s sep + 1, (xs.map Value.string).toArray, ρ.t 9, by rw [hlen], by omega, ⟨by omega, by omega⟩, heap_alloc_new Z.w _, ?_, str_elts fun j v hj => ?_⟩) (fun b h => ?_)⟩
    · simp [Kd.size, hlen]
    · rw [Nat.zero_add, List.getElem?_toArray]
      exact hj
    · simp [Bk, blkOf] at h
      omega
end
end Go.Am
