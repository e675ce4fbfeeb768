/- Ranges over slices.Backward: what a range by fuel is, is what the code does. -/
import Derived.Test.YtjijikgjefingaaAmB
import Derived.OrdersIn
import Derived.LoopNIn
import Derived.RangeFuncIn
import Derived.RangeFuncCalls
import Derived.Laws.Externs
import Derived.Lib.Bytealg
set_option linter.unusedVariables false
set_option linter.unusedSimpArgs false
namespace Go.Am
open Go

/-! ### Code in a round of a range over a function -/

def NoDefer (ops : Array Oper) : Prop := ∀ (i : Nat) (o : Oper), ops[i]? = some o → ∀ c, o.op ≠ .defer c
def noDeferB (ops : Array Oper) : Bool := ops.all fun o => match o.op with
  | .defer _ => false
  | _ => true
theorem NoDefer.of {ops : Array Oper} (h : noDeferB ops = true) : NoDefer ops := fun i o hi c hc => by
  unfold noDeferB at h
  rw [Array.all_eq_true_iff_forall_mem] at h
  have := h o (Array.mem_of_getElem? hi)
  rw [hc] at this
  cases this
def goodB : Code → Bool
  | .seq a b => goodB a && goodB b
  | .cond _ a b => goodB a && goodB b
  | .block _ c => goodB c
  | .loop c => goodB c
  | .region _ ops _ => noDeferB ops
  | _ => true
theorem Good.of : ∀ {c : Code}, goodB c = true → Good NoDefer c
  | .seq a b, h => by
    simp only [goodB, Bool.and_eq_true] at h
    exact ⟨Good.of h.1, Good.of h.2⟩
  | .cond _ a b, h => by
    simp only [goodB, Bool.and_eq_true] at h
    exact ⟨Good.of h.1, Good.of h.2⟩
  | .block _ c, h => Good.of (c := c) h
  | .loop c, h => Good.of (c := c) h
  | .region _ ops _, h => NoDefer.of h
  | .skip, _ => trivial
  | .ret, _ => trivial
  | .exit _, _ => trivial
  | .label _, _ => trivial
  | .goto _, _ => trivial
  | .scope _, _ => trivial
  | .rangeFunc _ _ _ _, _ => trivial
  | .refuse _, _ => trivial

section
variable {P : Program} {ops : Array Oper} {Q : Exit → Act → World → Prop} {l n : Nat}

theorem rowsIn_wide {m : Nat} {row : String} {args : Array Value} {w : World} {R : Value → World → Prop} (h : Rows P row args w R) : RowsIn (Fence.wide.inRound l) m P row args w R :=
  fun c cs _ => let ⟨v, w', r, s⟩ := h c cs; ⟨v, w', r, stepsIn_wide.2 s⟩
theorem Oper.wp_inRound {o : Oper} (hd : ∀ c, o.op ≠ .defer c) {a : Act} {w : World} {K : Act → World → Prop} (h : o.wp P a w K Q) : o.wpIn (Fence.wide.inRound l) n P a w K Q := by
  unfold Oper.wp at h
  refine ⟨fun _ _ => trivial, ?_⟩
  rw [Oper.semAt_eq _ _ _ hd]
  generalize (execOp a.eval o).run P w = r at *
  cases r with
  | ok x w' =>
    cases x with
    | value v => exact h
    | skip => exact h
    | defer d => exact h
    | enter f args => exact ⟨fun h => (by simp [Fence.wide, Fence.inRound] at h), CallsIn.inRound l (callsIn_wide.2 h)⟩
    | row row args => exact ⟨fun h => (by simp [Fence.wide, Fence.inRound] at h), rowsIn_wide h⟩
    | _ => exact h.elim
  | halt x w' => cases x <;> first | exact h | exact h.elim
theorem wpOp1.inRound (hn : NoDefer ops) {i : Nat} {K : Act → World → Prop} {a : Act} {w : World} (h : wpOp1 P ops Q i K a w) : wpOpIn (Fence.wide.inRound l) n P ops Q i K a w := by
  unfold wpOp1 at h
  unfold wpOpIn
  split
  · rename_i ho; simp only [ho] at h; exact h
  · rename_i o ho
    simp only [ho] at h
    split
    · rename_i hw; simp only [hw, if_true] at h; exact Oper.wp_inRound (hn i o ho) h
    · rename_i hw; simp only [hw] at h; exact ⟨fun _ _ => trivial, h⟩
theorem wpOps1.inRound (hn : NoDefer ops) : ∀ {l' : List Nat} {a : Act} {w : World}, wpOps1 P ops Q l' a w → wpOpsIn (Fence.wide.inRound l) n P ops Q l' a w
  | [], _, _, h => h
  | i :: l', a, w, h => by
    rw [wpOpsIn_cons]
    exact wpOpIn_mono (fun a w h => wpOps1.inRound hn h) (wpOp1.inRound hn h)
theorem wpAny1.inRound (hn : NoDefer ops) : ∀ {m : Nat} {listed : Array Bool} {a : Act} {w : World}, wpAny1 P ops Q m listed a w → wpAnyIn (Fence.wide.inRound l) n P .any ops Q m listed a w
  | 0, _, _, _, h => h
  | m + 1, listed, a, w, h => ⟨h.1, fun i hi => wpOpIn_mono (fun a w h => wpAny1.inRound hn h) (wpOp1.inRound hn (h.2 i hi))⟩

def WP.round (P : Program) (l n : Nat) : WP := fun c Q a w => c.wpIn (Fence.wide.inRound l) n P Q a w
theorem rules_round : Rules P NoDefer (WP.round P l n) where
  skip h := wpIn_skip h
  ret h := wpIn_ret h
  exit h := wpIn_exit h
  seq h := wpIn_seq h
  cond h h1 := wpIn_cond h h1
  block h := wpIn_block h
  region hn h := wpIn_region (h.inRound hn)
  any hm hn h := wpIn_region_any hm (h.inRound hn)
  loop {c Q a w} m h := by
    refine wpIn_loop_rounds m ?_
    have : ∀ (m : Nat) (a : Act) (w : World), Rnds (WP.round P l n) c Q m a w → Code.roundsIn (Fence.wide.inRound l) n P c Q m a w := by
      intro m
      induction m with
      | zero => exact fun _ _ h => h
      | succ m ih =>
        intro a w h
        rw [roundsIn_succ]
        refine wpIn_mono h fun e a w h => ?_
        cases e <;> first | exact ih _ _ h | exact h
    exact this m a w h
end
end Go.Am
set_option linter.unusedVariables false
set_option linter.unusedSimpArgs false
namespace Go.Am
open Go

/-! ### Memory whose cells stay, though other blocks turn -/

/-- What a name of one's own may stand for. -/
def ownObj : Obj → Bool
  | .cells _ _ _ => true
  | .map _ _ => true
  | _ => false
structure SameC (w w' : World) : Prop where
  cells : ∀ (b : Nat) (c : Array Value) (t : TypeId) (f : Nat × Nat), w.heap[b]? = some (.cells c t f) → w'.heap[b]? = some (.cells c t f)
  maps : ∀ (b : Nat) (es : Array MapEntry) (c : Nat), w.heap[b]? = some (.map es c) → w'.heap[b]? = some (.map es c)
theorem SameC.refl (w : World) : SameC w w := ⟨fun _ _ _ _ h => h, fun _ _ _ h => h⟩
theorem SameC.trans {w w' w'' : World} (h : SameC w w') (k : SameC w' w'') : SameC w w'' := ⟨fun b c t f e => k.cells b c t f (h.cells b c t f e), fun b es c e => k.maps b es c (h.maps b es c e)⟩
theorem SameC.put {w : World} {l : Nat} {o : Obj} (h : w.heap[l]? = some o) (hc : ownObj o = false) (o' : Obj) : SameC w (w.putObj l o') := ⟨fun b c t f e => by
  by_cases hb : b = l
  · subst hb
    rw [h] at e
    cases e
    simp [ownObj] at hc
  · rw [World.putObj_heap_other hb]; exact e, fun b es c e => by
  by_cases hb : b = l
  · subst hb
    rw [h] at e
    cases e
    simp [ownObj] at hc
  · rw [World.putObj_heap_other hb]; exact e⟩
theorem SameC.alloc (w : World) (o : Obj) : SameC w (w.alloc o) := ⟨fun b c t f e => by
  rw [RowKit.Below.heap_alloc w o b (Array.getElem?_eq_some_iff.1 e).1]; exact e, fun b es c e => by
  rw [RowKit.Below.heap_alloc w o b (Array.getElem?_eq_some_iff.1 e).1]; exact e⟩

section
variable {w w' : World} {S S' : Nat → Prop} {rt : Roots} {G : Gh}
theorem SlV.sameC {α : Type} {size : Nat} {rd rd' : α → List Value → Prop} (hw : SameC w w') (hs : ∀ b, S b → S' b) (hr : ∀ x cs, rd x cs → rd' x cs) {xs : List α} {v : Value} (h : SlV w S size rd xs v) : SlV w' S' size rd' xs v := by
  rcases h with h | ⟨b, off, cap, cells, t, fr, h1, h2, h3, h4, h5⟩
  · exact .inl h
  · exact .inr ⟨b, off, cap, cells, t, fr, h1, h2, hs b h3, hw.cells _ _ _ _ h4, fun i x hx => let ⟨cs, a, c⟩ := h5 i x hx; ⟨cs, hr _ _ a, c⟩⟩
theorem Rd.sameC (hw : SameC w w') (hs : ∀ b, S b → S' b) : ∀ {k : Kd} {x : k.den} {cs : List Value}, Rd w S k x cs → Rd w' S' k x cs
  | .int _, _, _, h => h
  | .bool, _, _, h => h
  | .str, _, _, h => h
  | .sl _, _, _, ⟨v, h, h'⟩ => ⟨v, h, SlV.sameC hw hs (fun _ _ => Rd.sameC hw hs) h'⟩
  | .pr _ _, _, _, ⟨c₁, c₂, h, h₁, h₂⟩ => ⟨c₁, c₂, h, Rd.sameC hw hs h₁, Rd.sameC hw hs h₂⟩
theorem AtomRel.sameC (hw : SameC w w') (hs : ∀ b, S b → S' b) : ∀ {a : Atom} {v : Value}, AtomRel w S rt G a v → AtomRel w' S' rt G a v
  | .dead, _, h => h
  | .int _ _, _, h => h
  | .bool _, _, h => h
  | .str _, _, h => h
  | .nil, _, h => h
  | .ro e xs t, v, h => ⟨SlV.sameC hw hs (fun _ _ => Rd.sameC hw hs) h.1, h.2⟩
  | .rn e xs, v, h => ⟨SlV.sameC hw hs (fun _ _ => Rd.sameC hw hs) h.1, h.2⟩
  | .whole _, _, h => h
  | .part _ _ _, _, h => h
  | .box _ _, _, h => h
  | .elt _ _ _, _, h => h
  | .relt e x c, v, ⟨b, o, cells, t, fr, cs, h1, h2, h3, h4, h5⟩ => ⟨b, o, cells, t, fr, cs, h1, hs b h2, hw.cells _ _ _ _ h3, Rd.sameC hw hs h4, h5⟩
  | .fn _ _, _, h => h
  | .mp _, _, h => h
theorem DeeOk.sameC (hw : SameC w w') : ∀ {e : Kd} {xs : List e.den} {g : Value}, DeeOk w e xs g → DeeOk w' e xs g
  | .pr (.int k) (.sl e), xs, g, ⟨outer, bodies, h1, h2, h3, h4, h5⟩ =>
    ⟨outer, bodies, h1, h2, h3.imp id fun ⟨b, off, cap, cells, t, k1, k2, k3, k4, k5⟩ => ⟨b, off, cap, cells, t, k1, k2, k3, hw.cells _ _ _ _ k4, k5⟩, fun i x v hx hv => by
      rcases h4 i x v hx hv with h | ⟨b, off, cap, cells, t, h1, h2, h3, h4, h5, h6⟩
      · exact .inl h
      · exact .inr ⟨b, off, cap, cells, t, h1, h2, h3, hw.cells _ _ _ _ h4, h5, h6.mono fun _ _ => Rd.sameC hw fun _ h => h⟩, h5⟩
  | .int _, _, _, h | .bool, _, _, h | .str, _, _, h | .sl _, _, _, h => h.elim
  | .pr .bool _, _, _, h | .pr .str _, _, _, h | .pr (.sl _) _, _, _, h | .pr (.pr _ _) _, _, _, h => h.elim
  | .pr (.int _) (.int _), _, _, h | .pr (.int _) .bool, _, _, h | .pr (.int _) .str, _, _, h | .pr (.int _) (.pr _ _), _, _, h => h.elim
theorem RootOk.sameC (hw : SameC w w') (hs : ∀ b, S b → S' b) {r : Rid} : ∀ {x : Root}, RootOk w S rt G r x → RootOk w' S' rt G r x
  | .box l, ⟨b, vs, t, h1, h2, h3, h4⟩ => ⟨b, vs, t, h1, hw.cells _ _ _ _ h2, h3.mono fun _ _ => AtomRel.sameC hw hs, h4⟩
  | .arr e xs, h => by
    rcases (show ArrOk w S e xs (G r) from h) with h | ⟨b, off, cap, cells, t, h1, h2, h3, h4, h5, h6⟩
    · exact .inl h
    · exact .inr ⟨b, off, cap, cells, t, h1, h2, h3, hw.cells _ _ _ _ h4, h5, h6.mono fun _ _ => Rd.sameC hw hs⟩
  | .fro e xs, h => SlV.sameC hw hs (fun _ _ => Rd.sameC hw hs) (show SlV w S e.size (Rd w S e) xs (G r) from h)
  | .map (.kv m), ⟨⟨b, es, c, h1, h2, h3⟩⟩ => ⟨⟨b, es, c, h1, hw.maps _ _ _ h2, h3⟩⟩
  | .map (.ks m), ⟨⟨b, es, c, h1, h2, h3⟩⟩ => ⟨⟨b, es, c, h1, hw.maps _ _ _ h2, h3⟩⟩
  | .map (.dee e xs), h => DeeOk.sameC hw h
end

section
variable {Z Z' : Base} {rt : Roots} {G : Gh} {w w' : World}
theorem Mem.shift (h : Mem Z rt G w) (hw : SameC w w') (hs : ∀ b, Stab Z rt G w b → Stab Z' rt G w' b) (hb : ∀ b, Owns rt G b → Z'.B b ∨ Z'.w.heap.size ≤ b) (he : Evo Z'.B Z'.w w') : Mem Z' rt G w' :=
  ⟨fun r x hx => RootOk.sameC hw hs (h.roots r x hx), h.sep, hb, he⟩
theorem PkOk.shift {p : Pk} {vs : List Value} (h : PkOk Z p vs w G) (hw : SameC w w') (hs : ∀ b, Stab Z (ptab p.rt) G w b → Stab Z' (ptab p.rt) G w' b) (hb : ∀ b, Owns (ptab p.rt) G b → Z'.B b ∨ Z'.w.heap.size ≤ b) (he : Evo Z'.B Z'.w w') : PkOk Z' p vs w' G :=
  ⟨h.args.mono fun _ _ => AVRel.mono fun _ _ => AtomRel.sameC hw hs, h.mem.shift hw hs hb he⟩
theorem Rel.shift {e : Env} {a : Act} (h : Rel Z e a w G) (hw : SameC w w') (hs : ∀ b, Stab Z e.rt G w b → Stab Z' e.rt G w' b) (hb : ∀ b, Owns e.rt G b → Z'.B b ∨ Z'.w.heap.size ≤ b) (he : Evo Z'.B Z'.w w') (hd : Z'.df = Z.df) (hv : Z'.vs = Z.vs) : Rel Z' e a w' G :=
  ⟨h.df.trans hd.symm, h.tm.mono fun _ _ => AVRel.mono fun _ _ => AtomRel.sameC hw hs, h.mem.shift hw hs hb he, by rw [hv]; exact h.ag.mono fun _ _ => AVRel.mono fun _ _ => AtomRel.sameC hw hs⟩

/-- From here on: what stays is what stayed. -/
def reb (Z : Base) (rt : Roots) (G : Gh) (w : World) (hm : Mem Z rt G w) : Base where
  w := w
  B := Owns rt G
  S := Stab Z rt G w
  old b hb := ⟨Stab.lt hm hb, fun ho => hb.2 ho⟩
  vs := Z.vs
  df := Z.df
  gl := hm.gl
theorem reb_fw (hm : Mem Z rt G w) : ∀ b, Stab Z rt G w b → Stab (reb Z rt G w hm) rt G w b := fun b h => ⟨.inl h, h.2⟩
theorem Rel.reb {e : Env} {a : Act} (h : Rel Z e a w G) : Rel (reb Z e.rt G w h.mem) e a w G :=
  h.shift (.refl w) (reb_fw h.mem) (fun b hb => .inl hb) (Evo.refl _ _) rfl rfl
theorem reb_bw (hm : Mem Z rt G w) {rt' : Roots} {G' : Gh} (h : Mem (Go.Am.reb Z rt G w hm) rt' G' w') :
    (∀ b, Stab (Go.Am.reb Z rt G w hm) rt' G' w' b → Stab Z rt' G' w' b) ∧ (∀ b, Owns rt' G' b → Z.B b ∨ Z.w.heap.size ≤ b) ∧ Evo Z.B Z.w w' := by
  have hsz : w.heap.size ≤ w'.heap.size := h.evo.size
  have hzs : Z.w.heap.size ≤ w.heap.size := hm.evo.size
  refine ⟨fun b hb => ⟨?_, hb.2⟩, fun b hb => ?_, ?_⟩
  · rcases hb.1 with h1 | ⟨h1 | h1, h2⟩
    · rcases h1.1 with h3 | ⟨h3, h4⟩
      · exact .inl h3
      · exact .inr ⟨h3, Nat.lt_of_lt_of_le h4 hsz⟩
    · exact .inr ⟨hm.base b h1, h2⟩
    · exact .inr ⟨.inr (Nat.le_trans hzs h1), h2⟩
  · rcases h.base b hb with h1 | h1
    · exact hm.base b h1
    · exact .inr (Nat.le_trans hzs h1)
  · refine ⟨h.evo.os.trans hm.evo.os, h.evo.tape.trans hm.evo.tape, h.evo.output.trans hm.evo.output, Nat.le_trans hzs hsz, fun b h1 h2 => ?_⟩
    refine (h.evo.block b (Nat.lt_of_lt_of_le h1 hzs) fun ho => ?_).trans (hm.evo.block b h1 h2)
    rcases hm.base b ho with h3 | h3
    · exact h2 h3
    · exact absurd h1 (Nat.not_lt.2 h3)
theorem PkOk.back (hm : Mem Z rt G w) {p : Pk} {vs : List Value} {G' : Gh} (h : PkOk (Go.Am.reb Z rt G w hm) p vs w' G') : PkOk Z p vs w' G' :=
  let ⟨a, b, c⟩ := reb_bw hm h.mem
  h.shift (.refl w') a b c
theorem Rel.back (hm : Mem Z rt G w) {e : Env} {a : Act} {G' : Gh} (h : Rel (Go.Am.reb Z rt G w hm) e a w' G') : Rel Z e a w' G' :=
  let ⟨x, y, z⟩ := reb_bw hm h.mem
  h.shift (.refl w') x y z rfl rfl
theorem Evo.put {B : Nat → Prop} {w₀ w : World} (h : Evo B w₀ w) {l : Nat} (hB : B l ∨ w₀.heap.size ≤ l) (o : Obj) : Evo B w₀ (w.putObj l o) :=
  ⟨h.os, h.tape, h.output, by rw [World.putObj_size]; exact h.size, fun b h1 h2 => by
    rw [World.putObj_heap_other fun e => by
      subst e
      rcases hB with h3 | h3
      · exact h2 h3
      · exact absurd h1 (Nat.not_lt.2 h3)]
    exact h.block b h1 h2⟩
theorem Stab.put {l : Nat} {o : Obj} : ∀ b, Stab Z rt G w b → Stab Z rt G (w.putObj l o) b := fun b h => ⟨by rw [World.putObj_size]; exact h.1, h.2⟩
theorem PkOk.put {p : Pk} {vs : List Value} (h : PkOk Z p vs w G) {l : Nat} {o : Obj} (hl : w.heap[l]? = some o) (hc : ownObj o = false) (hB : Z.B l ∨ Z.w.heap.size ≤ l) (o' : Obj) : PkOk Z p vs (w.putObj l o') G :=
  h.shift (.put hl hc o') Stab.put h.mem.base (h.mem.evo.put hB o')
theorem Rel.putNC {e : Env} {a : Act} (h : Rel Z e a w G) {l : Nat} {o : Obj} (hl : w.heap[l]? = some o) (hc : ownObj o = false) (hB : Z.B l ∨ Z.w.heap.size ≤ l) (o' : Obj) : Rel Z e a (w.putObj l o') G :=
  h.shift (.put hl hc o') Stab.put h.mem.base (h.mem.evo.put hB o') rfl rfl
end

/-! ### The closure of slices.Backward -/

def bwR0 (S I : TypeId) : Array Oper := #[
  { dst := some 4, op := .load S (.tmp 1), type := S, pos := "iter.go:28", after := #[], guard := none },
  { dst := some 5, op := .call { callee := .builtin .len, args := #[.tmp 4], argTypes := #[S] }, type := I, pos := "iter.go:28", after := #[{ on := 0, ground := .data }], guard := none },
  { dst := some 6, op := .binOp .sub I (.tmp 5) (.const (.int .i64 1)) I, type := I, pos := "iter.go:28", after := #[{ on := 1, ground := .data }], guard := none },
  { dst := some 3, op := .assign (.tmp 6), type := I, pos := "iter.go:28", after := #[{ on := 2, ground := .data }, { on := 0, ground := .phase }, { on := 1, ground := .phase }, { on := 2, ground := .phase }], guard := none }]
def bwR1 (I B : TypeId) : Array Oper := #[
  { dst := some 7, op := .move (.tmp 3), type := I, pos := "iter.go:28", after := #[], guard := none },
  { dst := some 8, op := .binOp .geq I (.tmp 7) (.const (.int .i64 0)) I, type := B, pos := "iter.go:28", after := #[{ on := 0, ground := .data }], guard := none }]
def bwR3 (S E I B Y : TypeId) : Array Oper := #[
  { dst := some 11, op := .move (.tmp 0), type := Y, pos := "iter.go:29", after := #[], guard := none },
  { dst := some 12, op := .move (.tmp 3), type := I, pos := "iter.go:29", after := #[], guard := none },
  { dst := some 13, op := .load S (.tmp 1), type := S, pos := "iter.go:29", after := #[], guard := none },
  { dst := some 14, op := .move (.tmp 3), type := I, pos := "iter.go:29", after := #[], guard := none },
  { dst := some 15, op := .indexAddr S (.tmp 13) (.tmp 14), type := 0, pos := "iter.go:29", after := #[{ on := 2, ground := .data }, { on := 3, ground := .data }], guard := none },
  { dst := some 16, op := .load E (.tmp 15), type := E, pos := "iter.go:29", after := #[{ on := 4, ground := .data }], guard := none },
  { dst := some 17, op := .call { callee := .value (.tmp 11), args := #[.tmp 12, .tmp 16], argTypes := #[I, E] }, type := B, pos := "iter.go:29", after := #[{ on := 0, ground := .data }, { on := 1, ground := .data }, { on := 5, ground := .data }], guard := none },
  { dst := some 18, op := .unOp .not B (.tmp 17), type := B, pos := "iter.go:29", after := #[{ on := 6, ground := .data }], guard := none }]
def bwR2 (I : TypeId) : Array Oper := #[
  { dst := some 9, op := .move (.tmp 3), type := I, pos := "iter.go:28", after := #[], guard := none },
  { dst := some 10, op := .binOp .sub I (.tmp 9) (.const (.int .i64 1)) I, type := I, pos := "iter.go:28", after := #[{ on := 0, ground := .data }], guard := none },
  { dst := some 3, op := .assign (.tmp 10), type := I, pos := "iter.go:28", after := #[{ on := 1, ground := .data }, { on := 0, ground := .phase }, { on := 1, ground := .phase }], guard := none }]
def bwBody (S E I B Y : TypeId) : Code :=
  ((Code.region 1 (bwR1 I B) false).seq (Code.cond (.tmp 8) .skip (.exit 0))).seq
    ((Code.block 1 ((Code.region 3 (bwR3 S E I B Y) false).seq (Code.cond (.tmp 18) .ret .skip))).seq (Code.region 2 (bwR2 I) false))
def bwCode (S E I B Y : TypeId) : Code := (Code.region 0 (bwR0 S I) false).seq (Code.block 0 (bwBody S E I B Y).loop)

section
variable {P : Program} {tt : TT} {sig : Sig} {C : Nat → Pk → Option Pk} {Z : Base} {e : Env} {a : Act} {w w' : World} {G : Gh} {s s' : Seen} {us : List Up} {ops : Array Oper} {Q : Exit → Act → World → Prop} {n : Nat}

theorem Oper.wp_put {o : Oper} {K : Act → World → Prop} (h : o.wp P a w K Q) : o.wp P a w (fun a' w' => K a' w' ∧ ∃ v, a'.tmps = (a.put o.dst v).tmps) Q := by
  unfold Oper.wp at h ⊢
  have hput : ∀ ds v, (({ a with defers := ds } : Act).put o.dst v).tmps = (a.put o.dst v).tmps := fun ds v => by
    cases o.dst <;> rfl
  generalize (execOp a.eval o).run P w = r at *
  cases r with
  | ok x w' =>
    cases x with
    | value v => exact ⟨h, v, rfl⟩
    | skip => exact ⟨h, undef, rfl⟩
    | defer d => exact ⟨h, undef, hput _ _⟩
    | enter f args => exact Calls.mono h fun e w'' he => by cases e <;> first | exact ⟨he, _, rfl⟩ | exact he
    | row row args => exact Rows.mono h fun v w'' he => ⟨he, _, rfl⟩
    | _ => exact h.elim
  | halt x w' => cases x <;> first | exact h | exact h.elim
theorem Oper.wp_wide {o : Oper} {K : Act → World → Prop} (h : o.wp P a w K Q) : o.wpIn Fence.wide n P a w K Q := by
  unfold Oper.wp at h
  refine ⟨fun _ _ => trivial, ?_⟩
  rw [show Fence.wide.round = none from rfl, Oper.semAt_none]
  generalize (execOp a.eval o).run P w = r at *
  cases r with
  | ok x w' =>
    cases x with
    | value v => exact h
    | skip => exact h
    | defer d => exact h
    | enter f args => exact ⟨fun h => (by simp [Fence.wide] at h), callsIn_wide.2 h⟩
    | row row args => exact ⟨fun h => (by simp [Fence.wide] at h), fun c cs _ => let ⟨v, w', r, s⟩ := h c cs; ⟨v, w', r, stepsIn_wide.2 s⟩⟩
    | _ => exact h.elim
  | halt x w' => cases x <;> first | exact h | exact h.elim
theorem op_step (h : Rel Z e a w G) (hT : TTok P tt) (hC : OkC P C) {i : Nat} {o : Oper} (ho : ops[i]? = some o) (hg : o.guard = none) (hp : ∃ s', (opPg tt sig o).run C e ⟨[], []⟩ = some (us, s')) {K : Act → World → Prop}
    (hK : ∀ a' w' G' v, a'.tmps = (a.put o.dst v).tmps → Rel Z (e.ups us) a' w' G' → K a' w') : wpOpIn Fence.wide n P ops Q i K a w := by
  obtain ⟨s', hp⟩ := hp
  unfold wpOpIn
  rw [ho]
  dsimp only
  rw [if_pos (by simp [Region.wanted, hg])]
  exact Oper.wpIn_mono (fun a' w' ⟨⟨G', hr⟩, v, hv⟩ => hK a' w' G' v hv hr) (Oper.wp_wide (Oper.wp_put (op_sound h hT hC hp Q)))

theorem op_step1 (h : Rel Z e a w G) (hT : TTok P tt) (hC : OkC P C) {i : Nat} {o : Oper} (ho : ops[i]? = some o) (hg : o.guard = none) {d : Nat} {u : AV} (hp : ∃ s', (opPg tt sig o).run C e ⟨[], []⟩ = some ([.tm d u], s')) {K : Act → World → Prop}
    (hK : ∀ a' w' G' v, a'.tmps = (a.put o.dst v).tmps → Rel Z (e.up (.tm d u)) a' w' G' → K a' w') : wpOpIn Fence.wide n P ops Q i K a w := op_step h hT hC ho hg hp hK
theorem get_up {d t : Nat} {v : AV} (h : t ≠ d) : (e.up (.tm d v)).get t = e.get t := by
  show (e.tm.set d v).getD t (.one .dead) = e.tm.getD t (.one .dead)
  simp only [List.getD]
  rw [List.getElem?_set_ne (Ne.symm h)]
theorem get_up_same {d : Nat} {v : AV} (h : d < e.tm.length) : (e.up (.tm d v)).get d = v := by
  show (e.tm.set d v).getD d (.one .dead) = v
  simp [List.getD, h]
theorem put_other {o : Option Nat} {v : Value} {t : Nat} (h : ∀ d, o = some d → t ≠ d) : (a.put o v).tmps.getD t undef = a.tmps.getD t undef := by
  cases o with
  | none => rfl
  | some d =>
    show (a.tmps.setIfInBounds d v).getD t undef = _
    rw [Array.getD_eq_getD_getElem?, Array.getD_eq_getD_getElem?, Array.getElem?_setIfInBounds_ne (Ne.symm (h d rfl))]

structure BwT (tt : TT) (S E : TypeId) (el : Kd) (ag : Bool) : Prop where
  sS : ∃ ti, tt.get S = some ti ∧ ti.size = 1 ∧ ti.agg = false ∧ ti.sl = true ∧ ti.elem = E
  sE : ∃ ti, tt.get E = some ti ∧ ti.size = el.size ∧ ti.agg = ag
def bwT (tt : TT) (S E : TypeId) (el : Kd) (ag : Bool) : Bool :=
  (match tt.get S with
   | some ti => Nat.beq ti.size 1 && (!ti.agg && (ti.sl && Nat.beq ti.elem E))
   | none => false) &&
  (match tt.get E with
   | some ti => Nat.beq ti.size el.size && (ti.agg == ag)
   | none => false)
theorem BwT.of {S E : TypeId} {el : Kd} {ag : Bool} (h : bwT tt S E el ag = true) : BwT tt S E el ag := by
  simp only [bwT, Bool.and_eq_true] at h
  obtain ⟨h1, h2⟩ := h
  constructor
  · split at h1
    · rename_i ti ht
      simp only [Bool.and_eq_true, Bool.not_eq_true'] at h1
      exact ⟨ti, ht, Nat.eq_of_beq_eq_true h1.1, h1.2.1, h1.2.2.1, Nat.eq_of_beq_eq_true h1.2.2.2⟩
    · cases h1
  · split at h2
    · rename_i ti ht
      simp only [Bool.and_eq_true, beq_iff_eq] at h2
      exact ⟨ti, ht, Nat.eq_of_beq_eq_true h2.1, h2.2⟩
    · cases h2

theorem up_len {d : Nat} {v : AV} : (e.up (.tm d v)).tm.length = e.tm.length := by
  show (e.tm.set d v).length = _
  simp

section
variable {S E I I' B Y : TypeId} {el : Kd} {ag : Bool} {m : Rid} {xs : List el.den} {tg : Bool} {o : Oper} {d t : Nat} {x : Int}
theorem pg_loadS (hB : BwT tt S E el ag) (ho : o.op = .load S (.tmp 1)) (hd : o.dst = some d) (hb : e.get 1 = .one (.box m 0)) (hl : look e.rt m = some (some (.box [.ro el xs tg]))) :
    ∃ s', (opPg tt sig o).run C e s = some ([.tm d (.one (.ro el xs tg))], s') := by
  obtain ⟨ti, h1, h2, h3, _⟩ := hB.sS
  simp [opPg, ho, hd, h1, opv, Pg.run, loadAt, hb, hl, h2, h3, shaped, upD, show Nat.ble 1 1 = true from rfl]
theorem pg_move (ho : o.op = .move (.tmp t) ∨ o.op = .assign (.tmp t)) (hd : o.dst = some d) : ∃ s', (opPg tt sig o).run C e s = some ([.tm d (e.get t)], s') := by
  rcases ho with ho | ho <;> simp [opPg, ho, hd, opv, Pg.run, upD]
theorem pg_len (hB : BwT tt S E el ag) (ho : o.op = .call { callee := .builtin .len, args := #[.tmp t], argTypes := #[S] }) (hd : o.dst = some d) (hb : e.get t = .one (.ro el xs tg)) :
    ∃ s', (opPg tt sig o).run C e s = some ([.tm d (.one (.int .i64 xs.length))], s') := by
  obtain ⟨ti, h1, h2, h3, h4, h5⟩ := hB.sS
  obtain ⟨te, g1, g2, g3⟩ := hB.sE
  simp [opPg, ho, hd, builtinPg, opv, Pg.run, hb, elemSize, h1, h4, h5, g1, lenOf, upD]
theorem pg_sub (ho : o.op = .binOp .sub I (.tmp t) (.const (.int .i64 1)) I') (hd : o.dst = some d) (hb : e.get t = .one (.int .i64 x)) : ∃ s', (opPg tt sig o).run C e s = some ([.tm d (.one (.int .i64 (IntKind.wrap .i64 (x - 1))))], s') := by
  simp [opPg, ho, hd, opv, Pg.run, hb, bin2, bin, ofConst, upD]
theorem pg_geq (ho : o.op = .binOp .geq I (.tmp t) (.const (.int .i64 0)) I') (hd : o.dst = some d) (hb : e.get t = .one (.int .i64 x)) : ∃ s', (opPg tt sig o).run C e s = some ([.tm d (.one (.bool (decide (x ≥ 0))))], s') := by
  simp [opPg, ho, hd, opv, Pg.run, hb, bin2, bin, ofConst, upD]
theorem pg_index (hB : BwT tt S E el ag) {u : Nat} (ho : o.op = .indexAddr S (.tmp t) (.tmp u)) (hd : o.dst = some d) (hb : e.get t = .one (.ro el xs tg)) (hi : e.get u = .one (.int .i64 x)) (h0 : 0 ≤ x) (hx : x < xs.length) :
    ∃ s', (opPg tt sig o).run C e s = some ([.tm d (.one (.relt el (xs.getD x.toNat el.dflt) 0))], s') := by
  obtain ⟨ti, h1, h2, h3, h4, h5⟩ := hB.sS
  obtain ⟨te, g1, g2, g3⟩ := hB.sE
  simp only [opPg, ho, hd, opv, Pg.run, hb, hi, intV, elemSize, h1, h4, h5, g1, g2, isSize, upD, cond_true, Nat.beq_refl, decide_eq_true h0, decide_eq_true hx]
  exact ⟨_, rfl⟩
theorem pg_loadE (hB : BwT tt S E el ag) (ho : o.op = .load E (.tmp t)) (hd : o.dst = some d) {y : el.den} (hb : e.get t = .one (.relt el y 0)) : ∃ s', (opPg tt sig o).run C e s = some ([.tm d (shaped ag (cellsOf el y 0 el.size))], s') := by
  obtain ⟨te, g1, g2, g3⟩ := hB.sE
  simp [opPg, ho, hd, g1, opv, Pg.run, loadAt, hb, g2, g3, upD, show Nat.ble el.size el.size = true from Nat.ble_eq_true_of_le (Nat.le_refl _)]

/-- What the closure keeps of its own. -/
structure BwA (a0 a : Act) : Prop where
  t0 : a.tmps.getD 0 undef = a0.tmps.getD 0 undef
  t1 : a.tmps.getD 1 undef = a0.tmps.getD 1 undef
  size : a.tmps.size = a0.tmps.size
theorem BwA.refl (a : Act) : BwA a a := ⟨rfl, rfl, rfl⟩
theorem BwA.put {a0 a a' : Act} (h : BwA a0 a) {d : Nat} {v : Value} (e : a'.tmps = (a.put (some d) v).tmps) (hd : 2 ≤ d) : BwA a0 a' :=
  ⟨by rw [e, put_other (by simp; omega)]; exact h.t0, by rw [e, put_other (by simp; omega)]; exact h.t1, by rw [e]; simp [Act.put, h.size]⟩
/-- Slots that have turned. -/
structure EnvT (e0 e : Env) : Prop where
  rt : e.rt = e0.rt
  ag : e.ag = e0.ag
  len : e.tm.length = e0.tm.length
  g1 : e.get 1 = e0.get 1
theorem EnvT.refl (e : Env) : EnvT e e := ⟨rfl, rfl, rfl, rfl⟩
theorem EnvT.up {e0 e : Env} (h : EnvT e0 e) {d : Nat} (v : AV) (hd : 2 ≤ d) : EnvT e0 (e.up (.tm d v)) := ⟨h.rt, h.ag, up_len.trans h.len, (get_up (by omega)).trans h.g1⟩

variable (hT : TTok P tt) (hC : OkC P C)
include hT hC in
theorem bw_r0 (sig : Sig) (hB : BwT tt S E el ag) (hr : Rel Z e a w G) (hlen : e.tm.length = 19) (h1 : e.get 1 = .one (.box m 0)) (hl : look e.rt m = some (some (.box [.ro el xs tg])))
    (hK : ∀ a' w' G' e', BwA a a' → EnvT e e' → e'.get 3 = .one (.int .i64 (IntKind.wrap .i64 ((xs.length : Int) - 1))) → Rel Z e' a' w' G' → Q .normal a' w') : wpOpsIn Fence.wide n P (bwR0 S I) Q [0, 1, 2, 3] a w := by
  rw [wpOpsIn_cons]
  refine op_step1 hr hT hC (sig := sig) rfl rfl (pg_loadS hB rfl rfl h1 hl) fun a1 w1 G1 v1 e1 r1 => ?_
  have b1 := (BwA.refl a).put e1 (by omega)
  rw [wpOpsIn_cons]
  refine op_step1 r1 hT hC (sig := sig) rfl rfl (pg_len hB rfl rfl (get_up_same (by omega))) fun a2 w2 G2 v2 e2 r2 => ?_
  have b2 := b1.put e2 (by omega)
  rw [wpOpsIn_cons]
  refine op_step1 r2 hT hC (sig := sig) rfl rfl (pg_sub rfl rfl (get_up_same (by show _ < (e.up _).tm.length; rw [up_len]; omega))) fun a3 w3 G3 v3 e3 r3 => ?_
  have b3 := b2.put e3 (by omega)
  rw [wpOpsIn_cons]
  refine op_step1 r3 hT hC (sig := sig) rfl rfl (pg_move (.inr rfl) rfl) fun a4 w4 G4 v4 e4 r4 => ?_
  have b4 := b3.put e4 (by omega)
  refine hK a4 w4 G4 _ b4 ((((EnvT.refl e).up _ (by omega)).up _ (by omega)).up _ (by omega) |>.up _ (by omega)) ?_ r4
  refine (get_up_same ?_).trans (get_up_same ?_)
  · show _ < (((e.up _).up _).up _).tm.length; rw [up_len, up_len, up_len]; omega
  · show _ < ((e.up _).up _).tm.length; rw [up_len, up_len]; omega
include hT hC in
theorem bw_r1 (sig : Sig) (hr : Rel Z e a w G) (hlen : e.tm.length = 19) (h3 : e.get 3 = .one (.int .i64 x))
    (hK : ∀ a' w' G' e', BwA a a' → EnvT e e' → e'.get 3 = .one (.int .i64 x) → e'.get 8 = .one (.bool (decide (x ≥ 0))) → Rel Z e' a' w' G' → Q .normal a' w') : wpOpsIn Fence.wide n P (bwR1 I B) Q [0, 1] a w := by
  rw [wpOpsIn_cons]
  refine op_step1 hr hT hC (sig := sig) rfl rfl (pg_move (.inl rfl) rfl) fun a1 w1 G1 v1 e1 r1 => ?_
  have b1 := (BwA.refl a).put e1 (by omega)
  rw [wpOpsIn_cons]
  refine op_step1 r1 hT hC (sig := sig) rfl rfl (pg_geq rfl rfl ((get_up_same (by omega)).trans h3)) fun a2 w2 G2 v2 e2 r2 => ?_
  have b2 := b1.put e2 (by omega)
  refine hK a2 w2 G2 _ b2 (((EnvT.refl e).up _ (by omega)).up _ (by omega)) ?_ ?_ r2
  · exact (get_up (by omega)).trans ((get_up (by omega)).trans h3)
  · exact get_up_same (by show _ < (e.up _).tm.length; rw [up_len]; omega)
include hT hC in
theorem bw_r2 (sig : Sig) (hr : Rel Z e a w G) (hlen : e.tm.length = 19) (h3 : e.get 3 = .one (.int .i64 x))
    (hK : ∀ a' w' G' e', BwA a a' → EnvT e e' → e'.get 3 = .one (.int .i64 (IntKind.wrap .i64 (x - 1))) → Rel Z e' a' w' G' → Q .normal a' w') : wpOpsIn Fence.wide n P (bwR2 I) Q [0, 1, 2] a w := by
  rw [wpOpsIn_cons]
  refine op_step1 hr hT hC (sig := sig) rfl rfl (pg_move (.inl rfl) rfl) fun a1 w1 G1 v1 e1 r1 => ?_
  have b1 := (BwA.refl a).put e1 (by omega)
  rw [wpOpsIn_cons]
  refine op_step1 r1 hT hC (sig := sig) rfl rfl (pg_sub rfl rfl ((get_up_same (by omega)).trans h3)) fun a2 w2 G2 v2 e2 r2 => ?_
  have b2 := b1.put e2 (by omega)
  rw [wpOpsIn_cons]
  refine op_step1 r2 hT hC (sig := sig) rfl rfl (pg_move (.inr rfl) rfl) fun a3 w3 G3 v3 e3 r3 => ?_
  have b3 := b2.put e3 (by omega)
  refine hK a3 w3 G3 _ b3 ((((EnvT.refl e).up _ (by omega)).up _ (by omega)).up _ (by omega)) ?_ r3
  refine (get_up_same ?_).trans (get_up_same ?_)
  · show _ < ((e.up _).up _).tm.length; rw [up_len, up_len]; omega
  · show _ < (e.up _).tm.length; rw [up_len]; omega
/-- Up to the call of yield, and behind it. -/
theorem bw_r3 (sig : Sig) (hB : BwT tt S E el ag) (hT : TTok P tt) (hC : OkC P C) (hr : Rel Z e a w G) (hlen : e.tm.length = 19) (h1 : e.get 1 = .one (.box m 0)) (hl : look e.rt m = some (some (.box [.ro el xs tg]))) (h3 : e.get 3 = .one (.int .i64 x)) (h0 : 0 ≤ x) (hx : x < xs.length)
    {l : Nat} (hy : a.tmps.getD 0 undef = .func (.yield l) #[] #[]) {KY : Bool → World → Prop}
    (hround : ∀ w' G' e' xv a', EnvT e e' → Rel Z e' a' w' G' → AVRel (AtomRel w' (Stab Z e'.rt G' w') e'.rt G') (shaped ag (cellsOf el (xs.getD x.toNat el.dflt) 0 el.size)) xv →
      ∃ (f : FuncId) (tmps : Array Value) (asg c : Code), (Instr.yield l #[.int .i64 x, xv]).run P w' = .ok (.round l f tmps asg c) w' ∧ RoundIn Fence.wide (n - 1) P l f tmps asg c w' fun e w'' => ∃ b, e = .returned (.bool b) ∧ KY b w'')
    (hK : ∀ a' w' b, BwA a a' → a'.defers = a.defers → a'.tmps.getD 3 undef = .int .i64 x → a'.tmps.getD 18 undef = .bool (!b) → KY b w' → Q .normal a' w') : wpOpsIn Fence.wide n P (bwR3 S E I B Y) Q [0, 1, 2, 3, 4, 5, 6, 7] a w := by
  rw [wpOpsIn_cons]
  unfold wpOpIn
  rw [show (bwR3 S E I B Y)[0]? = some { dst := some 11, op := .move (.tmp 0), type := Y, pos := "iter.go:29", after := #[], guard := none } from rfl]
  dsimp only
  rw [if_pos (by simp [Region.wanted])]
  refine ⟨fun _ _ => trivial, ?_⟩
  rw [show Fence.wide.round = none from rfl, Oper.semAt_none]
  have run0 : (execOp a.eval { dst := some 11, op := .move (.tmp 0), type := Y, pos := "iter.go:29", after := #[], guard := none }).run P w = .ok (.value (a.eval (.tmp 0))) w := by simp [execOp]
  rw [run0, Oper.uponIn_value]
  have r0 : Rel Z (e.up (.tm 11 (.one .dead))) (a.put (some 11) (a.eval (.tmp 0))) w G := hr.put trivial
  generalize ha0 : a.put (some 11) (a.eval (.tmp 0)) = a0 at r0
  have c0 : BwA a a0 := (BwA.refl a).put (by rw [← ha0]) (by omega)
  have asz : a.tmps.size = 19 := by
    have := hr.tm.length
    rw [hlen] at this
    simpa using this.symm
  have y0 : a0.tmps.getD 11 undef = .func (.yield l) #[] #[] := by
    rw [← ha0, ← hy]
    show (a.tmps.setIfInBounds 11 (a.tmps.getD 0 undef)).getD 11 undef = _
    simp [Array.getD_eq_getD_getElem?, asz]
  show wpOpsIn Fence.wide n P (bwR3 S E I B Y) Q [1, 2, 3, 4, 5, 6, 7] a0 w
  rw [wpOpsIn_cons]
  refine op_step1 r0 hT hC (sig := sig) rfl rfl (pg_move (.inl rfl) rfl) fun a1 w1 G1 v1 e1 r1 => ?_
  rw [wpOpsIn_cons]
  refine op_step1 r1 hT hC (sig := sig) rfl rfl (pg_loadS hB rfl rfl ((get_up (by omega)).trans ((get_up (by omega)).trans h1)) hl) fun a2 w2 G2 v2 e2 r2 => ?_
  rw [wpOpsIn_cons]
  refine op_step1 r2 hT hC (sig := sig) rfl rfl (pg_move (.inl rfl) rfl) fun a3 w3 G3 v3 e3 r3 => ?_
  have g3 : (((e.up (.tm 11 (.one .dead))).up (.tm 12 ((e.up (.tm 11 (.one .dead))).get 3))).up (.tm 13 (.one (.ro el xs tg)))).get 3 = .one (.int .i64 x) :=
    (get_up (by omega)).trans ((get_up (by omega)).trans ((get_up (by omega)).trans h3))
  rw [wpOpsIn_cons]
  refine op_step1 r3 hT hC (sig := sig) rfl rfl (pg_index hB (t := 13) (u := 14) (xs := xs) (tg := tg) rfl rfl ((get_up (by omega)).trans (get_up_same (by show _ < ((e.up _).up _).tm.length; rw [up_len, up_len]; omega))) ((get_up_same (by show _ < (((e.up _).up _).up _).tm.length; rw [up_len, up_len, up_len]; omega)).trans g3) h0 hx) fun a4 w4 G4 v4 e4 r4 => ?_
  rw [wpOpsIn_cons]
  refine op_step1 r4 hT hC (sig := sig) rfl rfl (pg_loadE hB (t := 15) rfl rfl (get_up_same (by show _ < ((((e.up _).up _).up _).up _).tm.length; rw [up_len, up_len, up_len, up_len]; omega))) fun a5 w5 G5 v5 e5 r5 => ?_
  have c5 : BwA a a5 := ((((c0.put e1 (by omega)).put e2 (by omega)).put e3 (by omega)).put e4 (by omega)).put e5 (by omega)
  have y5 : a5.tmps.getD 11 undef = .func (.yield l) #[] #[] := by
    have ne : ∀ {a a' : Act} {d : Nat} {v : Value}, a'.tmps = (a.put (some d) v).tmps → 11 ≠ d → a'.tmps.getD 11 undef = a.tmps.getD 11 undef := fun e h => by rw [e, put_other (fun d hd => by cases hd; exact h)]
    exact (ne (d := 16) e5 (by omega)).trans ((ne (d := 15) e4 (by omega)).trans ((ne (d := 14) e3 (by omega)).trans ((ne (d := 13) e2 (by omega)).trans ((ne (d := 12) e1 (by omega)).trans y0))))
  have x12 : a5.tmps.getD 12 undef = .int .i64 x := by
    have := r5.get 12
    rw [show (Env.up _ (Up.tm 16 _)).get 12 = .one (.int .i64 x) from (get_up (by omega)).trans ((get_up (by omega)).trans ((get_up (by omega)).trans ((get_up (by omega)).trans ((get_up_same (by rw [up_len]; omega)).trans ((get_up (by omega)).trans h3)))))] at this
    exact this
  have x3 : a5.tmps.getD 3 undef = .int .i64 x := by
    have := r5.get 3
    rw [show (Env.up _ (Up.tm 16 _)).get 3 = .one (.int .i64 x) from (get_up (by omega)).trans ((get_up (by omega)).trans ((get_up (by omega)).trans g3))] at this
    exact this
  have x16 := r5.get 16
  rw [show (Env.up _ (Up.tm 16 _)).get 16 = shaped ag (cellsOf el (xs.getD x.toNat el.dflt) 0 el.size) from get_up_same (by show _ < (((((e.up _).up _).up _).up _).up _).tm.length; rw [up_len, up_len, up_len, up_len, up_len]; omega)] at x16
  have hh := fun et => hround w5 G5 _ _ a5 et r5 x16
  obtain ⟨f, tmps, asg, c, hyr, hR⟩ := hh (((((((EnvT.refl e).up _ (by omega)).up _ (by omega)).up _ (by omega)).up _ (by omega)).up _ (by omega)).up _ (by omega))
  rw [wpOpsIn_cons]
  unfold wpOpIn
  rw [show (bwR3 S E I B Y)[6]? = some { dst := some 17, op := .call { callee := .value (.tmp 11), args := #[.tmp 12, .tmp 16], argTypes := #[I, E] }, type := B, pos := "iter.go:29", after := #[{ on := 0, ground := .data }, { on := 1, ground := .data }, { on := 5, ground := .data }], guard := none } from rfl]
  dsimp only
  rw [if_pos (by simp [Region.wanted])]
  refine ⟨fun _ _ => trivial, ?_⟩
  rw [show Fence.wide.round = none from rfl, Oper.semAt_none]
  have run6 : (execOp a5.eval { dst := some 17, op := .call { callee := .value (.tmp 11), args := #[.tmp 12, .tmp 16], argTypes := #[I, E] }, type := B, pos := "iter.go:29", after := #[{ on := 0, ground := .data }, { on := 1, ground := .data }, { on := 5, ground := .data }], guard := none }).run P w5 = .ok (.round l f tmps asg c) w5 := by
    rw [← hyr, ← x12]
    simp only [execOp, resolve]
    rw [show a5.eval (.tmp 11) = .func (.yield l) #[] #[] from y5]
    simp [Deferred.ofValue, invoke, Act.eval]
  rw [run6, Oper.uponIn_round]
  refine ⟨fun h => by simp [Fence.wide] at h, hR.mono ?_⟩
  rintro _ w6 ⟨b, rfl, hk⟩
  show wpOpsIn Fence.wide n P (bwR3 S E I B Y) Q [7] (a5.put (some 17) (.bool b)) w6
  have asz5 : a5.tmps.size = 19 := c5.size.trans asz
  rw [wpOpsIn_cons]
  unfold wpOpIn
  rw [show (bwR3 S E I B Y)[7]? = some { dst := some 18, op := .unOp .not B (.tmp 17), type := B, pos := "iter.go:29", after := #[{ on := 6, ground := .data }], guard := none } from rfl]
  dsimp only
  rw [if_pos (by simp [Region.wanted])]
  refine ⟨fun _ _ => trivial, ?_⟩
  rw [show Fence.wide.round = none from rfl, Oper.semAt_none]
  have run7 : (execOp (a5.put (some 17) (.bool b)).eval { dst := some 18, op := .unOp .not B (.tmp 17), type := B, pos := "iter.go:29", after := #[{ on := 6, ground := .data }], guard := none }).run P w6 = .ok (.value (.bool (!b))) w6 := by
    have : (a5.put (some 17) (.bool b)).eval (.tmp 17) = .bool b := by
      show (a5.tmps.setIfInBounds 17 (.bool b)).getD 17 undef = _
      simp [Array.getD_eq_getD_getElem?, asz5]
    simp [execOp, this, Op.unary]
  rw [run7, Oper.uponIn_value]
  refine hK _ w6 b ((c5.put (a' := a5.put (some 17) (.bool b)) (d := 17) rfl (by omega)).put (d := 18) rfl (by omega)) ?_ ?_ ?_ hk
  · show a5.defers = a.defers
    rw [r5.df, hr.df]
  · rw [put_other (by simp), put_other (by simp)]; exact x3
  · show ((a5.put (some 17) (.bool b)).tmps.setIfInBounds 18 (.bool !b)).getD 18 undef = _
    simp [Array.getD_eq_getD_getElem?, Act.put, asz5]
end
end
end Go.Am
set_option linter.unusedVariables false
set_option linter.unusedSimpArgs false
namespace Go.Am
open Go

/-! ### A range over slices.Backward -/

structure RangeD where
  n : Nat
  g : Nat
  f : Nat
  el : Kd
  ag : Bool
  pk : Nat
  pv : Nat
  ss : List Nat
  shs : List Sh
  outs : Ex → Option (List Sh)
abbrev RPs := (R : Type) → Pk → Int → (Ex → Pk → Option R) → Option R

/-- The list that the closure goes over. -/
def RangeD.rlist (D : RangeD) (q : Pk) : Option (List D.el.den) :=
  match q.args with
  | .one (.fn f [(m, 0)]) :: _ => bif Nat.beq f D.f then (match look (ptab q.rt) m with
    | some (some (.box [.ro e xs _])) => castD (fun k => List k.den) e D.el xs
    | _ => none) else none
  | _ => none
def RangeD.env (D : RangeD) (q : Pk) (i : Int) (x : D.el.den) : Env :=
  { tm := ((mkTm D.n (D.g :: D.ss) q.args).set D.pk (.one (.int .i64 i))).set D.pv (shaped D.ag (cellsOf D.el x 0 D.el.size)), rt := ptab q.rt, ag := q.args }
def RangeD.head (D : RangeD) : List Sh := .fn D.f [[.ro D.el]] :: D.shs
def RangeD.leave (D : RangeD) {R : Type} (K : CK R) (x : Ex) (e : Env) (kk : Ex → Pk → Option R) : Option R :=
  match D.outs x with
  | some sho => (headOf e.ag [] sho).runK K e ⟨[], []⟩ fun q' _ => kk x q'
  | none => none
/-- One round: the assignment, the body, and what comes after. -/
def RangeD.round (D : RangeD) (tt : TT) (sig : Sig) {R : Type} (K : CK R) (L : LK R) (asg c : Code) (again : Pk → Option R) (q : Pk) (i : Int) (x : D.el.den) (kk : Ex → Pk → Option R) : Option R :=
  ev tt sig K L asg (D.env q i x) fun x e => match x with
    | .normal => ev tt sig K L c e fun x e => match x with
      | .normal => (headOf e.ag [] D.head).runK K e ⟨[], []⟩ fun q' _ => again q'
      | x => D.leave K x e kk
    | _ => none
def RangeD.step (D : RangeD) (tt : TT) (sig : Sig) {R : Type} (K : CK R) (L : LK R) (asg c : Code) (again : Pk → Int → Option R) (q : Pk) (i : Int) (kk : Ex → Pk → Option R) : Option R :=
  match D.rlist q with
  | none => none
  | some xs => bif decide (i ≥ 0) then (bif decide (i < (xs.length : Int)) then
      D.round tt sig K L asg c (fun q' => again q' (IntKind.wrap .i64 (i - 1))) q i (xs.getD (Int.toNat i) D.el.dflt) kk
      else none)
    else D.leave K .normal ⟨[], ptab q.rt, q.args⟩ kk
def RangeD.oracle (D : RangeD) {R : Type} (K : CK R) (lp : Pk → Int → (Ex → Pk → Option R) → Option R) (e : Env) (k : Ex → Env → Option R) : Option R :=
  bif Nat.beq e.tm.length D.n then (headOf e.ag (D.g :: D.ss) D.head).runK K e ⟨[], []⟩ fun q _ => match D.rlist q with
    | some xs => lp q (IntKind.wrap .i64 ((xs.length : Int) - 1)) fun x q' => k x (mkEnv D.n (D.g :: D.ss) q')
    | none => none
  else none
def NatRP (h : RPs) : Prop := ∀ (R S : Type) (g : S → Option R) p i (k' : Ex → Pk → Option S), h R p i (fun x q => (k' x q).bind g) = (h S p i k').bind g
def addR (K : CKs) (L : LKs) (i : Nat) (D : RangeD) (h : RPs) : LKs := fun R j e k => bif Nat.beq j i then D.oracle (K R) (h R) e k else L R j e k

theorem RangeD.rlist_some {D : RangeD} {q : Pk} {xs : List D.el.den} (h : D.rlist q = some xs) : ∃ m tg rest, q.args = .one (.fn D.f [(m, 0)]) :: rest ∧ look (ptab q.rt) m = some (some (.box [.ro D.el xs tg])) := by
  unfold RangeD.rlist at h
  split at h
  case h_2 => cases h
  rename_i f m rest hq
  cases hb : Nat.beq f D.f with
  | false => rw [hb] at h; cases h
  | true =>
    rw [hb] at h
    have := Nat.eq_of_beq_eq_true hb
    subst this
    rw [cond_true] at h
    split at h
    case h_2 => cases h
    rename_i e ys tg hl
    obtain ⟨he, hh⟩ := castL_eq h
    subst he
    subst hh
    exact ⟨m, tg, rest, hq, hl⟩

section
variable {P : Program} {tt : TT} {sig : Sig} {K : CKs} {L : LKs}
theorem leave_nat {D : RangeD} (hK : NatK K) {R S : Type} {g : S → Option R} {e : Env} {x : Ex} {k' : Ex → Pk → Option S} : D.leave (K R) x e (fun x q => (k' x q).bind g) = (D.leave (K S) x e k').bind g := by
  unfold RangeD.leave
  split
  · exact Pg.runK_nat (hK R S g) _ _ fun q _ => k' x q
  · rfl
theorem round_nat {D : RangeD} (hK : NatK K) (hL : NatL L) {asg c : Code} {R S : Type} {g : S → Option R} {again : Pk → Option S} {q : Pk} {i : Int} {x : D.el.den} {k' : Ex → Pk → Option S} :
    D.round tt sig (K R) (L R) asg c (fun q' => (again q').bind g) q i x (fun x q => (k' x q).bind g) = (D.round tt sig (K S) (L S) asg c again q i x k').bind g := by
  unfold RangeD.round
  rw [← ev_nat (hK R S g) (hL R S g)]
  congr 1
  funext x e
  cases x with
  | normal =>
    dsimp only
    rw [← ev_nat (hK R S g) (hL R S g)]
    congr 1
    funext x e
    cases x with
    | normal => exact Pg.runK_nat (hK R S g) _ _ fun q _ => again q
    | ret => exact leave_nat hK
    | exit i => exact leave_nat hK
  | ret => rfl
  | exit i => rfl
theorem rstep_nat {D : RangeD} (hK : NatK K) (hL : NatL L) {asg c : Code} {lp : RPs} (hlp : NatRP lp) {R S : Type} {g : S → Option R} {q : Pk} {i : Int} {k' : Ex → Pk → Option S} :
    D.step tt sig (K R) (L R) asg c (fun q' j => lp R q' j fun x q => (k' x q).bind g) q i (fun x q => (k' x q).bind g) = (D.step tt sig (K S) (L S) asg c (fun q' j => lp S q' j k') q i k').bind g := by
  unfold RangeD.step
  split
  · rfl
  · rename_i xs _
    cases decide (i ≥ 0) with
    | false => exact leave_nat hK
    | true =>
      cases decide (i < (xs.length : Int)) with
      | false => rfl
      | true =>
        simp only [cond_true]
        rw [← round_nat hK hL]
        congr 1
        funext q'
        exact hlp R S g _ _ k'
theorem roracle_nat {D : RangeD} (hK : NatK K) {lp : RPs} (hlp : NatRP lp) {R S : Type} {g : S → Option R} {e : Env} {k' : Ex → Env → Option S} : D.oracle (K R) (lp R) e (fun x e => (k' x e).bind g) = (D.oracle (K S) (lp S) e k').bind g := by
  unfold RangeD.oracle
  cases Nat.beq e.tm.length D.n with
  | false => rfl
  | true =>
    simp only [cond_true]
    rw [← Pg.runK_nat (hK R S g)]
    congr 1
    funext q s
    split
    · exact hlp R S g _ _ fun x q' => k' x (mkEnv D.n (D.g :: D.ss) q')
    · rfl
theorem addR_nat (hK : NatK K) (hL : NatL L) {i : Nat} {D : RangeD} {h : RPs} (hh : NatRP h) : NatL (addR K L i D h) := by
  intro R S g j e k
  unfold addR
  cases Nat.beq j i with
  | true => exact roracle_nat hK hh
  | false => exact hL R S g j e k

/-- What a range by fuel is: nothing without fuel; else one round, and what comes after. -/
structure RangeEq (tt : TT) (sig : Sig) (K : Nat → CKs) (L : Nat → LKs) (D : RangeD) (S : PkS) (asg c : Code) (lp : Nat → RPs) : Prop where
  zero : ∀ R q i kk, lp 0 R q i kk = none
  succ : ∀ n R q i kk, lp (n + 1) R q i kk = match S.un q with
    | some _ => D.step tt sig (K n R) (L n R) asg c (fun q' j => lp n R q' j kk) q i kk
    | none => none
theorem RangeEq.nat {K : Nat → CKs} {L : Nat → LKs} {D : RangeD} {S : PkS} {asg c : Code} {lp : Nat → RPs} (h : RangeEq tt sig K L D S asg c lp) (hK : ∀ n, NatK (K n)) (hL : ∀ n, NatL (L n)) : ∀ n, NatRP (lp n)
  | 0, R, S', g, q, i, k' => by rw [h.zero, h.zero]; rfl
  | n + 1, R, S', g, q, i, k' => by
    rw [h.succ, h.succ]
    split
    · exact rstep_nat (hK n) (hL n) (RangeEq.nat h hK hL n)
    · rfl
end

/-! ### From packets to slots, and back -/

section
variable {P : Program} {tt : TT} {sig : Sig} {C : Nat → Pk → Option Pk} {Z : Base} {e : Env} {a : Act} {w w' : World} {G H : Gh} {s s' : Seen} {q : Pk}
theorem head_pk (h : Rel Z e a w G) {ss : List Nat} {shs : List Sh} (hp : (headOf e.ag ss shs).run C e s = some (q, s')) : ∃ H, PkOk Z q (ss.map (fun t => a.tmps.getD t undef) ++ Z.vs) w H := by
  obtain ⟨vs, s1, h1, h2, hp⟩ := run_gets h hp
  obtain ⟨avs, st, s3, e1, H, hp, hc, hle, hargs⟩ := canonVs_ok (Cn.start h (H := G)) (h1.append h.ag) hp
  have := run_ret hp
  simp only at this
  subst this
  exact ⟨H, hc.done hargs⟩
theorem pk_tm {tmps : Array Value} {ss : List Nat} {vs0 : List Value} {n : Nat} (h : PkOk Z q (ss.map (fun t => tmps.getD t undef) ++ vs0) w H) (hn : tmps.size = n) :
    All2 (AVRel (AtomRel w (Stab Z (ptab q.rt) H w) (ptab q.rt) H)) (mkTm n ss q.args) tmps.toList := by
  refine mkTm_rel (fun _ => trivial) hn ?_
  have h9 := h.args.take ss.length
  have h8 : (ss.map (fun t => tmps.getD t undef) ++ vs0).take ss.length = ss.map fun t => tmps.getD t undef := by
    rw [List.take_append_of_le_length (by simp), List.take_of_length_le (by simp)]
  rw [h8] at h9
  exact h9
theorem pk_rel {tmps : Array Value} {ss : List Nat} {vs0 : List Value} {n : Nat} (h : PkOk Z q (ss.map (fun t => tmps.getD t undef) ++ vs0) w H) (hn : tmps.size = n) (ds : List Deferred) : Rel { Z with vs := vs0, df := ds } (mkEnv n ss q) { tmps, defers := ds } w H := by
  have ht : All2 (AVRel (AtomRel w (Stab Z (ptab q.rt) H w) (ptab q.rt) H)) (mkTm n ss q.args) tmps.toList := pk_tm h hn
  refine ⟨rfl, ht, ⟨h.mem.roots, h.mem.sep, h.mem.base, h.mem.evo⟩, ?_⟩
  have h9 := h.args.drop ss.length
  have h8 : (ss.map (fun t => tmps.getD t undef) ++ vs0).drop ss.length = vs0 := by
    rw [List.drop_append_of_le_length (by simp), List.drop_of_length_le (by simp), List.nil_append]
  rw [h8] at h9
  exact h9
theorem pk_round {tmps : Array Value} {ss : List Nat} {vs0 : List Value} {n : Nat} (h : PkOk Z q (ss.map (fun t => tmps.getD t undef) ++ vs0) w H) (hn : tmps.size = n) (hv : Z.vs = ss.map (fun t => tmps.getD t undef) ++ vs0) (hd : Z.df = []) : Rel Z ⟨mkTm n ss q.args, ptab q.rt, q.args⟩ { tmps, defers := [] } w H :=
  ⟨hd.symm, pk_tm h hn, h.mem, by rw [hv]; exact h.args⟩
theorem rel_pk (h : Rel Z e a w G) (hrt : e.rt = ptab q.rt) (hag : e.ag = q.args) {vs : List Value} (hv : Z.vs = vs) : PkOk Z q vs w G :=
  ⟨by rw [← hag, ← hrt, ← hv]; exact h.ag, by rw [← hrt]; exact h.mem⟩

/-- What the closure's own slots hold. -/
theorem bw_rel {vs : List Value} (h : PkOk Z q vs w H) (hv : Z.vs = vs) (hd : Z.df = []) {m : Rid} (hsz : a.tmps.size = 19) (ha : a.defers = []) (h1 : BoxRel (ptab q.rt) H m 0 (a.tmps.getD 1 undef)) {v3 : AV} (h3 : AVRel (AtomRel w (Stab Z (ptab q.rt) H w) (ptab q.rt) H) v3 (a.tmps.getD 3 undef)) :
    Rel Z ⟨((List.replicate 19 (.one .dead)).set 1 (.one (.box m 0))).set 3 v3, ptab q.rt, q.args⟩ a w H := by
  refine ⟨by rw [ha, hd], ?_, h.mem, by rw [hv]; exact h.args⟩
  refine All2.getElem (by simp [hsz]) fun i x y hx hy => ?_
  have hy' : a.tmps.getD i undef = y := by
    have : a.tmps[i]? = some y := by simpa using hy
    simp [Array.getD_eq_getD_getElem?, this]
  by_cases e3 : i = 3
  · subst e3
    simp at hx
    rw [← hx, ← hy']
    exact h3
  · rw [List.getElem?_set_ne (Ne.symm e3)] at hx
    by_cases e1 : i = 1
    · subst e1
      simp at hx
      rw [← hx, ← hy']
      exact h1
    · rw [List.getElem?_set_ne (Ne.symm e1), List.getElem?_replicate] at hx
      split at hx
      · cases hx; trivial
      · cases hx
theorem Mem.own_cells {rt : Roots} (hm : Mem Z rt G w) {b : Nat} (h : Owns rt G b) : ∃ o, w.heap[b]? = some o ∧ ownObj o = true := by
  obtain ⟨r, x, h1, ho, hb⟩ := h
  have h := hm.roots r x h1
  cases x with
  | box l =>
    obtain ⟨b', vs, t, h1, h2, _⟩ := h
    rw [h1] at hb; simp [Bk, blkOf] at hb; subst hb
    exact ⟨_, h2, rfl⟩
  | arr e xs =>
    rcases h with ⟨_, ad, h1⟩ | ⟨b', off, cap, cells, t, h1, h2, h3, h4, _⟩
    · rw [h1] at hb; cases ad <;> simp [Bk, blkOf] at hb
    · rw [h1] at hb; simp [Bk, blkOf] at hb
      obtain ⟨_, rfl⟩ := hb
      exact ⟨_, h4, rfl⟩
  | fro e xs => cases ho
  | map m =>
    cases m with
    | kv m =>
      obtain ⟨⟨b', es, c, h1, h2, _⟩⟩ := h
      rw [h1] at hb; simp [Bk, blkOf] at hb; subst hb
      exact ⟨_, h2, rfl⟩
    | ks m =>
      obtain ⟨⟨b', es, c, h1, h2, _⟩⟩ := h
      rw [h1] at hb; simp [Bk, blkOf] at hb; subst hb
      exact ⟨_, h2, rfl⟩
    | dee e xs =>
      obtain ⟨c, t, h1⟩ := DeeOk.cells (show DeeOk w e xs (G r) from h) hb
      exact ⟨_, h1, rfl⟩
/-- What is no cells stays. -/
theorem Rel.keeps (h : Rel Z e a w G) {a' : Act} {e' : Env} {G' : Gh} (hr : Rel (Go.Am.reb Z e.rt G w h.mem) e' a' w' G') {l : Nat} {o : Obj} (hl : w.heap[l]? = some o) (hc : ownObj o = false) : w'.heap[l]? = some o := by
  rw [← hl]
  refine hr.mem.evo.block l (Array.getElem?_eq_some_iff.1 hl).1 fun ho => ?_
  obtain ⟨o', h1, h2⟩ := h.mem.own_cells ho
  rw [h1] at hl
  cases hl
  rw [h2] at hc; cases hc
end

def bwF (P : Program) (f : Nat) (S E I B Y : TypeId) : Prop := ∃ fn : Func, P.funcs[f]? = some fn ∧ fn.body = some (bwCode S E I B Y) ∧ fn.ntmps = 19 ∧ fn.results = #[] ∧ (fn.name == "runtime.NumGoroutine") = false
def codeOf : Ex → Code
  | .normal => .skip
  | .ret => .ret
  | .exit i => .exit i
end Go.Am
set_option linter.unusedVariables false
set_option linter.unusedSimpArgs false
namespace Go.Am
open Go

section
variable {P : Program} {tt : TT} {sig : Sig}

/-- The record of the loop. -/
def recOf (fn : FuncId) (tmps : Array Value) (D : RangeD) (asg c : Code) (df : Nat) (st : LoopState) (pe : Option Code) : Loop :=
  { state := st, pending := pe, fn, tmps, params := #[D.pk, D.pv], assign := asg, body := c, defers := df }

/-- One round: from a packet to a packet, or out of the loop. -/
theorem round_ok (hm : P.follows .mixedOrders = true) (hT : TTok P tt) {K : CKs} {L : LKs} (hKn : NatK K) (hKo : OkK P K) {D : RangeD} {asg c : Code} {R : Type} (hLa : LoopsOk P (L R) asg) (hLc : LoopsOk P (L R) c)
    (ga : goodB asg = true) (gc : goodB c = true) (ra : hasR asg = false) (rc : hasR c = false) {again : Pk → Option R} {kk : Ex → Pk → Option R} {r : R} {q : Pk} {i : Int} {x : D.el.den}
    (he : D.round tt sig (K R) (L R) asg c again q i x kk = some r)
    {Z : Base} {a : Act} {vs0 : List Value} {W : World} {H : Gh} (hq : PkOk Z q ((D.g :: D.ss).map (fun t => a.tmps.getD t undef) ++ vs0) W H) (hn : a.tmps.size = D.n) (hv : Z.vs = (D.g :: D.ss).map (fun t => a.tmps.getD t undef) ++ vs0) (hd : Z.df = [])
    {l : Nat} {fn : FuncId} {df : Nat} (hl : W.heap[l]? = some (.loop (recOf fn a.tmps D asg c df .ready none))) (hZl : Z.B l) {xv : Value} (hx : AVRel (AtomRel W (Stab Z (ptab q.rt) H W) (ptab q.rt) H) (shaped D.ag (cellsOf D.el x 0 D.el.size)) xv) {n : Nat} :
    ∃ tmps', (Instr.yield l #[.int .i64 i, xv]).run P W = .ok (.round l fn tmps' asg c) W ∧ RoundIn Fence.wide n P l fn tmps' asg c W fun e w'' => ∃ b, e = .returned (.bool b) ∧
      (match b with
       | true => ∃ q' H', again q' = some r ∧ PkOk Z q' Z.vs w'' H' ∧ w''.heap[l]? = some (.loop (recOf fn a.tmps D asg c df .ready none))
       | false => ∃ x q' H', x ≠ .normal ∧ kk x q' = some r ∧ PkOk Z q' Z.vs w'' H' ∧ w''.heap[l]? = some (.loop (recOf fn a.tmps D asg c df .done (some (codeOf x))))) := by
  have hy := run_yield (P := P) (args := #[.int .i64 i, xv]) hl rfl
  refine ⟨_, hy, roundIn_of_wpIn trivial ?_⟩
  have r0 := ((pk_round hq hn hv hd).put (d := D.pk) (v := .one (.int .i64 i)) (u := .int .i64 i) rfl).put (d := D.pv) hx
  have htm : ((((⟨a.tmps, []⟩ : Act).put (some D.pk) (.int .i64 i)).put (some D.pv) xv)) = { tmps := ((recOf fn a.tmps D asg c df .ready none).params.zip #[.int .i64 i, xv]).foldl (fun tmps (t, v) => tmps.setIfInBounds t v) a.tmps, defers := [] } := by
    simp [recOf, Act.put]
  rw [htm] at r0
  have r1 : Rel Z (D.env q i x) _ W H := r0
  unfold RangeD.round at he
  refine ev_sound hm hT hKo (hKn.eq R) (rules_round (l := l) (n := n)) (Good.of ga) hLa (oneR_of ra) (fun h => by rw [ra] at h; cases h) he r1.reb fun x Z' e1 a1 w1 G1 hk hz hr1 => ?_
  rcases hz with rfl | ⟨h, _⟩
  case inr => rw [ra] at h; cases h
  cases x with
  | ret => cases hk
  | exit j => cases hk
  | normal =>
    have hl1 := r1.keeps hr1 hl rfl
    refine ⟨_, run_beginRound hl1 rfl, ?_⟩
    have r2 := (hr1.back r1.mem).putNC hl1 rfl (.inl hZl) (.loop (recOf fn a.tmps D asg c df .busy none))
    have hl2 : (w1.putObj l (.loop (recOf fn a.tmps D asg c df .busy none))).heap[l]? = some (.loop (recOf fn a.tmps D asg c df .busy none)) := World.putObj_heap_same (Array.getElem?_eq_some_iff.1 hl1).1
    refine ev_sound hm hT hKo (hKn.eq R) (rules_round (l := l) (n := n)) (Good.of gc) hLc (oneR_of rc) (fun h => by rw [rc] at h; cases h) hk r2.reb fun x Z' e3 a3 w3 G3 hk hz hr3 => ?_
    rcases hz with rfl | ⟨h, _⟩
    case inr => rw [rc] at h; cases h
    have hl3 := r2.keeps hr3 hl2 rfl
    have fin : ∀ {shs : List Sh} {k : Pk → Option R}, ((headOf e3.ag [] shs).runK (K R) e3 ⟨[], []⟩ fun q' _ => k q') = some r → ∀ jump : Option Code, ∃ q' H' w4, k q' = some r ∧ (Instr.endRound l jump).run P w3 = .ok (.bool jump.isNone) w4 ∧ PkOk Z q' Z.vs w4 H' ∧ w4.heap[l]? = some (.loop (recOf fn a.tmps D asg c df (if jump.isNone then .ready else .done) jump)) := fun hk jump => by
      rw [Pg.runK_eq (hKn.eq R)] at hk
      obtain ⟨⟨q', s'⟩, h1, h2⟩ := Option.bind_eq_some_iff.1 hk
      obtain ⟨H', h3⟩ := head_pk hr3 h1
      have h4 : PkOk Z q' Z.vs w3 H' := PkOk.back r2.mem h3
      refine ⟨q', H', _, h2, run_endRound jump hl3, h4.put hl3 rfl (.inl hZl) _, World.putObj_heap_same (Array.getElem?_eq_some_iff.1 hl3).1⟩
    cases x with
    | normal =>
      obtain ⟨q', H', w4, h1, h2, h3, h4⟩ := fin hk none
      exact ⟨_, _, h2, true, rfl, q', H', h1, h3, h4⟩
    | ret =>
      unfold RangeD.leave at hk
      dsimp only at hk
      split at hk
      case h_2 => cases hk
      obtain ⟨q', H', w4, h1, h2, h3, h4⟩ := fin (k := kk .ret) hk (some .ret)
      exact ⟨_, _, h2, false, rfl, .ret, q', H', by simp, h1, h3, h4⟩
    | exit j =>
      unfold RangeD.leave at hk
      dsimp only at hk
      split at hk
      case h_2 => cases hk
      obtain ⟨q', H', w4, h1, h2, h3, h4⟩ := fin (k := kk (.exit j)) hk (some (.exit j))
      exact ⟨_, _, h2, false, rfl, .exit j, q', H', by simp, h1, h3, h4⟩

set_option maxHeartbeats 2000000 in
/-- A range over slices.Backward does what its oracle says. -/
theorem RangeEq.ok (hm : P.follows .mixedOrders = true) (hT : TTok P tt) {K : Nat → CKs} {L : Nat → LKs} {D : RangeD} {S : PkS} {asg c : Code} {lp : Nat → RPs} (h : RangeEq tt sig K L D S asg c lp) (hKn : ∀ n, NatK (K n)) (hKo : ∀ n, OkK P (K n))
    {R : Type} (hLa : ∀ n, LoopsOk P (L n R) asg) (hLc : ∀ n, LoopsOk P (L n R) c) (ga : goodB asg = true) (gc : goodB c = true) (ra : hasR asg = false) (rc : hasR c = false)
    {ts te ti tb ty : TypeId} (hB : bwT tt ts te D.el D.ag = true) (hF : bwF P D.f ts te ti tb ty) {L0 : LK R} {n : Nat} {K0 : CKs} (hK0 : NatK K0) (h0 : ∀ id, firstRegion c = some id → L0 id = D.oracle (K0 R) (lp n R)) : RangeOk P L0 (.tmp D.g) #[D.pk, D.pv] asg c := by
  intro id hid Z e a w G k r Q hdf he hr hQ
  obtain ⟨fb, hf, hb, hn19, hres, hname⟩ := hF
  have hB := BwT.of hB
  rw [h0 id hid] at he
  unfold RangeD.oracle at he
  cases hlen : Nat.beq e.tm.length D.n with
  | false => rw [hlen] at he; cases he
  | true =>
  rw [hlen, cond_true, Pg.runK_eq (hK0.eq R)] at he
  obtain ⟨⟨q, s'⟩, e1, he⟩ := Option.bind_eq_some_iff.1 he
  dsimp only at he
  split at he
  case h_2 => cases he
  rename_i xs hxs
  have hsz : a.tmps.size = D.n := by
    have := hr.tm.length
    rw [Nat.eq_of_beq_eq_true hlen] at this
    simpa using this.symm
  obtain ⟨H, hq⟩ := head_pk hr e1
  obtain ⟨vs, hvs⟩ : ∃ vs, vs = (D.g :: D.ss).map (fun t => a.tmps.getD t undef) ++ Z.vs := ⟨_, rfl⟩
  rw [← hvs] at hq
  -- what the closure holds
  have capIn : ∀ {Z' : Base} {q : Pk} {W : World} {H : Gh} {xs : List D.el.den}, PkOk Z' q vs W H → D.rlist q = some xs → ∃ (m : Rid) (tg : Bool) (cap : Value), a.tmps.getD D.g undef = .func (.func D.f) #[] #[cap] ∧ BoxRel (ptab q.rt) H m 0 cap ∧ look (ptab q.rt) m = some (some (.box [.ro D.el xs tg])) := fun {Z' q W H xs} hq hx => by
    obtain ⟨m, tg, rest, h1, h2⟩ := D.rlist_some hx
    have h3 := hq.args
    rw [h1, hvs, List.map_cons, List.cons_append] at h3
    have h6 : AtomRel W (Stab Z' (ptab q.rt) H W) (ptab q.rt) H (.fn D.f [(m, 0)]) (a.tmps.getD D.g undef) := h3.1
    obtain ⟨us, h4, h5⟩ := h6
    cases us with
    | mk us => cases us with
      | nil => exact h5.elim
      | cons u us => cases us with
        | nil => exact ⟨m, tg, u, h4, h5.1, h2⟩
        | cons _ _ => exact h5.2.elim
  obtain ⟨m, tg, cap, hg, hcap, hbox⟩ := capIn hq hxs
  refine (wpIn_wide (n := 0)).1 (wpIn_rangeFunc fun fn _ => ?_)
  obtain ⟨rec, hrec⟩ : ∃ rec, rec = recOf fn a.tmps D asg c w.heap.size := ⟨_, rfl⟩
  obtain ⟨W1, hW1⟩ : ∃ W1, (w.alloc (.deferred (some []))).alloc (.loop (rec .ready none)) = W1 := ⟨_, rfl⟩
  have hsz1 : W1.heap.size = w.heap.size + 2 := by rw [← hW1, World.size_alloc, World.size_alloc]
  have hold : ∀ b, b < w.heap.size → W1.heap[b]? = w.heap[b]? := fun b hb => by
    rw [← hW1, RowKit.Below.heap_alloc _ _ _ (by rw [World.size_alloc]; omega), RowKit.Below.heap_alloc _ _ _ hb]
  have hL1 : W1.heap[w.heap.size + 1]? = some (.loop (rec .ready none)) := by
    rw [← hW1]; have := World.alloc_heap_new (w.alloc (.deferred (some []))) (.loop (rec .ready none)); rwa [World.size_alloc] at this
  have hD1 : W1.heap[w.heap.size]? = some (.deferred (some [])) := by
    rw [← hW1]; exact (RowKit.Below.heap_alloc _ _ _ (by rw [World.size_alloc]; omega)).trans (World.alloc_heap_new w _)
  have hzold : ∀ b, Stab Z (ptab q.rt) H w b → b < W1.heap.size ∧ ¬ (Owns (ptab q.rt) H b ∨ b = w.heap.size + 1) := fun b hb => by
    have h1 := Stab.lt hq.mem hb
    refine ⟨by omega, fun h => ?_⟩
    rcases h with h | h
    · exact hb.2 h
    · omega
  obtain ⟨Z1, hZ1⟩ : ∃ Z1 : Base, Z1 = { w := W1, B := fun b => Owns (ptab q.rt) H b ∨ b = w.heap.size + 1, S := Stab Z (ptab q.rt) H w, vs := vs, df := [], old := hzold, gl := hq.mem.gl.mono fun b hb => ⟨hb, hold b (Stab.lt hq.mem hb)⟩ } := ⟨_, rfl⟩
  have hZl : Z1.B (w.heap.size + 1) := by rw [hZ1]; exact .inr rfl
  have hZv : Z1.vs = vs := by rw [hZ1]
  have hZd : Z1.df = [] := by rw [hZ1]
  have q1 : PkOk Z1 q vs W1 H := by
    refine hq.shift (hW1 ▸ (SameC.alloc _ _).trans (.alloc _ _)) (fun b hb => ?_) (fun b hb => ?_) ?_
    · rw [hZ1]; exact ⟨.inl hb, hb.2⟩
    · rw [hZ1]; exact .inl (.inl hb)
    · rw [hZ1]; exact Evo.refl _ _
  -- what comes after the loop
  obtain ⟨a', ha'⟩ : ∃ a' : Act, a' = { a with defers := [{ target := .collected w.heap.size, args := #[] }] ++ a.defers } := ⟨_, rfl⟩
  have hds : a.defers = [] := hr.df.trans hdf
  have after : ∀ {q' : Pk} {H' : Gh} {w4 : World} {x : Ex}, k x (mkEnv D.n (D.g :: D.ss) q') = some r → PkOk Z1 q' vs w4 H' → Q (exOf x) a' w4 := fun {q' H' w4 x} hk hp => by
    obtain ⟨Z2, hZ2⟩ : ∃ Z2 : Base, Z2 = { Z1 with vs := Z.vs, df := [{ target := .collected w.heap.size, args := #[] }] } := ⟨_, rfl⟩
    have hrel : Rel Z2 (mkEnv D.n (D.g :: D.ss) q') a' w4 H' := by
      have := pk_rel (ss := D.g :: D.ss) (vs0 := Z.vs) (tmps := a.tmps) (by rw [← hvs]; exact hp) hsz [{ target := .collected w.heap.size, args := #[] }]
      rw [hZ2, ha', hds]
      exact this
    refine hQ x Z2 _ a' w4 H' hk ⟨hdf, w.heap.size, by rw [hZ2], fun e a w' G' hr' => ?_⟩ hrel
    have hnD : ¬ Z2.B w.heap.size := fun hB => by
      rw [hZ2, hZ1] at hB
      rcases hB with hB | hB
      · exact Nat.lt_irrefl _ (hq.mem.own_lt hB)
      · omega
    have hDk : w'.heap[w.heap.size]? = some (.deferred (some [])) := by
      have := hr'.mem.evo.block w.heap.size (by rw [hZ2, hZ1]; show _ < W1.heap.size; omega) hnD
      rw [this, hZ2, hZ1]
      exact hD1
    have hold2 : ∀ b, Z2.S b → b < Z2.w.heap.size ∧ ¬ (Z2.B b ∨ b = w.heap.size) := fun b hb => ⟨(Z2.old b hb).1, fun h => by
      rcases h with h | h
      · exact (Z2.old b hb).2 h
      · rw [hZ2, hZ1] at hb
        have := Stab.lt hq.mem hb
        omega⟩
    have hv2 : Z2.vs = Z.vs := by rw [hZ2]
    have hz2w : Z2.w = W1 := by rw [hZ2, hZ1]
    have hS2 : ∀ b, Z2.S b → Stab Z (ptab q.rt) H w b := fun b h => by rw [hZ2, hZ1] at h; exact h
    refine ⟨hDk, { Z2 with B := fun b => Z2.B b ∨ b = w.heap.size, old := hold2 }, hv2, ?_, fun q2 vs2 w2 G2 hp2 => ?_⟩
    · refine hr'.shift (.put hDk rfl _) (fun b hb => ⟨?_, hb.2⟩) (fun b hb => ?_) ⟨hr'.mem.evo.os, hr'.mem.evo.tape, hr'.mem.evo.output, by rw [World.putObj_size]; exact hr'.mem.evo.size, fun b h1 h2 => ?_⟩ rfl rfl
      · rw [World.putObj_size]
        exact hb.1.imp (fun h => h) fun h => ⟨h.1.imp .inl fun h => h, h.2⟩
      · exact (hr'.mem.base b hb).imp .inl fun h => h
      · rw [World.putObj_heap_other fun e => h2 (.inr e)]
        exact hr'.mem.evo.block b h1 fun h => h2 (.inl h)
    · have hsize : w.heap.size ≤ w2.heap.size := by
        have := hp2.mem.evo.size
        have h9 : W1.heap.size ≤ w2.heap.size := by rw [← hz2w]; exact this
        omega
      have hBz : ∀ b, (Owns (ptab q.rt) H b ∨ b = w.heap.size + 1) ∨ b = w.heap.size → Z.B b ∨ Z.w.heap.size ≤ b := fun b hb => by
        have := hq.mem.evo.size
        rcases hb with (hb | hb) | hb
        · exact hq.mem.base b hb
        · exact .inr (by omega)
        · exact .inr (by omega)
      have hB2 : ∀ b, (Z2.B b ∨ b = w.heap.size) → Z.B b ∨ Z.w.heap.size ≤ b := fun b hb => hBz b (by rw [hZ2, hZ1] at hb; exact hb)
      refine hp2.shift (.refl _) (fun b hb => ⟨?_, hb.2⟩) (fun b hb => ?_) ⟨hp2.mem.evo.os.trans ?_, hp2.mem.evo.tape.trans ?_, hp2.mem.evo.output.trans ?_, Nat.le_trans hq.mem.evo.size hsize, fun b h1 h2 => ?_⟩
      · rcases hb.1 with h3 | ⟨h3 | h3, h4⟩
        · have h3' : Stab Z (ptab q.rt) H w b := hS2 b h3
          rcases h3'.1 with h5 | ⟨h5, h6⟩
          · exact .inl h5
          · exact .inr ⟨h5, by omega⟩
        · exact .inr ⟨hB2 b h3, h4⟩
        · have h3' : W1.heap.size ≤ b := by rw [← hz2w]; exact h3
          have := hq.mem.evo.size
          exact .inr ⟨.inr (by omega), h4⟩
      · rcases hp2.mem.base b hb with h3 | h3
        · exact hB2 b h3
        · have h3' : W1.heap.size ≤ b := by rw [← hz2w]; exact h3
          have := hq.mem.evo.size
          exact .inr (by omega)
      · show Z2.w.os = _
        rw [hz2w, ← hW1]; exact hq.mem.evo.os
      · show Z2.w.tape = _
        rw [hz2w, ← hW1]; exact hq.mem.evo.tape
      · show Z2.w.output = _
        rw [hz2w, ← hW1]; exact hq.mem.evo.output
      · have hs := hq.mem.evo.size
        have h5 := hp2.mem.evo.block b (by show b < Z2.w.heap.size; rw [hz2w]; omega) fun hB => by
          rcases hB2 b hB with h6 | h6
          · exact h2 h6
          · omega
        rw [h5]
        show Z2.w.heap[b]? = _
        rw [hz2w, hold b (by omega)]
        exact hq.mem.evo.block b h1 h2
  refine ⟨w.heap.size + 1, [{ target := .collected w.heap.size, args := #[] }], W1, { target := .fn (.func D.f) #[cap], args := #[.func (.yield (w.heap.size + 1)) #[] #[]] }, W1, D.f,
    #[.func (.yield (w.heap.size + 1)) #[] #[]] ++ #[cap], W1, ?_, ?_, fun _ _ => trivial, ?_, fun h => by simp [Fence.wide] at h, ?_⟩
  · rw [← hW1, hrec]; exact run_enterLoop_outer _ _ _ _ _
  · have : a.eval (.tmp D.g) = .func (.func D.f) #[] #[cap] := hg
    simp only [resolve, this]
    simp [go_sem]
  · have : (callFunc D.f (#[.func (.yield (w.heap.size + 1)) #[] #[]] ++ #[cap])).run P W1 = .ok (.enter D.f (#[.func (.yield (w.heap.size + 1)) #[] #[]] ++ #[cap])) W1 := by
      simp only [callFunc, Sem.run_bind, run_program, Result.andThen_ok, hf, hname, hb, Option.isNone_some]
      rfl
    simpa [invoke] using this
  rw [← ha']
  obtain ⟨Rp, hRp⟩ : ∃ Rp, Rp = rangePost Fence.wide 0 P (w.heap.size + 1) Q a' := ⟨_, rfl⟩
  rw [← hRp]
  refine callsIn_of_wp hf hb trivial ?_ rfl
  rw [hn19]
  -- how the function ends
  have goesOut : ∀ {x : Ex} {q' : Pk} {H' : Gh} {w4 : World} (pe : Option Code) (st : LoopState), st ≠ .busy → (x = .normal ∧ pe = none ∨ x ≠ .normal ∧ pe = some (codeOf x)) → k x (mkEnv D.n (D.g :: D.ss) q') = some r → PkOk Z1 q' vs w4 H' → w4.heap[w.heap.size + 1]? = some (.loop (rec st pe)) → ∀ v, Rp (.returned v) w4 := fun {x q' H' w4} pe st hst hpe hk hp hl v => by
    rw [hRp]
    have hend := run_endLoop (P := P) hl (by rw [hrec]; exact hst)
    have hp2 := hp.put hl rfl (.inl hZl) (.loop { rec st pe with state := .exhausted })
    have hend : (Instr.endLoop (w.heap.size + 1)).run P w4 = .ok pe (w4.putObj (w.heap.size + 1) (.loop { rec st pe with state := .exhausted })) := by
      rw [hrec] at hend ⊢
      exact hend
    refine ⟨_, _, hend, ?_⟩
    have hafter := after hk hp2
    rcases hpe with ⟨rfl, rfl⟩ | ⟨hx, rfl⟩
    · exact hafter
    · cases x with
      | normal => exact absurd rfl hx
      | ret => exact wpIn_ret hafter
      | exit j => exact wpIn_exit hafter
  have hC : OkC P (fun _ _ => none) := fun f p q h => by cases h
  have key : ∀ (nf : Nat) (q : Pk) (i : Int) (W : World) (H : Gh) (b : Act), lp nf R q i (fun x q' => k x (mkEnv D.n (D.g :: D.ss) q')) = some r → PkOk Z1 q vs W H → W.heap[w.heap.size + 1]? = some (.loop (rec .ready none)) →
      b.tmps.size = 19 → b.defers = [] → b.tmps.getD 0 undef = .func (.yield (w.heap.size + 1)) #[] #[] → b.tmps.getD 1 undef = cap → b.tmps.getD 3 undef = .int .i64 i →
      Code.roundsIn Fence.wide 0 P (bwBody ts te ti tb ty) (Exit.inBlock 0 (bodyPost P fb Rp)) nf b W := by
    intro nf
    induction nf with
    | zero => intro q i W H b he; rw [h.zero] at he; cases he
    | succ nf ih =>
      intro q i W H b he hq hl b19 bd b0 b1 b3
      rw [h.succ] at he
      split at he
      case h_2 => cases he
      unfold RangeD.step at he
      split at he
      · cases he
      rename_i xs hxs
      obtain ⟨m, tg, cap', hg', hcap', hbox'⟩ := capIn hq hxs
      have hce : cap' = cap := by rw [hg] at hg'; simpa using hg'.symm
      subst hce
      have rl := bw_rel hq hZv hZd b19 bd (by rw [b1]; exact hcap') (v3 := .one (.int .i64 i)) b3
      rw [roundsIn_succ]
      refine wpIn_seq (wpIn_seq (wpIn_region ?_))
      refine bw_r1 hT hC sig (x := i) rl.reb rfl rfl fun a1 w1 G1 e1 k1 t1 g3 g8 r1 => ?_
      have hl1 := rl.keeps r1 hl (by rfl)
      have p1 : PkOk Z1 q vs w1 G1 := rel_pk (r1.back rl.mem) t1.rt t1.ag hZv
      have hc8 : a1.eval (.tmp 8) = .bool (decide (i ≥ 0)) := by
        have := r1.get 8
        rw [g8] at this
        exact this
      have a1d : a1.defers = [] := by rw [r1.df]; exact hZd
      by_cases hi : i ≥ 0
      · rw [decide_eq_true hi, cond_true] at he
        rw [decide_eq_true hi] at hc8
        cases hlt : decide (i < (xs.length : Int)) with
        | false => rw [hlt] at he; cases he
        | true =>
        rw [hlt, cond_true] at he
        have hlt := of_decide_eq_true hlt
        refine wpIn_cond_true hc8 (wpIn_skip ?_)
        refine wpIn_seq (wpIn_block (wpIn_seq (wpIn_region ?_)))
        have r1' := r1.back rl.mem
        refine bw_r3 sig (xs := xs) (tg := tg) (x := i) hB hT hC r1'.reb (by rw [t1.len]; rfl) (t1.g1.trans rfl) (by rw [t1.rt]; exact hbox') g3 hi hlt (l := w.heap.size + 1) (by rw [k1.t0]; exact b0)
          (KY := fun b w'' => match b with
            | true => ∃ q' H', lp nf R q' (IntKind.wrap .i64 (i - 1)) (fun x q' => k x (mkEnv D.n (D.g :: D.ss) q')) = some r ∧ PkOk Z1 q' vs w'' H' ∧ w''.heap[w.heap.size + 1]? = some (.loop (rec .ready none))
            | false => ∃ x q' H', x ≠ .normal ∧ k x (mkEnv D.n (D.g :: D.ss) q') = some r ∧ PkOk Z1 q' vs w'' H' ∧ w''.heap[w.heap.size + 1]? = some (.loop (rec .done (some (codeOf x)))))
          (fun w2 G2 e2 xv a2 t2 r2 hx => ?_) (fun a2 w2 y k2 hd2 h3 h18 hKY => ?_)
        · have r2' := r2.back r1'.mem
          have hl2 := r1'.keeps r2 hl1 (by rfl)
          have hrt : e2.rt = ptab q.rt := t2.rt.trans t1.rt
          have p2 : PkOk Z1 q vs w2 G2 := rel_pk r2' hrt (t2.ag.trans t1.ag) hZv
          have hx' : AVRel (AtomRel w2 (Stab Z1 (ptab q.rt) G2 w2) (ptab q.rt) G2) (shaped D.ag (cellsOf D.el (xs.getD (Int.toNat i) D.el.dflt) 0 D.el.size)) xv := by
            rw [← hrt]
            exact AVRel.mono (fun _ _ => AtomRel.sameC (.refl _) (reb_bw r1'.mem r2.mem).1) hx
          have := round_ok hm hT (hKn nf) (hKo nf) (R := R) (hLa nf) (hLc nf) ga gc ra rc (sig := sig) he (a := a) (vs0 := Z.vs) (by rw [← hvs]; exact p2) hsz (hZv.trans hvs) hZd (fn := fn) (df := w.heap.size) (by rw [hl2, hrec]) hZl hx' (n := 0 - 1)
          rw [← hrec, hZv] at this
          obtain ⟨tm, h1, h2⟩ := this
          exact ⟨fn, tm, asg, c, h1, h2⟩
        · have c18 : a2.eval (.tmp 18) = .bool (!y) := h18
          have a2d : a2.defers = [] := hd2.trans a1d
          cases y with
          | true =>
            obtain ⟨q', H', hk1, hp1, hl2⟩ := hKY
            refine wpIn_cond_false c18 (wpIn_skip ?_)
            refine wpIn_region ?_
            -- the slots behind the round
            have hcap2 : ∃ m', BoxRel (ptab q'.rt) H' m' 0 cap' ∨ True := ⟨(0, 0), .inr trivial⟩
            have rel2 : Rel Z1 ⟨((List.replicate 19 (.one .dead))).set 3 (.one (.int .i64 i)), ptab q'.rt, q'.args⟩ a2 w2 H' := by
              refine ⟨by rw [a2d, hZd], ?_, hp1.mem, by rw [hZv]; exact hp1.args⟩
              have a2s : a2.tmps.size = 19 := k2.size.trans (k1.size.trans b19)
              refine All2.getElem (by simp [a2s]) fun j x y hx hy => ?_
              by_cases e3 : j = 3
              · subst e3
                simp at hx
                have : a2.tmps.getD 3 undef = y := by
                  have : a2.tmps[3]? = some y := by simpa using hy
                  simp [Array.getD_eq_getD_getElem?, this]
                rw [← hx, ← this]
                exact h3
              · rw [List.getElem?_set_ne (Ne.symm e3), List.getElem?_replicate] at hx
                split at hx
                · cases hx; trivial
                · cases hx
            refine bw_r2 hT hC sig (x := i) rel2.reb rfl rfl fun a3 w3 G3 e3 k3 t3 g3' r3 => ?_
            have hl3 := rel2.keeps r3 hl2 (by rfl)
            have p3 : PkOk Z1 q' vs w3 G3 := rel_pk (r3.back rel2.mem) t3.rt t3.ag hZv
            have x3 : a3.tmps.getD 3 undef = .int .i64 (IntKind.wrap .i64 (i - 1)) := by
              have := r3.get 3
              rw [g3'] at this
              exact this
            exact ih q' _ w3 G3 a3 hk1 p3 hl3 (k3.size.trans (k2.size.trans (k1.size.trans b19))) (by rw [r3.df]; exact hZd) (k3.t0.trans (k2.t0.trans (k1.t0.trans b0))) (k3.t1.trans (k2.t1.trans (k1.t1.trans b1))) x3
          | false =>
            obtain ⟨x, q', H', hx, hk1, hp1, hl2⟩ := hKY
            refine wpIn_cond_true c18 (wpIn_ret ?_)
            exact ⟨a2d, _, results_none hres _ _ _, goesOut _ _ (by simp) (.inr ⟨hx, rfl⟩) hk1 hp1 hl2 _⟩
      · rw [decide_eq_false hi, cond_false] at he
        rw [decide_eq_false hi] at hc8
        refine wpIn_cond_false hc8 (wpIn_exit ?_)
        unfold RangeD.leave at he
        split at he
        case h_2 => cases he
        rename_i sho _
        rw [Pg.runK_eq ((hKn nf).eq R)] at he
        obtain ⟨⟨q2, s2⟩, h1, h2⟩ := Option.bind_eq_some_iff.1 he
        have r4 : Rel Z1 ⟨[], ptab q.rt, q.args⟩ ⟨#[], []⟩ w1 G1 := ⟨hZd.symm, trivial, p1.mem, by rw [hZv]; exact p1.args⟩
        obtain ⟨H2, hp2⟩ := head_pk r4 h1
        rw [List.map_nil, List.nil_append, hZv] at hp2
        show bodyPost P fb Rp .normal a1 w1
        exact ⟨a1d, _, results_none hres _ _ _, goesOut _ _ (by simp) (.inl ⟨rfl, rfl⟩) h2 hp2 hl1 _⟩
  -- the closure's start
  obtain ⟨b, hbdef⟩ : ∃ b : Act, b = { tmps := (#[.func (.yield (w.heap.size + 1)) #[] #[]] ++ #[cap]) ++ Array.replicate (19 - (#[Value.func (.yield (w.heap.size + 1)) #[] #[]] ++ #[cap]).size) undef, defers := [] } := ⟨_, rfl⟩
  rw [← hbdef]
  have hbs : b.tmps.size = 19 := by rw [hbdef]; simp
  have hb0 : b.tmps.getD 0 undef = .func (.yield (w.heap.size + 1)) #[] #[] := by rw [hbdef]; simp [Array.getD_eq_getD_getElem?]
  have hb1 : b.tmps.getD 1 undef = cap := by rw [hbdef]; simp [Array.getD_eq_getD_getElem?]
  have rl := bw_rel (v3 := .one .dead) q1 hZv hZd hbs (by rw [hbdef]) (by rw [hb1]; exact hcap) trivial
  refine wpIn_seq (wpIn_region ?_)
  refine bw_r0 hT hC sig hB rl.reb rfl rfl hbox fun a1 w1 G1 e1 k1 t1 g3 r1 => ?_
  have x3 : a1.tmps.getD 3 undef = .int .i64 (IntKind.wrap .i64 ((xs.length : Int) - 1)) := by
    have := r1.get 3
    rw [g3] at this
    exact this
  exact wpIn_block (wpIn_loop_rounds n (key n q _ w1 G1 a1 he (rel_pk (r1.back rl.mem) t1.rt t1.ag hZv) (rl.keeps r1 hL1 (by rfl)) (k1.size.trans hbs) (by rw [r1.df]; exact hZd) (k1.t0.trans hb0) (k1.t1.trans hb1) x3))
end
end Go.Am
namespace Go.Am
open Go
/-- The assignment of a range, by the first region of its body. -/
def rangeAsg (i : Nat) : Code → Option Code
  | .seq a b => match rangeAsg i a with
    | some c => some c
    | none => rangeAsg i b
  | .cond _ a b => match rangeAsg i a with
    | some c => some c
    | none => rangeAsg i b
  | .block _ c => rangeAsg i c
  | .rangeFunc _ _ a c => match firstRegion c with
    | some j => bif Nat.beq i j then some a else none
    | none => none
  | _ => none
def asgIn (i : Nat) (c : Code) : Code := match rangeAsg i c with
  | some d => d
  | none => .skip
end Go.Am
set_option linter.unusedVariables false
set_option linter.unusedSimpArgs false
namespace Go.Am
open Go

/-! ### internal/bytealg.IndexByteString, for which the model stands in -/
@[reducible] def idxS : PkS := ⟨[.one (.str), .one (.int .u8)], []⟩
@[reducible] def idxT : PkS := ⟨[.one (.int .i64), .one (.dead), .one (.dead)], []⟩
def idxK : KPs := fun R p k => match (PkS.un idxS p : Option (ByteArray × Int × Unit)) with
  | some (s, c, _) => k (PkS.pack idxT (Lib.indexByte s.data.toList c.toNat.toUInt8, ()))
  | none => none
section
variable {P : Program}
theorem idx_ok {f : FuncId} {fn : Func} (hf : P.funcs[f]? = some fn) (hn : (fn.name == "runtime.NumGoroutine") = false) (hb : fn.body.isNone = true) (hx : Extern.findNext fn = none) (he : Extern.find fn = some Extern.BytealgIndexByte.indexByte) : FnOk P f idxK where
  nat R S' g p k := by
    unfold idxK
    split <;> rfl
  ok p q hq Z vals H hv hp := by
    unfold idxK at hq
    split at hq
    case h_2 => cases hq
    rename_i s c u hu
    have hpk := PkS.un_pack hu
    subst hpk
    have hq' := Option.some.inj hq
    subst hq'
    have ha : All2 (AVRel (AtomRel Z.w (Stab Z (ptab []) H Z.w) (ptab []) H)) [.one (.str s), .one (.int .u8 c)] vals.toList := hp.args
    obtain ⟨u0, u1, hvals⟩ : ∃ u0 u1, vals = #[u0, u1] := by
      have := ha.length
      simp only [List.length_cons, List.length_nil, Array.length_toList] at this
      exact ⟨vals[0], vals[1], by apply Array.ext <;> simp [← this] ; intro i hi1 hi2; match i, hi2 with | 0, _ => rfl | 1, _ => rfl⟩
    subst hvals
    have e0 : u0 = .string s := ha.1
    have e1 : u1 = .int .u8 c := ha.2.1
    intro o a next Q hnext
    rw [run_callFunc_extern hf hn hb hx he, e0, e1, Lib.run_indexByteString]
    simp only [Result.andThen]
    rw [Oper.upon_value]
    exact hnext _ _ ⟨H, ⟨rfl, trivial, trivial, trivial⟩, hp.mem⟩
end
end Go.Am
