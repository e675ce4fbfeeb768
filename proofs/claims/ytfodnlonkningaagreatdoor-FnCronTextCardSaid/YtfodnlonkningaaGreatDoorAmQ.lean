/- What the row tells of package variables. -/
import Derived.Test.YtfodnlonkningaaGreatDoorAmP
import Derived.Shelf.Vars
import Derived.HandedShaped
import Derived.MakeChecks
import Derived.Stop.LaidErr
import Derived.Test.YtfodnlonkningaaGreatDoorRows
namespace Go.Am
open Go Go.Proofs Go.RowKit Go.ChangeShapes Go.WideShapes Go.Proofs.YtfodnlonkningaaGreatDoor
theorem heap_of_cell {w : World} {g : Nat} {v : Value} (h : w.cell? ⟨g, 0, none⟩ = some v) : ∃ c t fr, w.heap[g]? = some (.cells c t fr) ∧ c[0]? = some v := by
  unfold World.cell? at h
  simp only at h
  split at h
  · rename_i c t fr hh
    exact ⟨c, t, fr, hh, by simpa using h⟩
  · cases h
theorem errStar : "*" ++ "errors.errorString" = "*errors.errorString" := by decide
theorem errRow (u : TypeId) (h : Tryz.prog.typeName? 3 u = some "*errors.errorString") : u = 136 :=
  typeName_ptr_named (nm := "errors.errorString") (by rw [errStar]; kernel_rfl) (by kernel_rfl) (by decide) u (by rw [errStar]; exact h)
theorem gl_of {W : World} (hL : laidMetH Tryz.prog Rows.fnCronTextRow.laid W) (hs : W.ShapedOpen Tryz.prog) : Gl W (Old W) := by
  rw [MakeChecks.laidMetH_plain _ _ _ (by kernel_rfl)] at hL
  have hE : ∃ (a : Addr) (s : ByteArray), W.var? Tryz.prog "strconv.ErrSyntax" = some #[.iface 136 (.pointer (some a))] ∧ W.cell? a = some (.string s) ∧ s.data.toList = _ ∧ s.size ≤ maxLen :=
    laid_sentinel (hL.tail.tail.tail.tail.tail) (g := 6) (ti := 63) (te := 138) (ts := 9) (ms := match Tryz.prog.underlying 63 with | some (.interface ms) => ms | _ => #[]) (f := match Tryz.prog.underlying 138 with | some (.struct fs) => fs.getD 0 default | _ => default) (by kernel_rfl) (by kernel_rfl) (by kernel_rfl) errRow (by kernel_rfl) (by kernel_rfl) (by kernel_rfl) (by kernel_rfl) (by kernel_rfl) (by kernel_rfl) (by kernel_rfl)
  obtain ⟨ea, es, hev, _⟩ := hE
  obtain ⟨ps, hv, _⟩ := hL
  obtain ⟨_, _, _, _, _, _, _, _, _, _, hv, _⟩ := hv
  obtain ⟨_, _, _, _, _, _, _, _, _, _, hv, _⟩ := hv
  obtain ⟨g, t, cs, fuel, p, q, hg, ht, hvar, hd, _, _⟩ := hv
  obtain rfl := Option.some.inj (hg.symm.trans named0)
  have hcs : cs.toList = Lib.pow10Tab.map fun z => Value.int .u64 z := by
    have hty : (Tryz.prog.globals[0]?).map (·.type) = some 97 := by kernel_rfl
    obtain rfl := Option.some.inj (hty.symm.trans ht)
    exact Lib.cells_of_tab (n := 20) (e := 48) (k := .u64) (zs := Lib.pow10Tab) (show Tryz.prog.underlying 97 = some (.array 20 48) by kernel_rfl) (by kernel_rfl) (by kernel_rfl) (by kernel_rfl) (show _ = some (Lib.tabData .u64 Lib.pow10Tab, p) from hd)
  intro x hx
  simp only [glob, List.mem_cons, List.not_mem_nil, or_false] at hx
  rcases hx with rfl | rfl | rfl
  · obtain ⟨m, hm⟩ := Go.Proofs.cell_of_shapedOpen_int (t := 3) (zero := #[.int .i64 0]) (g := 1) (k := .i64) hs (of_decide_eq_true (by kernel_rfl)) (by kernel_rfl) (by kernel_rfl) (by kernel_rfl) (by kernel_rfl) (by kernel_rfl)
    obtain ⟨c, t, fr, h1, h2⟩ := heap_of_cell hm
    exact ⟨(Array.getElem?_eq_some_iff.1 h1).1, c, t, fr, h1, m, h2⟩
  · unfold World.var? at hvar
    rw [named0] at hvar
    simp only [Option.bind_some] at hvar
    revert hvar
    cases h1 : W.heap[0]? with
    | none => intro h; cases h
    | some o =>
      cases o with
      | cells c t fr =>
        intro h
        have hc : c = cs := Option.some.inj h
        subst hc
        exact ⟨(Array.getElem?_eq_some_iff.1 h1).1, c, t, fr, rfl, by show c = _; rw [← Array.toList_inj, hcs]; rfl⟩
      | _ => intro h; cases h
  · unfold World.var? at hev
    rw [show Tryz.prog.globalNamed "strconv.ErrSyntax" = some 6 by kernel_rfl] at hev
    simp only [Option.bind_some] at hev
    revert hev
    cases h1 : W.heap[6]? with
    | none => intro h; cases h
    | some o =>
      cases o with
      | cells c t fr =>
        intro h
        have hc : c = _ := Option.some.inj h
        exact ⟨(Array.getElem?_eq_some_iff.1 h1).1, c, t, fr, rfl, .iface 136 (.pointer (some ea)), by rw [hc]; rfl, .inr ⟨_, _, rfl⟩⟩
      | _ => intro h; cases h
/-- The plain wrap, the listed variables and the world's shape kept. -/
theorem change_and_shaped {H : Type} {enc : TypeId × Value → H} {a : Assume} {C : Checked} {os : Os} {f : FuncId} {fn : Func} {s : ChangeSpec} {conds : List PathCond} {apart fresh handsOn again : Bool} {X : World → Array Value → Prop}
    (hX : ∀ (w w' : World) (args : Array Value), w.heap = w'.heap → X w args → X w' args)
    (own : ownKnob C.prog.godebug = none) (started : os.Started) (noInit : C.prog.inits.idxOf? f = none) (hfn : C.prog.funcs[f]? = some fn)
    (witness : ∃ (w : World) (tape : Tape) (i : Input), w.os = os ∧ (w.forCall tape i).Shaped C.prog ∧ i.vars = [] ∧ Input.okWide C.prog (w.forCall tape i) .any w.heap.size f i ∧
      ((s.pre enc C.prog fn conds apart (w.forCall tape i).memory i.args ∧ X (w.forCall tape i).memory i.args) ∧ sizedMet enc C.prog fn (OpenSpec.ofChange s) apart (w.forCall tape i).memory i.args) ∧ a.holds C.prog (lone (Frame.enter C.prog f i.args .normal) [] (w.forCall tape i)))
    (contract : ∀ (W : World) (base : Nat) (args : Array Value) (ds gs : List (DataW H)) (before : List MemPlace),
      (∀ (j : Nat) t v, fn.params[j]? = some t → args[j]? = some v → Value.okWide C.prog W .any base t v) →
      DataW.Whole enc C.prog fn.params.toList s.vars apart W args.toList ds gs before →
      conds.all (PathCond.test C.prog ⟨fn.params.toList, ds, s.plain.varTypes C.prog, gs⟩) = true →
      (DataW.weightsEach C.prog (fn.params.toList ++ s.plain.varTypes C.prog) (ds ++ gs)).all (· ≤ reachBytes) = true → X W args →
      W.ShapedOpen C.prog →
      a.holds C.prog (lone (Frame.enter C.prog f args .normal) [] W) →
      Calls C.prog f args W fun e W' => ∃ v, e = .returned v ∧ s.post enc C.prog fn apart fresh handsOn again W args v W') :
    ReturnsInHanded a C os f .any (fun w args => (s.pre enc C.prog fn conds apart w args ∧ X w args) ∧ sizedMet enc C.prog fn (OpenSpec.ofChange s) apart w args) (s.post enc C.prog fn apart fresh handsOn again) := by
  refine returnsInHanded_of_calls own started noInit witness ?_
  intro w tape i _ hsh _ hok hpre hholds
  obtain ⟨_, _, _, fn', hfn', _, _, _, _, hval⟩ := hok
  have e : fn' = fn := Option.some.inj (hfn'.symm.trans hfn)
  subst e
  obtain ⟨⟨⟨ds, gs, before, hw, hc⟩, hx⟩, hz⟩ := hpre
  have hw' := DataW.Whole.of_heap (w' := w.forCall tape i) (by rfl) hw
  refine (contract (w.forCall tape i) w.heap.size i.args ds gs before hval hw' hc (hz.weights hw) (hX _ _ _ (by rfl) hx) hsh hholds).mono fun e W' ⟨v, he, hp⟩ => ?_
  subst he
  exact ChangeSpec.post_blind hp
end Go.Am
