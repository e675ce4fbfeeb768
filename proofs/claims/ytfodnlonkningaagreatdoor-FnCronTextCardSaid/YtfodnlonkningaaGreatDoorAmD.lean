/- strings.Trim at a set of ASCII bytes, by its contract on the shelf. -/
import Derived.Test.YtfodnlonkningaaGreatDoorAmC
import Derived.Shelf.Strings.SlTrimAscii
set_option linter.unusedVariables false
set_option linter.unusedSimpArgs false
namespace Go.Am
open Go

/-! ### strings.Trim at a set of ASCII bytes, by its contract on the shelf -/
@[reducible] def trimI : PkS := ⟨[.one (.str), .one (.str)], []⟩
@[reducible] def trimT : PkS := ⟨[.one (.str), .one (.dead), .one (.dead)], []⟩
def trimK : KPs := fun R p k => match (PkS.un trimI p : Option (ByteArray × ByteArray × Unit)) with
  | some (s, c, _) => (bif decide (s.size ≤ 9223372036854775807) then (bif decide (c.size < 4294967281) then (bif c.data.toList.all (fun b => decide (b.toNat < 128)) then k (PkS.pack trimT (⟨(Lib.trimS s.data.toList c.data.toList).toArray⟩, ())) else none) else none) else none)
  | none => none
section
variable {P : Program}
theorem trim_ok {ρ : Shelf.Ren} (L : Proofs.Lays.n160 P ρ) (h116 : (P.info? (ρ.t 116)).map (fun i => (i.zero, i.size)) = some (some (.agg (Array.replicate 256 (.bool false))), 256)) {f : Nat} (hρ : ρ.f 160 = f) {fn : Func} {c : Code} (hf : P.funcs[f]? = some fn) (hb : fn.body = some c) (hn : (fn.name == "runtime.NumGoroutine") = false) : FnOk P f trimK where
  nat R S' g p k := by
    unfold trimK
    split
    · rename_i s c _ _
      cases decide (s.size ≤ 9223372036854775807)
      · rfl
      · cases decide (c.size < 4294967281)
        · rfl
        · cases c.data.toList.all (fun b => decide (b.toNat < 128)) <;> rfl
    · rfl
  ok p q hq Z vals H hv hp := by
    unfold trimK at hq
    split at hq
    case h_2 => cases hq
    rename_i s cs u hu
    have hpk := PkS.un_pack hu
    subst hpk
    cases h1 : decide (s.size ≤ 9223372036854775807) with
    | false => rw [h1] at hq; cases hq
    | true =>
    cases h2 : decide (cs.size < 4294967281) with
    | false => rw [h1, h2] at hq; cases hq
    | true =>
    cases h3 : cs.data.toList.all (fun b => decide (b.toNat < 128)) with
    | false => rw [h1, h2, h3] at hq; cases hq
    | true =>
    rw [h1, h2, h3] at hq
    have hq' := Option.some.inj hq
    subst hq'
    have ha : All2 (AVRel (AtomRel Z.w (Stab Z (ptab []) H Z.w) (ptab []) H)) [.one (.str s), .one (.str cs)] vals.toList := hp.args
    obtain ⟨u0, u1, hvals⟩ : ∃ u0 u1, vals = #[u0, u1] := by
      have := ha.length
      simp only [List.length_cons, List.length_nil, Array.length_toList] at this
      exact ⟨vals[0], vals[1], by apply Array.ext <;> simp [← this] ; intro i hi1 hi2; match i, hi2 with | 0, _ => rfl | 1, _ => rfl⟩
    subst hvals
    have e0 : u0 = .string s := ha.1
    have e1 : u1 = .string cs := ha.2.1
    refine Does.of_calls hf hb hn ?_
    rw [← hρ, e0, e1]
    have hcon := Proofs.Any.strings_Trim_laid L h116 s cs Z.w (of_decide_eq_true h1) (of_decide_eq_true h2) (Proofs.ascii_of_all h3)
    refine Calls.mono hcon fun e w' he => ?_
    obtain ⟨rfl, hB⟩ := he
    exact ⟨_, rfl, H, ⟨rfl, trivial, trivial, trivial⟩, (show Mem Z [] H w' from ⟨fun r x h => by simp [look] at h, fun r r' x x' b h => by simp [look] at h, fun b ⟨r, x, h, _⟩ => by simp [look] at h, ⟨hB.os, hB.tape, hB.output, hB.size, fun b hb' _ => hB.block b hb'⟩⟩)⟩
end
end Go.Am
