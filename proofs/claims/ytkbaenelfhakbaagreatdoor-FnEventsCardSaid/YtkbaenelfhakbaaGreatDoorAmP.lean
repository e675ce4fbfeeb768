/- How the shelf's contracts lie at the seat's program; a text read as a number. -/
import Derived.Test.YtkbaenelfhakbaaGreatDoorAmO
import Derived.WalkKit
import Derived.Lib.Hide
import Derived.Lib.SmallJoins
import Derived.Test.YtkbaenelfhakbaaGreatDoorChecked
set_option linter.unusedVariables false
set_option linter.unusedSimpArgs false
namespace Go.Am
open Go Go.Proofs
def renItoa : Go.Shelf.Ren := ⟨fun n => match n with
  | 171 => 32
  | 243 => 47
  | 246 => 62
  | 283 => 77
  | 284 => 78
  | 285 => 79
  | 286 => 80
  | 129 => 92
  | 317 => 91
  | 318 => 93
  | 319 => 94
  | 320 => 95
  | 337 => 102
  | 338 => 103
  | n => n, fun n => match n with
  | 3 => 3
  | 9 => 9
  | 2 => 2
  | 4 => 4
  | 171 => 101
  | 0 => 0
  | 53 => 48
  | 37 => 22
  | 5 => 5
  | 173 => 104
  | 212 => 113
  | 51 => 114
  | 20 => 20
  | 213 => 115
  | 46 => 69
  | 232 => 129
  | 233 => 130
  | n => n, fun n => match n with
  | 17 => 3
  | 18 => 6
  | 19 => 7
  | n => n⟩
theorem laysItoa : Go.Proofs.LaysM.n171 Tryz.prog renItoa where
  mixed := by kernel_rfl
  f129 := by kernel_rfl
  f171 := by kernel_rfl
  f243 := by kernel_rfl
  f246 := by kernel_rfl
  f283 := by kernel_rfl
  f284 := by kernel_rfl
  f285 := by kernel_rfl
  f286 := by kernel_rfl
  f317 := by kernel_rfl
  f318 := by kernel_rfl
  f319 := by kernel_rfl
  f320 := by kernel_rfl
  f337 := by kernel_rfl
  f338 := by kernel_rfl
  t0 := by kernel_rfl
  a0 w := by kernel_rfl
  z0 w := by kernel_rfl
  v0 w := by kernel_rfl
  t2 := by kernel_rfl
  a2 w := by kernel_rfl
  z2 w := by kernel_rfl
  v2 w := by kernel_rfl
  t3 := by kernel_rfl
  a3 w := by kernel_rfl
  z3 w := by kernel_rfl
  v3 w := by kernel_rfl
  t4 := by kernel_rfl
  a4 w := by kernel_rfl
  z4 w := by kernel_rfl
  v4 w := by kernel_rfl
  t5 := by kernel_rfl
  a5 w := by kernel_rfl
  z5 w := by kernel_rfl
  v5 w := by kernel_rfl
  t9 := by kernel_rfl
  a9 w := by kernel_rfl
  z9 w := by kernel_rfl
  v9 w := by kernel_rfl
  t20 := by kernel_rfl
  a20 w := by kernel_rfl
  z20 w := by kernel_rfl
  v20 w := by kernel_rfl
  t37 := by kernel_rfl
  a37 w := by kernel_rfl
  z37 w := by kernel_rfl
  v37 w := by kernel_rfl
  t46 := by kernel_rfl
  a46 w := by kernel_rfl
  z46 w := by kernel_rfl
  v46 w := by kernel_rfl
  t51 := by kernel_rfl
  a51 w := by kernel_rfl
  z51 w := by kernel_rfl
  v51 w := by kernel_rfl
  t53 := by kernel_rfl
  a53 w := by kernel_rfl
  z53 w := by kernel_rfl
  v53 w := by kernel_rfl
  t171 := by kernel_rfl
  a171 w := by kernel_rfl
  z171 w := by kernel_rfl
  v171 w := by kernel_rfl
  t173 := by kernel_rfl
  a173 w := by kernel_rfl
  z173 w := by kernel_rfl
  v173 w := by kernel_rfl
  t212 := by kernel_rfl
  a212 w := by kernel_rfl
  z212 w := by kernel_rfl
  v212 w := by kernel_rfl
  t213 := by kernel_rfl
  a213 w := by kernel_rfl
  z213 w := by kernel_rfl
  t232 := by kernel_rfl
  a232 w := by kernel_rfl
  z232 w := by kernel_rfl
  v232 w := by kernel_rfl
  t233 := by kernel_rfl
  a233 w := by kernel_rfl
  z233 w := by kernel_rfl
  v233 w := by kernel_rfl
  g17 := by kernel_rfl
  g18 := by kernel_rfl
  g19 := by kernel_rfl
  i0 := by kernel_rfl
  i2 := by kernel_rfl
  i3 := by kernel_rfl
  i4 := by kernel_rfl
  i5 := by kernel_rfl
  i9 := by kernel_rfl
  i20 := by kernel_rfl
  i37 := by kernel_rfl
  i46 := by kernel_rfl
  i51 := by kernel_rfl
  i53 := by kernel_rfl
  i171 := by kernel_rfl
  i173 := by kernel_rfl
  i212 := by kernel_rfl
  i232 := by kernel_rfl
  i233 := by kernel_rfl
  m17 := by kernel_rfl
  m18 := by kernel_rfl
  m19 := by kernel_rfl
def renAtoi : Go.Shelf.Ren := ⟨fun n => match n with
  | 172 => 38
  | 244 => 58
  | 245 => 59
  | 247 => 70
  | 279 => 71
  | 280 => 72
  | 281 => 73
  | 282 => 74
  | 287 => 88
  | 316 => 89
  | 171 => 32
  | 205 => 90
  | 321 => 100
  | 322 => 101
  | 243 => 47
  | 246 => 62
  | 283 => 77
  | 284 => 78
  | 285 => 79
  | 286 => 80
  | 129 => 92
  | 317 => 91
  | 318 => 93
  | 319 => 94
  | 320 => 95
  | 337 => 102
  | 338 => 103
  | n => n, fun n => match n with
  | 9 => 9
  | 3 => 3
  | 75 => 61
  | 76 => 62
  | 4 => 4
  | 5 => 5
  | 167 => 92
  | 37 => 22
  | 0 => 0
  | 85 => 93
  | 2 => 2
  | 168 => 95
  | 53 => 48
  | 175 => 107
  | 46 => 69
  | 210 => 110
  | 127 => 85
  | 145 => 127
  | 143 => 125
  | 21 => 21
  | 171 => 101
  | 173 => 104
  | 212 => 113
  | 51 => 114
  | 20 => 20
  | 213 => 115
  | 232 => 129
  | 233 => 130
  | 80 => 74
  | n => n, fun n => match n with
  | 15 => 1
  | 16 => 2
  | 17 => 3
  | 18 => 6
  | 19 => 7
  | n => n⟩
theorem laysAtoi : Go.Proofs.Lays.n172 Tryz.prog renAtoi where
  mixed := by kernel_rfl
  f129 := by kernel_rfl
  f171 := by kernel_rfl
  f172 := by kernel_rfl
  f205 := by kernel_rfl
  f243 := by kernel_rfl
  f244 := by kernel_rfl
  f245 := by kernel_rfl
  f246 := by kernel_rfl
  f247 := by kernel_rfl
  f279 := by kernel_rfl
  f280 := by kernel_rfl
  f281 := by kernel_rfl
  f282 := by kernel_rfl
  f283 := by kernel_rfl
  f284 := by kernel_rfl
  f285 := by kernel_rfl
  f286 := by kernel_rfl
  f287 := by kernel_rfl
  f316 := by kernel_rfl
  f317 := by kernel_rfl
  f318 := by kernel_rfl
  f319 := by kernel_rfl
  f320 := by kernel_rfl
  f321 := by kernel_rfl
  f322 := by kernel_rfl
  f337 := by kernel_rfl
  f338 := by kernel_rfl
  t0 := by kernel_rfl
  a0 w := by kernel_rfl
  z0 w := by kernel_rfl
  v0 w := by kernel_rfl
  t2 := by kernel_rfl
  a2 w := by kernel_rfl
  z2 w := by kernel_rfl
  v2 w := by kernel_rfl
  t3 := by kernel_rfl
  a3 w := by kernel_rfl
  z3 w := by kernel_rfl
  v3 w := by kernel_rfl
  t4 := by kernel_rfl
  a4 w := by kernel_rfl
  z4 w := by kernel_rfl
  v4 w := by kernel_rfl
  t5 := by kernel_rfl
  a5 w := by kernel_rfl
  z5 w := by kernel_rfl
  v5 w := by kernel_rfl
  t9 := by kernel_rfl
  a9 w := by kernel_rfl
  z9 w := by kernel_rfl
  v9 w := by kernel_rfl
  t20 := by kernel_rfl
  a20 w := by kernel_rfl
  z20 w := by kernel_rfl
  v20 w := by kernel_rfl
  t21 := by kernel_rfl
  a21 w := by kernel_rfl
  z21 w := by kernel_rfl
  v21 w := by kernel_rfl
  t37 := by kernel_rfl
  a37 w := by kernel_rfl
  z37 w := by kernel_rfl
  v37 w := by kernel_rfl
  t46 := by kernel_rfl
  a46 w := by kernel_rfl
  z46 w := by kernel_rfl
  v46 w := by kernel_rfl
  t51 := by kernel_rfl
  a51 w := by kernel_rfl
  z51 w := by kernel_rfl
  v51 w := by kernel_rfl
  t53 := by kernel_rfl
  a53 w := by kernel_rfl
  z53 w := by kernel_rfl
  v53 w := by kernel_rfl
  t75 := by kernel_rfl
  a75 w := by kernel_rfl
  z75 w := by kernel_rfl
  v75 w := by kernel_rfl
  t76 := by kernel_rfl
  a76 w := by kernel_rfl
  z76 w := by kernel_rfl
  v76 w := by kernel_rfl
  t85 := by kernel_rfl
  a85 w := by kernel_rfl
  z85 w := by kernel_rfl
  v85 w := by kernel_rfl
  t127 := by kernel_rfl
  a127 w := by kernel_rfl
  z127 w := by kernel_rfl
  v127 w := by kernel_rfl
  t143 := by kernel_rfl
  a143 w := by kernel_rfl
  z143 w := by kernel_rfl
  v143 w := by kernel_rfl
  t145 := by kernel_rfl
  a145 w := by kernel_rfl
  z145 w := by kernel_rfl
  v145 w := by kernel_rfl
  t167 := by kernel_rfl
  a167 w := by kernel_rfl
  z167 w := by kernel_rfl
  v167 w := by kernel_rfl
  t168 := by kernel_rfl
  a168 w := by kernel_rfl
  z168 w := by kernel_rfl
  v168 w := by kernel_rfl
  t171 := by kernel_rfl
  a171 w := by kernel_rfl
  z171 w := by kernel_rfl
  v171 w := by kernel_rfl
  t173 := by kernel_rfl
  a173 w := by kernel_rfl
  z173 w := by kernel_rfl
  v173 w := by kernel_rfl
  t175 := by kernel_rfl
  a175 w := by kernel_rfl
  z175 w := by kernel_rfl
  v175 w := by kernel_rfl
  t210 := by kernel_rfl
  a210 w := by kernel_rfl
  z210 w := by kernel_rfl
  v210 w := by kernel_rfl
  t212 := by kernel_rfl
  a212 w := by kernel_rfl
  z212 w := by kernel_rfl
  v212 w := by kernel_rfl
  t213 := by kernel_rfl
  a213 w := by kernel_rfl
  z213 w := by kernel_rfl
  t232 := by kernel_rfl
  a232 w := by kernel_rfl
  z232 w := by kernel_rfl
  v232 w := by kernel_rfl
  t233 := by kernel_rfl
  a233 w := by kernel_rfl
  z233 w := by kernel_rfl
  v233 w := by kernel_rfl
  g15 := by kernel_rfl
  g16 := by kernel_rfl
  g17 := by kernel_rfl
  g18 := by kernel_rfl
  g19 := by kernel_rfl
def renSplitN : Go.Shelf.Ren := ⟨fun n => match n with
  | 147 => 23
  | 221 => 37
  | 268 => 55
  | 138 => 56
  | 143 => 57
  | 195 => 67
  | 197 => 64
  | 218 => 68
  | 219 => 69
  | 260 => 81
  | 217 => 84
  | 225 => 85
  | 224 => 86
  | 267 => 87
  | 266 => 98
  | 314 => 99
  | n => n, fun n => match n with
  | 9 => 9
  | 3 => 3
  | 31 => 43
  | 4 => 4
  | 0 => 0
  | 105 => 88
  | 21 => 21
  | 5 => 5
  | 46 => 69
  | 119 => 117
  | 139 => 120
  | 138 => 119
  | 146 => 122
  | 51 => 114
  | n => n, fun n => match n with
  | 1 => 0
  | 3 => 4
  | 4 => 5
  | n => n⟩
theorem laysSplitN : Go.Proofs.Lays.n147 Tryz.prog renSplitN where
  mixed := by kernel_rfl
  f138 := by kernel_rfl
  f143 := by kernel_rfl
  f147 := by kernel_rfl
  f195 := by kernel_rfl
  f197 := by kernel_rfl
  f217 := by kernel_rfl
  f218 := by kernel_rfl
  f219 := by kernel_rfl
  f221 := by kernel_rfl
  f224 := by kernel_rfl
  f225 := by kernel_rfl
  f260 := by kernel_rfl
  f266 := by kernel_rfl
  f267 := by kernel_rfl
  f268 := by kernel_rfl
  f314 := by kernel_rfl
  t0 := by kernel_rfl
  a0 w := by kernel_rfl
  z0 w := by kernel_rfl
  v0 w := by kernel_rfl
  t3 := by kernel_rfl
  a3 w := by kernel_rfl
  z3 w := by kernel_rfl
  v3 w := by kernel_rfl
  t4 := by kernel_rfl
  a4 w := by kernel_rfl
  z4 w := by kernel_rfl
  v4 w := by kernel_rfl
  t5 := by kernel_rfl
  a5 w := by kernel_rfl
  z5 w := by kernel_rfl
  v5 w := by kernel_rfl
  t9 := by kernel_rfl
  a9 w := by kernel_rfl
  z9 w := by kernel_rfl
  v9 w := by kernel_rfl
  t21 := by kernel_rfl
  a21 w := by kernel_rfl
  z21 w := by kernel_rfl
  v21 w := by kernel_rfl
  t31 := by kernel_rfl
  a31 w := by kernel_rfl
  z31 w := by kernel_rfl
  v31 w := by kernel_rfl
  t46 := by kernel_rfl
  a46 w := by kernel_rfl
  z46 w := by kernel_rfl
  v46 w := by kernel_rfl
  t51 := by kernel_rfl
  a51 w := by kernel_rfl
  z51 w := by kernel_rfl
  v51 w := by kernel_rfl
  t105 := by kernel_rfl
  a105 w := by kernel_rfl
  z105 w := by kernel_rfl
  v105 w := by kernel_rfl
  t119 := by kernel_rfl
  a119 w := by kernel_rfl
  z119 w := by kernel_rfl
  t138 := by kernel_rfl
  a138 w := by kernel_rfl
  z138 w := by kernel_rfl
  v138 w := by kernel_rfl
  t139 := by kernel_rfl
  a139 w := by kernel_rfl
  z139 w := by kernel_rfl
  v139 w := by kernel_rfl
  t146 := by kernel_rfl
  a146 w := by kernel_rfl
  z146 w := by kernel_rfl
  v146 w := by kernel_rfl
  g1 := by kernel_rfl
  g3 := by kernel_rfl
  g4 := by kernel_rfl
def renJoin : Go.Shelf.Ren := ⟨fun n => match n with
  | 156 => 31
  | 165 => 44
  | 166 => 45
  | 169 => 46
  | 240 => 60
  | 241 => 61
  | 276 => 75
  | 277 => 76
  | n => n, fun n => match n with
  | 31 => 43
  | 9 => 9
  | 3 => 3
  | 4 => 4
  | 0 => 0
  | 20 => 20
  | 72 => 72
  | 76 => 62
  | 70 => 70
  | 37 => 22
  | 75 => 61
  | 127 => 85
  | 164 => 98
  | 5 => 5
  | 80 => 74
  | n => n, fun n => n⟩
theorem laysJoin : Go.Proofs.Lays.n156 Tryz.prog renJoin where
  mixed := by kernel_rfl
  f156 := by kernel_rfl
  f165 := by kernel_rfl
  f166 := by kernel_rfl
  f169 := by kernel_rfl
  f240 := by kernel_rfl
  f241 := by kernel_rfl
  f276 := by kernel_rfl
  f277 := by kernel_rfl
  t0 := by kernel_rfl
  a0 w := by kernel_rfl
  z0 w := by kernel_rfl
  v0 w := by kernel_rfl
  t3 := by kernel_rfl
  a3 w := by kernel_rfl
  z3 w := by kernel_rfl
  v3 w := by kernel_rfl
  t4 := by kernel_rfl
  a4 w := by kernel_rfl
  z4 w := by kernel_rfl
  v4 w := by kernel_rfl
  t9 := by kernel_rfl
  a9 w := by kernel_rfl
  z9 w := by kernel_rfl
  v9 w := by kernel_rfl
  t20 := by kernel_rfl
  a20 w := by kernel_rfl
  z20 w := by kernel_rfl
  v20 w := by kernel_rfl
  t31 := by kernel_rfl
  a31 w := by kernel_rfl
  z31 w := by kernel_rfl
  v31 w := by kernel_rfl
  t37 := by kernel_rfl
  a37 w := by kernel_rfl
  z37 w := by kernel_rfl
  v37 w := by kernel_rfl
  t70 := by kernel_rfl
  a70 w := by kernel_rfl
  z70 w := by kernel_rfl
  v70 w := by kernel_rfl
  t72 := by kernel_rfl
  a72 w := by kernel_rfl
  z72 w := by kernel_rfl
  v72 w := by kernel_rfl
  t75 := by kernel_rfl
  a75 w := by kernel_rfl
  z75 w := by kernel_rfl
  v75 w := by kernel_rfl
  t76 := by kernel_rfl
  a76 w := by kernel_rfl
  z76 w := by kernel_rfl
  v76 w := by kernel_rfl
  t127 := by kernel_rfl
  a127 w := by kernel_rfl
  z127 w := by kernel_rfl
  v127 w := by kernel_rfl
  t164 := by kernel_rfl
  a164 w := by kernel_rfl
  z164 w := by kernel_rfl
  v164 w := by kernel_rfl
theorem extraJoin : Go.Proofs.Builder.Extra Tryz.prog renJoin where
  sizeBuilder := by kernel_rfl
  liesBuilder := by kernel_rfl
  t5 := by kernel_rfl
  a5 w := by kernel_rfl
  z5 w := by kernel_rfl
  v5 w := by kernel_rfl
  infoByte := by kernel_rfl
  cellsByte := by kernel_rfl
  sizeByte := by kernel_rfl
  neB5 := by decide
theorem named3 : Tryz.prog.globalNamed "internal/strconv.uint64pow10" = some 3 := by kernel_rfl
theorem number_walk (v : Int) (w : World) (h0 : 0 ≤ v) (h1 : v ≤ 999999999) (hs : (⟨(Lib.itoa v).toArray⟩ : ByteArray).size ≤ 9) (ha : Lib.atoi (Lib.itoa v) = some v) (htab : Lib.TabIs Tryz.prog w "internal/strconv.uint64pow10" .u64 Lib.pow10Tab) (h3 : 3 < w.heap.size) :
    Calls Tryz.prog 24 #[.string ⟨(Lib.itoa v).toArray⟩] w fun e w' => e = .returned (.tuple #[.int .i64 v, .bool true]) ∧ RowKit.Below w.heap.size w w' := by
  obtain ⟨s, hse⟩ : ∃ s : ByteArray, s = ⟨(Lib.itoa v).toArray⟩ := ⟨_, rfl⟩
  have hA := Any.strconv_Atoi laysAtoi s v (by rw [hse]; omega) (by rw [hse]; simpa using ha) w
  have hI := fun w' => Any.strconv_Itoa laysItoa v (by omega) (by omega) w'
  rw [← hse] at hs hI ⊢
  have HA := Lib.hid hA
  have HI := Lib.hid hI
  have HT := Lib.hid htab
  clear hA hI htab ha hse
  have hs' : (s.size : Int) ≤ 9 := by omega
  go_enter Tryz.func24, Tryz.ntmps24
  go_wp2_with fail
  refine HA.out.mono ?_
  rintro e w' ⟨rfl, t, rfl⟩
  have hB := Joins.below_bytesWorld w.heap.size w (renAtoi.t 5) t (Nat.le_refl _)
  have hT2 := Lib.hid (Joins.tab_stays named3 HT.out hB (Nat.le_refl _))
  have HB := Lib.hid hB
  clear hB
  generalize Lib.bytesWorld w (renAtoi.t 5) t = w1 at hT2 HB ⊢
  have hI1 := Lib.hid (HI.out w1 hT2.out)
  go_wp2_with fail
  refine hI1.out.mono ?_
  rintro e w' ⟨rfl, k, os, rfl⟩
  have hB2 := Lib.hid (HB.out.trans (Lib.below_grow w.heap.size w1 HB.out.size k os))
  clear hI1 HB hT2
  generalize Go.Sort.grow (w1.drewN k) os = w2 at hB2 ⊢
  go_wp2
  go_ret2
  exact ⟨rfl, hB2.out⟩
@[reducible] def numI : PkS := ⟨[.one (.str)], []⟩
@[reducible] def numT : PkS := ⟨[.tup [(false, [.int .i64]), (false, [.bool])], .one (.dead)], []⟩
def numC (s : ByteArray) : Option Int := if s.size ≤ 9 then (match Lib.atoi s.data.toList with
  | some v => if 0 ≤ v ∧ v ≤ 999999999 ∧ Lib.itoa v = s.data.toList then some v else none
  | none => none) else none
def numK : KPs := fun R p k => match (PkS.un numI p : Option (ByteArray × Unit)) with
  | some (s, _) => (match numC s with
    | some v => k (PkS.pack numT (v, true, ()))
    | none => none)
  | none => none
set_option maxRecDepth 100000 in
theorem number_ok {fn : Func} {c : Code} (hG : (3, isTab) ∈ glob) (hf : Tryz.prog.funcs[24]? = some fn) (hb : fn.body = some c) (hn : (fn.name == "runtime.NumGoroutine") = false) : FnOk Tryz.prog 24 numK where
  nat R S' g p k := by
    unfold numK
    split
    · rename_i s _ _
      cases numC s <;> rfl
    · rfl
  ok p q hq Z vals H hv hp := by
    unfold numK at hq
    split at hq
    case h_2 => cases hq
    rename_i s u hu
    have hpk := PkS.un_pack hu
    subst hpk
    cases h1 : numC s with
    | none => rw [h1] at hq; cases hq
    | some v =>
    rw [h1] at hq
    have hq' := Option.some.inj hq
    subst hq'
    unfold numC at h1
    split at h1
    case isFalse => cases h1
    rename_i hs
    split at h1
    case h_2 => cases h1
    rename_i v' hat
    split at h1
    case isFalse => cases h1
    rename_i hc
    cases h1
    have hse : s = ⟨(Lib.itoa v).toArray⟩ := by
      rw [hc.2.2]
    subst hse
    have ha : All2 (AVRel (AtomRel Z.w (Stab Z (ptab []) H Z.w) (ptab []) H)) [.one (.str ⟨(Lib.itoa v).toArray⟩)] vals.toList := hp.args
    obtain ⟨u0, hvals⟩ : ∃ u0, vals = #[u0] := by
      have := ha.length
      simp only [List.length_cons, List.length_nil, Array.length_toList] at this
      exact ⟨vals[0], by
        refine Array.ext (by simp [← this]) fun i hi1 hi2 => ?_
        match i, hi2 with | 0, _ => rfl⟩
    subst hvals
    have e0 : u0 = .string ⟨(Lib.itoa v).toArray⟩ := ha.1
    obtain ⟨ht, hS⟩ := Z.gl.tab hG named3
    refine Does.of_calls hf hb hn ?_
    rw [e0]
    refine Calls.mono (number_walk v Z.w hc.1 hc.2.1 hs (by simpa using hat) ht (Z.old _ hS).1) fun e w' he => ?_
    obtain ⟨rfl, hB⟩ := he
    exact ⟨_, rfl, H, pk_flat hB (fun S rt' => ⟨_, rfl, rfl, rfl, trivial⟩) fun S rt' => ⟨trivial, trivial⟩⟩
end Go.Am
