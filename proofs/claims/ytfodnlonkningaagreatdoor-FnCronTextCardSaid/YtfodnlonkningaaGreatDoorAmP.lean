/- How the shelf's contracts lie at the seat's program; a text read as a number. -/
import Derived.Test.YtfodnlonkningaaGreatDoorAmO
import Derived.WalkKit
import Derived.Lib.Hide
import Derived.Lib.SmallJoins
import Derived.Shelf.Strconv.AtoiErr
import Derived.Lib.AtoiBound
import Derived.Laws.Strings
import Derived.Test.YtfodnlonkningaaGreatDoorChecked
set_option linter.unusedVariables false
set_option linter.unusedSimpArgs false
namespace Go.Am
open Go Go.Proofs
def renItoa : Go.Shelf.Ren := ⟨fun n => match n with
  | 171 => 14
  | 243 => 29
  | 246 => 42
  | 283 => 54
  | 284 => 55
  | 285 => 56
  | 286 => 57
  | 129 => 68
  | 317 => 67
  | 318 => 69
  | 319 => 70
  | 320 => 71
  | 337 => 86
  | 338 => 87
  | n => n, fun n => match n with
  | 3 => 3
  | 9 => 9
  | 2 => 2
  | 4 => 4
  | 171 => 84
  | 0 => 0
  | 53 => 48
  | 37 => 22
  | 5 => 5
  | 173 => 87
  | 212 => 97
  | 51 => 98
  | 20 => 20
  | 213 => 99
  | 46 => 95
  | 232 => 124
  | 233 => 125
  | n => n, fun n => match n with
  | 17 => 0
  | 18 => 4
  | 19 => 5
  | n => n⟩
theorem laysItoa : Go.Proofs.LaysM.n171 Tryz.prog renItoa where
  mixed := by kernel_rfl
  f129 := by kernel_rfl
  f171 := by kernel_rfl
  f243 := by kernel_rfl
  f246 := by kernel_rfl
  f283 := by kernel_rfl
  f284 := by kernel_rfl
  f285 := by kernel_rfl
  f286 := by kernel_rfl
  f317 := by kernel_rfl
  f318 := by kernel_rfl
  f319 := by kernel_rfl
  f320 := by kernel_rfl
  f337 := by kernel_rfl
  f338 := by kernel_rfl
  t0 := by kernel_rfl
  a0 w := by kernel_rfl
  z0 w := by kernel_rfl
  v0 w := by kernel_rfl
  t2 := by kernel_rfl
  a2 w := by kernel_rfl
  z2 w := by kernel_rfl
  v2 w := by kernel_rfl
  t3 := by kernel_rfl
  a3 w := by kernel_rfl
  z3 w := by kernel_rfl
  v3 w := by kernel_rfl
  t4 := by kernel_rfl
  a4 w := by kernel_rfl
  z4 w := by kernel_rfl
  v4 w := by kernel_rfl
  t5 := by kernel_rfl
  a5 w := by kernel_rfl
  z5 w := by kernel_rfl
  v5 w := by kernel_rfl
  t9 := by kernel_rfl
  a9 w := by kernel_rfl
  z9 w := by kernel_rfl
  v9 w := by kernel_rfl
  t20 := by kernel_rfl
  a20 w := by kernel_rfl
  z20 w := by kernel_rfl
  v20 w := by kernel_rfl
  t37 := by kernel_rfl
  a37 w := by kernel_rfl
  z37 w := by kernel_rfl
  v37 w := by kernel_rfl
  t46 := by kernel_rfl
  a46 w := by kernel_rfl
  z46 w := by kernel_rfl
  v46 w := by kernel_rfl
  t51 := by kernel_rfl
  a51 w := by kernel_rfl
  z51 w := by kernel_rfl
  v51 w := by kernel_rfl
  t53 := by kernel_rfl
  a53 w := by kernel_rfl
  z53 w := by kernel_rfl
  v53 w := by kernel_rfl
  t171 := by kernel_rfl
  a171 w := by kernel_rfl
  z171 w := by kernel_rfl
  v171 w := by kernel_rfl
  t173 := by kernel_rfl
  a173 w := by kernel_rfl
  z173 w := by kernel_rfl
  v173 w := by kernel_rfl
  t212 := by kernel_rfl
  a212 w := by kernel_rfl
  z212 w := by kernel_rfl
  v212 w := by kernel_rfl
  t213 := by kernel_rfl
  a213 w := by kernel_rfl
  z213 w := by kernel_rfl
  t232 := by kernel_rfl
  a232 w := by kernel_rfl
  z232 w := by kernel_rfl
  v232 w := by kernel_rfl
  t233 := by kernel_rfl
  a233 w := by kernel_rfl
  z233 w := by kernel_rfl
  v233 w := by kernel_rfl
  g17 := by kernel_rfl
  g18 := by kernel_rfl
  g19 := by kernel_rfl
  i0 := by kernel_rfl
  i2 := by kernel_rfl
  i3 := by kernel_rfl
  i4 := by kernel_rfl
  i5 := by kernel_rfl
  i9 := by kernel_rfl
  i20 := by kernel_rfl
  i37 := by kernel_rfl
  i46 := by kernel_rfl
  i51 := by kernel_rfl
  i53 := by kernel_rfl
  i171 := by kernel_rfl
  i173 := by kernel_rfl
  i212 := by kernel_rfl
  i232 := by kernel_rfl
  i233 := by kernel_rfl
  m17 := by kernel_rfl
  m18 := by kernel_rfl
  m19 := by kernel_rfl
def renAtoi : Go.Shelf.Ren := ⟨fun n => match n with
  | 172 => 66
  | 244 => 84
  | 245 => 85
  | 247 => 93
  | 279 => 94
  | 280 => 95
  | 281 => 96
  | 282 => 97
  | 287 => 100
  | 316 => 101
  | 171 => 14
  | 205 => 102
  | 321 => 105
  | 322 => 106
  | 243 => 29
  | 246 => 42
  | 283 => 54
  | 284 => 55
  | 285 => 56
  | 286 => 57
  | 129 => 68
  | 317 => 67
  | 318 => 69
  | 319 => 70
  | 320 => 71
  | 337 => 86
  | 338 => 87
  | n => n, fun n => match n with
  | 9 => 9
  | 3 => 3
  | 75 => 63
  | 76 => 64
  | 4 => 4
  | 5 => 5
  | 167 => 118
  | 37 => 22
  | 0 => 0
  | 85 => 119
  | 2 => 2
  | 168 => 121
  | 53 => 48
  | 175 => 127
  | 46 => 95
  | 210 => 131
  | 127 => 76
  | 145 => 138
  | 143 => 136
  | 21 => 21
  | 171 => 84
  | 173 => 87
  | 212 => 97
  | 51 => 98
  | 20 => 20
  | 213 => 99
  | 232 => 124
  | 233 => 125
  | 80 => 66
  | n => n, fun n => match n with
  | 15 => 6
  | 16 => 7
  | 17 => 0
  | 18 => 4
  | 19 => 5
  | n => n⟩
theorem laysAtoi : Go.Proofs.Lays.n172 Tryz.prog renAtoi where
  mixed := by kernel_rfl
  f129 := by kernel_rfl
  f171 := by kernel_rfl
  f172 := by kernel_rfl
  f205 := by kernel_rfl
  f243 := by kernel_rfl
  f244 := by kernel_rfl
  f245 := by kernel_rfl
  f246 := by kernel_rfl
  f247 := by kernel_rfl
  f279 := by kernel_rfl
  f280 := by kernel_rfl
  f281 := by kernel_rfl
  f282 := by kernel_rfl
  f283 := by kernel_rfl
  f284 := by kernel_rfl
  f285 := by kernel_rfl
  f286 := by kernel_rfl
  f287 := by kernel_rfl
  f316 := by kernel_rfl
  f317 := by kernel_rfl
  f318 := by kernel_rfl
  f319 := by kernel_rfl
  f320 := by kernel_rfl
  f321 := by kernel_rfl
  f322 := by kernel_rfl
  f337 := by kernel_rfl
  f338 := by kernel_rfl
  t0 := by kernel_rfl
  a0 w := by kernel_rfl
  z0 w := by kernel_rfl
  v0 w := by kernel_rfl
  t2 := by kernel_rfl
  a2 w := by kernel_rfl
  z2 w := by kernel_rfl
  v2 w := by kernel_rfl
  t3 := by kernel_rfl
  a3 w := by kernel_rfl
  z3 w := by kernel_rfl
  v3 w := by kernel_rfl
  t4 := by kernel_rfl
  a4 w := by kernel_rfl
  z4 w := by kernel_rfl
  v4 w := by kernel_rfl
  t5 := by kernel_rfl
  a5 w := by kernel_rfl
  z5 w := by kernel_rfl
  v5 w := by kernel_rfl
  t9 := by kernel_rfl
  a9 w := by kernel_rfl
  z9 w := by kernel_rfl
  v9 w := by kernel_rfl
  t20 := by kernel_rfl
  a20 w := by kernel_rfl
  z20 w := by kernel_rfl
  v20 w := by kernel_rfl
  t21 := by kernel_rfl
  a21 w := by kernel_rfl
  z21 w := by kernel_rfl
  v21 w := by kernel_rfl
  t37 := by kernel_rfl
  a37 w := by kernel_rfl
  z37 w := by kernel_rfl
  v37 w := by kernel_rfl
  t46 := by kernel_rfl
  a46 w := by kernel_rfl
  z46 w := by kernel_rfl
  v46 w := by kernel_rfl
  t51 := by kernel_rfl
  a51 w := by kernel_rfl
  z51 w := by kernel_rfl
  v51 w := by kernel_rfl
  t53 := by kernel_rfl
  a53 w := by kernel_rfl
  z53 w := by kernel_rfl
  v53 w := by kernel_rfl
  t75 := by kernel_rfl
  a75 w := by kernel_rfl
  z75 w := by kernel_rfl
  v75 w := by kernel_rfl
  t76 := by kernel_rfl
  a76 w := by kernel_rfl
  z76 w := by kernel_rfl
  v76 w := by kernel_rfl
  t85 := by kernel_rfl
  a85 w := by kernel_rfl
  z85 w := by kernel_rfl
  v85 w := by kernel_rfl
  t127 := by kernel_rfl
  a127 w := by kernel_rfl
  z127 w := by kernel_rfl
  v127 w := by kernel_rfl
  t143 := by kernel_rfl
  a143 w := by kernel_rfl
  z143 w := by kernel_rfl
  v143 w := by kernel_rfl
  t145 := by kernel_rfl
  a145 w := by kernel_rfl
  z145 w := by kernel_rfl
  v145 w := by kernel_rfl
  t167 := by kernel_rfl
  a167 w := by kernel_rfl
  z167 w := by kernel_rfl
  v167 w := by kernel_rfl
  t168 := by kernel_rfl
  a168 w := by kernel_rfl
  z168 w := by kernel_rfl
  v168 w := by kernel_rfl
  t171 := by kernel_rfl
  a171 w := by kernel_rfl
  z171 w := by kernel_rfl
  v171 w := by kernel_rfl
  t173 := by kernel_rfl
  a173 w := by kernel_rfl
  z173 w := by kernel_rfl
  v173 w := by kernel_rfl
  t175 := by kernel_rfl
  a175 w := by kernel_rfl
  z175 w := by kernel_rfl
  v175 w := by kernel_rfl
  t210 := by kernel_rfl
  a210 w := by kernel_rfl
  z210 w := by kernel_rfl
  v210 w := by kernel_rfl
  t212 := by kernel_rfl
  a212 w := by kernel_rfl
  z212 w := by kernel_rfl
  v212 w := by kernel_rfl
  t213 := by kernel_rfl
  a213 w := by kernel_rfl
  z213 w := by kernel_rfl
  t232 := by kernel_rfl
  a232 w := by kernel_rfl
  z232 w := by kernel_rfl
  v232 w := by kernel_rfl
  t233 := by kernel_rfl
  a233 w := by kernel_rfl
  z233 w := by kernel_rfl
  v233 w := by kernel_rfl
  g15 := by kernel_rfl
  g16 := by kernel_rfl
  g17 := by kernel_rfl
  g18 := by kernel_rfl
  g19 := by kernel_rfl
theorem laysAtoiE : Go.Proofs.LaysC.n172 Tryz.prog renAtoi where
  mixed := by kernel_rfl
  f129 := by kernel_rfl
  f171 := by kernel_rfl
  f172 := by kernel_rfl
  f205 := by kernel_rfl
  f243 := by kernel_rfl
  f244 := by kernel_rfl
  f245 := by kernel_rfl
  f246 := by kernel_rfl
  f247 := by kernel_rfl
  f279 := by kernel_rfl
  f280 := by kernel_rfl
  f281 := by kernel_rfl
  f282 := by kernel_rfl
  f283 := by kernel_rfl
  f284 := by kernel_rfl
  f285 := by kernel_rfl
  f286 := by kernel_rfl
  f287 := by kernel_rfl
  f316 := by kernel_rfl
  f317 := by kernel_rfl
  f318 := by kernel_rfl
  f319 := by kernel_rfl
  f320 := by kernel_rfl
  f321 := by kernel_rfl
  f322 := by kernel_rfl
  f337 := by kernel_rfl
  f338 := by kernel_rfl
  t0 := by kernel_rfl
  a0 w := by kernel_rfl
  z0 w := by kernel_rfl
  v0 w := by kernel_rfl
  t2 := by kernel_rfl
  a2 w := by kernel_rfl
  z2 w := by kernel_rfl
  v2 w := by kernel_rfl
  t3 := by kernel_rfl
  a3 w := by kernel_rfl
  z3 w := by kernel_rfl
  v3 w := by kernel_rfl
  t4 := by kernel_rfl
  a4 w := by kernel_rfl
  z4 w := by kernel_rfl
  v4 w := by kernel_rfl
  t5 := by kernel_rfl
  a5 w := by kernel_rfl
  z5 w := by kernel_rfl
  v5 w := by kernel_rfl
  t9 := by kernel_rfl
  a9 w := by kernel_rfl
  z9 w := by kernel_rfl
  v9 w := by kernel_rfl
  t20 := by kernel_rfl
  a20 w := by kernel_rfl
  z20 w := by kernel_rfl
  v20 w := by kernel_rfl
  t21 := by kernel_rfl
  a21 w := by kernel_rfl
  z21 w := by kernel_rfl
  v21 w := by kernel_rfl
  t37 := by kernel_rfl
  a37 w := by kernel_rfl
  z37 w := by kernel_rfl
  v37 w := by kernel_rfl
  t46 := by kernel_rfl
  a46 w := by kernel_rfl
  z46 w := by kernel_rfl
  v46 w := by kernel_rfl
  t51 := by kernel_rfl
  a51 w := by kernel_rfl
  z51 w := by kernel_rfl
  v51 w := by kernel_rfl
  t53 := by kernel_rfl
  a53 w := by kernel_rfl
  z53 w := by kernel_rfl
  v53 w := by kernel_rfl
  t75 := by kernel_rfl
  a75 w := by kernel_rfl
  z75 w := by kernel_rfl
  v75 w := by kernel_rfl
  t76 := by kernel_rfl
  a76 w := by kernel_rfl
  z76 w := by kernel_rfl
  v76 w := by kernel_rfl
  t85 := by kernel_rfl
  a85 w := by kernel_rfl
  z85 w := by kernel_rfl
  v85 w := by kernel_rfl
  t127 := by kernel_rfl
  a127 w := by kernel_rfl
  z127 w := by kernel_rfl
  v127 w := by kernel_rfl
  t143 := by kernel_rfl
  a143 w := by kernel_rfl
  z143 w := by kernel_rfl
  v143 w := by kernel_rfl
  t145 := by kernel_rfl
  a145 w := by kernel_rfl
  z145 w := by kernel_rfl
  v145 w := by kernel_rfl
  t167 := by kernel_rfl
  a167 w := by kernel_rfl
  z167 w := by kernel_rfl
  v167 w := by kernel_rfl
  t168 := by kernel_rfl
  a168 w := by kernel_rfl
  z168 w := by kernel_rfl
  v168 w := by kernel_rfl
  t171 := by kernel_rfl
  a171 w := by kernel_rfl
  z171 w := by kernel_rfl
  v171 w := by kernel_rfl
  t173 := by kernel_rfl
  a173 w := by kernel_rfl
  z173 w := by kernel_rfl
  v173 w := by kernel_rfl
  t175 := by kernel_rfl
  a175 w := by kernel_rfl
  z175 w := by kernel_rfl
  v175 w := by kernel_rfl
  t210 := by kernel_rfl
  a210 w := by kernel_rfl
  z210 w := by kernel_rfl
  v210 w := by kernel_rfl
  t212 := by kernel_rfl
  a212 w := by kernel_rfl
  z212 w := by kernel_rfl
  v212 w := by kernel_rfl
  t213 := by kernel_rfl
  a213 w := by kernel_rfl
  z213 w := by kernel_rfl
  t232 := by kernel_rfl
  a232 w := by kernel_rfl
  z232 w := by kernel_rfl
  v232 w := by kernel_rfl
  t233 := by kernel_rfl
  a233 w := by kernel_rfl
  z233 w := by kernel_rfl
  v233 w := by kernel_rfl
  g15 := by kernel_rfl
  g16 := by kernel_rfl
  g17 := by kernel_rfl
  g18 := by kernel_rfl
  g19 := by kernel_rfl
  t80 := by kernel_rfl
  a80 w := by kernel_rfl
  z80 w := by kernel_rfl
  v80 w := by kernel_rfl
  i0 := by kernel_rfl
  i2 := by kernel_rfl
  i3 := by kernel_rfl
  i4 := by kernel_rfl
  i5 := by kernel_rfl
  i9 := by kernel_rfl
  i20 := by kernel_rfl
  i21 := by kernel_rfl
  i37 := by kernel_rfl
  i46 := by kernel_rfl
  i51 := by kernel_rfl
  i53 := by kernel_rfl
  i75 := by kernel_rfl
  i76 := by kernel_rfl
  i80 := by kernel_rfl
  i85 := by kernel_rfl
  i127 := by kernel_rfl
  i143 := by kernel_rfl
  i145 := by kernel_rfl
  i167 := by kernel_rfl
  i168 := by kernel_rfl
  i171 := by kernel_rfl
  i173 := by kernel_rfl
  i175 := by kernel_rfl
  i210 := by kernel_rfl
  i212 := by kernel_rfl
  i232 := by kernel_rfl
  i233 := by kernel_rfl
  m15 := by kernel_rfl
  m16 := by kernel_rfl
  m17 := by kernel_rfl
  m18 := by kernel_rfl
  m19 := by kernel_rfl
  c0 := by kernel_rfl
  c2 := by kernel_rfl
  c3 := by kernel_rfl
  c4 := by kernel_rfl
  c5 := by kernel_rfl
  c9 := by kernel_rfl
  c20 := by kernel_rfl
  c21 := by kernel_rfl
  c37 := by kernel_rfl
  c46 := by kernel_rfl
  c51 := by kernel_rfl
  c53 := by kernel_rfl
  c75 := by kernel_rfl
  c76 := by kernel_rfl
  c80 := by kernel_rfl
  c85 := by kernel_rfl
  c127 := by kernel_rfl
  c143 := by kernel_rfl
  c145 := by kernel_rfl
  c167 := by kernel_rfl
  c168 := by kernel_rfl
  c171 := by kernel_rfl
  c173 := by kernel_rfl
  c175 := by kernel_rfl
  c210 := by kernel_rfl
  c212 := by kernel_rfl
  c213 := by kernel_rfl
  c232 := by kernel_rfl
  c233 := by kernel_rfl
def renCut : Go.Shelf.Ren := ⟨fun n => match n with
  | 145 => 49
  | 220 => 64
  | 219 => 63
  | 217 => 73
  | 225 => 74
  | 224 => 75
  | 267 => 76
  | 266 => 88
  | 314 => 89
  | n => n, fun n => match n with
  | 9 => 9
  | 4 => 4
  | 59 => 54
  | 3 => 3
  | 5 => 5
  | 46 => 95
  | 146 => 114
  | 51 => 98
  | n => n, fun n => match n with
  | 1 => 1
  | n => n⟩
theorem laysCut : Go.Proofs.Lays.n145 Tryz.prog renCut where
  mixed := by kernel_rfl
  f145 := by kernel_rfl
  f217 := by kernel_rfl
  f219 := by kernel_rfl
  f220 := by kernel_rfl
  f224 := by kernel_rfl
  f225 := by kernel_rfl
  f266 := by kernel_rfl
  f267 := by kernel_rfl
  f314 := by kernel_rfl
  t3 := by kernel_rfl
  a3 w := by kernel_rfl
  z3 w := by kernel_rfl
  v3 w := by kernel_rfl
  t4 := by kernel_rfl
  a4 w := by kernel_rfl
  z4 w := by kernel_rfl
  v4 w := by kernel_rfl
  t5 := by kernel_rfl
  a5 w := by kernel_rfl
  z5 w := by kernel_rfl
  v5 w := by kernel_rfl
  t9 := by kernel_rfl
  a9 w := by kernel_rfl
  z9 w := by kernel_rfl
  v9 w := by kernel_rfl
  t46 := by kernel_rfl
  a46 w := by kernel_rfl
  z46 w := by kernel_rfl
  v46 w := by kernel_rfl
  t51 := by kernel_rfl
  a51 w := by kernel_rfl
  z51 w := by kernel_rfl
  v51 w := by kernel_rfl
  t59 := by kernel_rfl
  a59 w := by kernel_rfl
  z59 w := by kernel_rfl
  v59 w := by kernel_rfl
  t146 := by kernel_rfl
  a146 w := by kernel_rfl
  z146 w := by kernel_rfl
  v146 w := by kernel_rfl
  g1 := by kernel_rfl
def renSplit : Go.Shelf.Ren := ⟨fun n => match n with
  | 146 => 37
  | 221 => 36
  | 268 => 46
  | 138 => 47
  | 143 => 48
  | 195 => 60
  | 197 => 61
  | 218 => 62
  | 219 => 63
  | 260 => 72
  | 217 => 73
  | 225 => 74
  | 224 => 75
  | 267 => 76
  | 266 => 88
  | 314 => 89
  | n => n, fun n => match n with
  | 9 => 9
  | 31 => 35
  | 3 => 3
  | 4 => 4
  | 0 => 0
  | 105 => 92
  | 21 => 21
  | 5 => 5
  | 46 => 95
  | 119 => 110
  | 139 => 113
  | 138 => 112
  | 146 => 114
  | 51 => 98
  | n => n, fun n => match n with
  | 1 => 1
  | 3 => 2
  | 4 => 3
  | n => n⟩
theorem laysSplit : Go.Proofs.Lays.n146 Tryz.prog renSplit where
  mixed := by kernel_rfl
  f138 := by kernel_rfl
  f143 := by kernel_rfl
  f146 := by kernel_rfl
  f195 := by kernel_rfl
  f197 := by kernel_rfl
  f217 := by kernel_rfl
  f218 := by kernel_rfl
  f219 := by kernel_rfl
  f221 := by kernel_rfl
  f224 := by kernel_rfl
  f225 := by kernel_rfl
  f260 := by kernel_rfl
  f266 := by kernel_rfl
  f267 := by kernel_rfl
  f268 := by kernel_rfl
  f314 := by kernel_rfl
  t0 := by kernel_rfl
  a0 w := by kernel_rfl
  z0 w := by kernel_rfl
  v0 w := by kernel_rfl
  t3 := by kernel_rfl
  a3 w := by kernel_rfl
  z3 w := by kernel_rfl
  v3 w := by kernel_rfl
  t4 := by kernel_rfl
  a4 w := by kernel_rfl
  z4 w := by kernel_rfl
  v4 w := by kernel_rfl
  t5 := by kernel_rfl
  a5 w := by kernel_rfl
  z5 w := by kernel_rfl
  v5 w := by kernel_rfl
  t9 := by kernel_rfl
  a9 w := by kernel_rfl
  z9 w := by kernel_rfl
  v9 w := by kernel_rfl
  t21 := by kernel_rfl
  a21 w := by kernel_rfl
  z21 w := by kernel_rfl
  v21 w := by kernel_rfl
  t31 := by kernel_rfl
  a31 w := by kernel_rfl
  z31 w := by kernel_rfl
  v31 w := by kernel_rfl
  t46 := by kernel_rfl
  a46 w := by kernel_rfl
  z46 w := by kernel_rfl
  v46 w := by kernel_rfl
  t51 := by kernel_rfl
  a51 w := by kernel_rfl
  z51 w := by kernel_rfl
  v51 w := by kernel_rfl
  t105 := by kernel_rfl
  a105 w := by kernel_rfl
  z105 w := by kernel_rfl
  v105 w := by kernel_rfl
  t119 := by kernel_rfl
  a119 w := by kernel_rfl
  z119 w := by kernel_rfl
  t138 := by kernel_rfl
  a138 w := by kernel_rfl
  z138 w := by kernel_rfl
  v138 w := by kernel_rfl
  t139 := by kernel_rfl
  a139 w := by kernel_rfl
  z139 w := by kernel_rfl
  v139 w := by kernel_rfl
  t146 := by kernel_rfl
  a146 w := by kernel_rfl
  z146 w := by kernel_rfl
  v146 w := by kernel_rfl
  g1 := by kernel_rfl
  g3 := by kernel_rfl
  g4 := by kernel_rfl
def renSplitN : Go.Shelf.Ren := ⟨fun n => match n with
  | 147 => 20
  | 221 => 36
  | 268 => 46
  | 138 => 47
  | 143 => 48
  | 195 => 60
  | 197 => 61
  | 218 => 62
  | 219 => 63
  | 260 => 72
  | 217 => 73
  | 225 => 74
  | 224 => 75
  | 267 => 76
  | 266 => 88
  | 314 => 89
  | n => n, fun n => match n with
  | 9 => 9
  | 31 => 35
  | 3 => 3
  | 4 => 4
  | 0 => 0
  | 105 => 92
  | 21 => 21
  | 5 => 5
  | 46 => 95
  | 119 => 110
  | 139 => 113
  | 138 => 112
  | 146 => 114
  | 51 => 98
  | n => n, fun n => match n with
  | 1 => 1
  | 3 => 2
  | 4 => 3
  | n => n⟩
theorem laysSplitN : Go.Proofs.Lays.n147 Tryz.prog renSplitN where
  mixed := by kernel_rfl
  f138 := by kernel_rfl
  f143 := by kernel_rfl
  f147 := by kernel_rfl
  f195 := by kernel_rfl
  f197 := by kernel_rfl
  f217 := by kernel_rfl
  f218 := by kernel_rfl
  f219 := by kernel_rfl
  f221 := by kernel_rfl
  f224 := by kernel_rfl
  f225 := by kernel_rfl
  f260 := by kernel_rfl
  f266 := by kernel_rfl
  f267 := by kernel_rfl
  f268 := by kernel_rfl
  f314 := by kernel_rfl
  t0 := by kernel_rfl
  a0 w := by kernel_rfl
  z0 w := by kernel_rfl
  v0 w := by kernel_rfl
  t3 := by kernel_rfl
  a3 w := by kernel_rfl
  z3 w := by kernel_rfl
  v3 w := by kernel_rfl
  t4 := by kernel_rfl
  a4 w := by kernel_rfl
  z4 w := by kernel_rfl
  v4 w := by kernel_rfl
  t5 := by kernel_rfl
  a5 w := by kernel_rfl
  z5 w := by kernel_rfl
  v5 w := by kernel_rfl
  t9 := by kernel_rfl
  a9 w := by kernel_rfl
  z9 w := by kernel_rfl
  v9 w := by kernel_rfl
  t21 := by kernel_rfl
  a21 w := by kernel_rfl
  z21 w := by kernel_rfl
  v21 w := by kernel_rfl
  t31 := by kernel_rfl
  a31 w := by kernel_rfl
  z31 w := by kernel_rfl
  v31 w := by kernel_rfl
  t46 := by kernel_rfl
  a46 w := by kernel_rfl
  z46 w := by kernel_rfl
  v46 w := by kernel_rfl
  t51 := by kernel_rfl
  a51 w := by kernel_rfl
  z51 w := by kernel_rfl
  v51 w := by kernel_rfl
  t105 := by kernel_rfl
  a105 w := by kernel_rfl
  z105 w := by kernel_rfl
  v105 w := by kernel_rfl
  t119 := by kernel_rfl
  a119 w := by kernel_rfl
  z119 w := by kernel_rfl
  t138 := by kernel_rfl
  a138 w := by kernel_rfl
  z138 w := by kernel_rfl
  v138 w := by kernel_rfl
  t139 := by kernel_rfl
  a139 w := by kernel_rfl
  z139 w := by kernel_rfl
  v139 w := by kernel_rfl
  t146 := by kernel_rfl
  a146 w := by kernel_rfl
  z146 w := by kernel_rfl
  v146 w := by kernel_rfl
  g1 := by kernel_rfl
  g3 := by kernel_rfl
  g4 := by kernel_rfl
def renJoin : Go.Shelf.Ren := ⟨fun n => match n with
  | 156 => 16
  | 165 => 30
  | 166 => 31
  | 169 => 32
  | 240 => 43
  | 241 => 44
  | 276 => 58
  | 277 => 59
  | n => n, fun n => match n with
  | 31 => 35
  | 9 => 9
  | 3 => 3
  | 4 => 4
  | 0 => 0
  | 20 => 20
  | 72 => 60
  | 76 => 64
  | 70 => 58
  | 37 => 22
  | 75 => 63
  | 127 => 76
  | 164 => 89
  | 5 => 5
  | 80 => 66
  | n => n, fun n => n⟩
theorem laysJoin : Go.Proofs.Lays.n156 Tryz.prog renJoin where
  mixed := by kernel_rfl
  f156 := by kernel_rfl
  f165 := by kernel_rfl
  f166 := by kernel_rfl
  f169 := by kernel_rfl
  f240 := by kernel_rfl
  f241 := by kernel_rfl
  f276 := by kernel_rfl
  f277 := by kernel_rfl
  t0 := by kernel_rfl
  a0 w := by kernel_rfl
  z0 w := by kernel_rfl
  v0 w := by kernel_rfl
  t3 := by kernel_rfl
  a3 w := by kernel_rfl
  z3 w := by kernel_rfl
  v3 w := by kernel_rfl
  t4 := by kernel_rfl
  a4 w := by kernel_rfl
  z4 w := by kernel_rfl
  v4 w := by kernel_rfl
  t9 := by kernel_rfl
  a9 w := by kernel_rfl
  z9 w := by kernel_rfl
  v9 w := by kernel_rfl
  t20 := by kernel_rfl
  a20 w := by kernel_rfl
  z20 w := by kernel_rfl
  v20 w := by kernel_rfl
  t31 := by kernel_rfl
  a31 w := by kernel_rfl
  z31 w := by kernel_rfl
  v31 w := by kernel_rfl
  t37 := by kernel_rfl
  a37 w := by kernel_rfl
  z37 w := by kernel_rfl
  v37 w := by kernel_rfl
  t70 := by kernel_rfl
  a70 w := by kernel_rfl
  z70 w := by kernel_rfl
  v70 w := by kernel_rfl
  t72 := by kernel_rfl
  a72 w := by kernel_rfl
  z72 w := by kernel_rfl
  v72 w := by kernel_rfl
  t75 := by kernel_rfl
  a75 w := by kernel_rfl
  z75 w := by kernel_rfl
  v75 w := by kernel_rfl
  t76 := by kernel_rfl
  a76 w := by kernel_rfl
  z76 w := by kernel_rfl
  v76 w := by kernel_rfl
  t127 := by kernel_rfl
  a127 w := by kernel_rfl
  z127 w := by kernel_rfl
  v127 w := by kernel_rfl
  t164 := by kernel_rfl
  a164 w := by kernel_rfl
  z164 w := by kernel_rfl
  v164 w := by kernel_rfl
theorem extraJoin : Go.Proofs.Builder.Extra Tryz.prog renJoin where
  sizeBuilder := by kernel_rfl
  liesBuilder := by kernel_rfl
  t5 := by kernel_rfl
  a5 w := by kernel_rfl
  z5 w := by kernel_rfl
  v5 w := by kernel_rfl
  infoByte := by kernel_rfl
  cellsByte := by kernel_rfl
  sizeByte := by kernel_rfl
  neB5 := by decide
theorem named0 : Tryz.prog.globalNamed "internal/strconv.uint64pow10" = some 0 := by kernel_rfl
theorem number_neg (s : ByteArray) (v : Int) (w : World) (hs : s.size ≤ 18) (ha : Lib.atoi s.data.toList = some v) (h0 : v < 0) :
    Calls Tryz.prog 51 #[.string s] w fun e w' => e = .returned (.tuple #[.int .i64 v, .bool false]) ∧ RowKit.Below w.heap.size w w' := by
  have hA := Any.strconv_Atoi laysAtoi s v (by omega) ha w
  have HA := Lib.hid hA
  clear hA ha
  go_enter Tryz.func51, Tryz.ntmps51
  go_wp2_with fail
  refine HA.out.mono ?_
  rintro e w' ⟨rfl, t, rfl⟩
  have hB := Joins.below_bytesWorld w.heap.size w (renAtoi.t 5) t (Nat.le_refl _)
  have HB := Lib.hid hB
  clear hB
  generalize Lib.bytesWorld w (renAtoi.t 5) t = w1 at HB ⊢
  go_wp2
  go_ret2
  exact ⟨rfl, HB.out⟩
theorem number_long (s : ByteArray) (v : Int) (w : World) (hs : s.size ≤ 18) (ha : Lib.atoi s.data.toList = some v) (h0 : 0 ≤ v) (h9 : ¬ (s.size : Int) ≤ 9) :
    Calls Tryz.prog 51 #[.string s] w fun e w' => e = .returned (.tuple #[.int .i64 v, .bool false]) ∧ RowKit.Below w.heap.size w w' := by
  have hA := Any.strconv_Atoi laysAtoi s v (by omega) ha w
  have HA := Lib.hid hA
  clear hA ha
  go_enter Tryz.func51, Tryz.ntmps51
  go_wp2_with fail
  refine HA.out.mono ?_
  rintro e w' ⟨rfl, t, rfl⟩
  have hB := Joins.below_bytesWorld w.heap.size w (renAtoi.t 5) t (Nat.le_refl _)
  have HB := Lib.hid hB
  clear hB
  generalize Lib.bytesWorld w (renAtoi.t 5) t = w1 at HB ⊢
  go_wp2
  go_ret2
  exact ⟨rfl, HB.out⟩
theorem number_itoa (s : ByteArray) (v : Int) (w : World) (hs : (s.size : Int) ≤ 9) (ha : Lib.atoi s.data.toList = some v) (h0 : 0 ≤ v) (h1 : v ≤ 9223372036854775807) (htab : Lib.TabIs Tryz.prog w "internal/strconv.uint64pow10" .u64 Lib.pow10Tab) (h3 : 0 < w.heap.size) :
    Calls Tryz.prog 51 #[.string s] w fun e w' => e = .returned (.tuple #[.int .i64 v, .bool (decide (Lib.itoa v = s.data.toList))]) ∧ RowKit.Below w.heap.size w w' := by
  have hA := Any.strconv_Atoi laysAtoi s v (by omega) ha w
  have hI := fun w' => Any.strconv_Itoa laysItoa v (by omega) (by omega) w'
  have hd : decide (Lib.itoa v = s.data.toList) = decide ((⟨(Lib.itoa v).toArray⟩ : ByteArray) = s) := by
    refine decide_eq_decide.2 ⟨fun e => by rw [e], fun e => by rw [← e]⟩
  have hq : ∀ q : ByteArray, decide (q = s) = (q.toList == s.toList) := fun q => by
    have e : ∀ b : ByteArray, b.toList = b.data.toList := fun b => ByteArray.toList_eq b
    by_cases h : q = s
    · rw [h]; simp
    · rw [decide_eq_false h]
      refine (beq_eq_false_iff_ne.2 fun c => h ?_).symm
      rw [e, e] at c
      exact ByteArray.ext (Array.toList_inj.1 c)
  rw [hd, hq]
  clear hd hq
  generalize (⟨(Lib.itoa v).toArray⟩ : ByteArray) = q at hI ⊢
  have HA := Lib.hid hA
  have HI := Lib.hid hI
  have HT := Lib.hid htab
  clear hA hI htab ha
  go_enter Tryz.func51, Tryz.ntmps51
  go_wp2_with fail
  refine HA.out.mono ?_
  rintro e w' ⟨rfl, t, rfl⟩
  have hB := Joins.below_bytesWorld w.heap.size w (renAtoi.t 5) t (Nat.le_refl _)
  have hT2 := Lib.hid (Joins.tab_stays named0 HT.out hB (Nat.le_refl _))
  have HB := Lib.hid hB
  clear hB
  generalize Lib.bytesWorld w (renAtoi.t 5) t = w1 at hT2 HB ⊢
  have hI1 := Lib.hid (HI.out w1 hT2.out)
  go_wp2_with fail
  refine hI1.out.mono ?_
  rintro e w' ⟨rfl, k, os, rfl⟩
  have hB2 := Lib.hid (HB.out.trans (Lib.below_grow w.heap.size w1 HB.out.size k os))
  clear hI1 HB hT2
  generalize Go.Sort.grow (w1.drewN k) os = w2 at hB2 ⊢
  go_wp2
  go_ret2
  exact ⟨rfl, hB2.out⟩
theorem number_err (s : ByteArray) (w : World) (hs : s.size ≤ 18) (ha : Lib.atoi s.data.toList = none) (ev : Value) (hv : w.cell? ⟨6, 0, none⟩ = some ev) (hev : ev = .nilIface ∨ ∃ te pe, ev = .iface te pe) :
    Calls Tryz.prog 51 #[.string s] w fun e w' => e = .returned (.tuple #[.int .i64 0, .bool false]) ∧ RowKit.Below w.heap.size w w' := by
  have hA := Any.strconv_Atoi_err laysAtoiE s hs ha ev w hv hev
  have HA := Lib.hid hA
  clear hA ha hv hev
  go_enter Tryz.func51, Tryz.ntmps51
  go_wp2_with fail
  refine HA.out.mono ?_
  rintro e w1 ⟨N, rfl, _, _, HB⟩
  have HB := Lib.hid HB
  go_wp2
  go_ret2
  exact ⟨rfl, HB.out⟩
@[reducible] def numI : PkS := ⟨[.one (.str)], []⟩
@[reducible] def numT : PkS := ⟨[.tup [(false, [.int .i64]), (false, [.bool])], .one (.dead)], []⟩
def numV (s : ByteArray) : Int := (Lib.atoi s.data.toList).getD 0
def numB (s : ByteArray) : Bool := match Lib.atoi s.data.toList with
  | some v => decide (0 ≤ v) && (decide (s.size ≤ 9) && decide (Lib.itoa v = s.data.toList))
  | none => false
def numK : KPs := fun R p k => match (PkS.un numI p : Option (ByteArray × Unit)) with
  | some (s, _) => (bif decide (s.size ≤ 18) then k (PkS.pack numT (numV s, numB s, ())) else none)
  | none => none
theorem gl_err {w : World} {S : Nat → Prop} (h : Gl w S) {g : Nat} (hG : (g, isErr) ∈ glob) : ∃ v, w.cell? ⟨g, 0, none⟩ = some v ∧ (v = .nilIface ∨ ∃ te pe, v = .iface te pe) := by
  obtain ⟨h1, c, t, fr, h2, v, h3, h4⟩ := h _ hG
  have h2' : w.heap[g]? = some (.cells c t fr) := h2
  exact ⟨v, by simp [World.cell?, h2', h3], h4⟩
theorem number_all (s : ByteArray) (w : World) (hs : s.size ≤ 18) (htab : Lib.TabIs Tryz.prog w "internal/strconv.uint64pow10" .u64 Lib.pow10Tab) (h3 : 0 < w.heap.size) (ev : Value) (hv : w.cell? ⟨6, 0, none⟩ = some ev) (hev : ev = .nilIface ∨ ∃ te pe, ev = .iface te pe) :
    Calls Tryz.prog 51 #[.string s] w fun e w' => e = .returned (.tuple #[.int .i64 (numV s), .bool (numB s)]) ∧ RowKit.Below w.heap.size w w' := by
  unfold numV numB
  cases ha : Lib.atoi s.data.toList with
  | none => exact number_err s w hs ha ev hv hev
  | some v =>
    by_cases h0 : 0 ≤ v
    · by_cases h9 : s.size ≤ 9
      · have hv := Lib.atoi_bound ha hs
        simp only [h0, h9, decide_true, Bool.true_and, Option.getD_some]
        exact number_itoa s v w (by omega) ha h0 (by omega) htab h3
      · simp only [h0, h9, decide_true, decide_false, Bool.true_and, Bool.false_and, Option.getD_some]
        exact number_long s v w hs ha h0 (by omega)
    · simp only [h0, decide_false, Bool.false_and, Option.getD_some]
      exact number_neg s v w hs ha (by omega)
set_option maxRecDepth 100000 in
theorem number_ok {fn : Func} {c : Code} (hG : (0, isTab) ∈ glob) (hE : (6, isErr) ∈ glob) (hf : Tryz.prog.funcs[51]? = some fn) (hb : fn.body = some c) (hn : (fn.name == "runtime.NumGoroutine") = false) : FnOk Tryz.prog 51 numK where
  nat R S' g p k := by
    unfold numK
    split
    · rename_i s _ _
      cases decide (s.size ≤ 18) <;> rfl
    · rfl
  ok p q hq Z vals H hv hp := by
    unfold numK at hq
    split at hq
    case h_2 => cases hq
    rename_i s u hu
    have hpk := PkS.un_pack hu
    subst hpk
    cases h1 : decide (s.size ≤ 18) with
    | false => rw [h1] at hq; cases hq
    | true =>
    rw [h1] at hq
    have hs := of_decide_eq_true h1
    have hq' := Option.some.inj hq
    subst hq'
    have ha : All2 (AVRel (AtomRel Z.w (Stab Z (ptab []) H Z.w) (ptab []) H)) [.one (.str s)] vals.toList := hp.args
    obtain ⟨u0, hvals⟩ : ∃ u0, vals = #[u0] := by
      have := ha.length
      simp only [List.length_cons, List.length_nil, Array.length_toList] at this
      exact ⟨vals[0], by
        refine Array.ext (by simp [← this]) fun i hi1 hi2 => ?_
        match i, hi2 with | 0, _ => rfl⟩
    subst hvals
    have e0 : u0 = .string s := ha.1
    obtain ⟨ht, hS⟩ := Z.gl.tab hG named0
    obtain ⟨ev, hv1, hv2⟩ := gl_err Z.gl hE
    refine Does.of_calls hf hb hn ?_
    rw [e0]
    refine Calls.mono (number_all s Z.w hs ht (Z.old _ hS).1 ev hv1 hv2) fun e w' he => ?_
    obtain ⟨rfl, hB⟩ := he
    exact ⟨_, rfl, H, pk_flat hB (fun S rt' => ⟨_, rfl, rfl, rfl, trivial⟩) fun S rt' => ⟨trivial, trivial⟩⟩
end Go.Am
