/- Rows sorted where they lie, and rows grown, by the shelf's contracts; how these lie at the seat's program. -/
import Derived.Test.YtfodnlonkningaaAmB
import Derived.Test.YtfodnlonkningaaChecked
import Derived.Shelf.SlSortCmp.NoneTotal
import Derived.Shelf.SlicesG.Cmp
import Derived.Shelf.Spec.SlicesGrow
import Derived.Shelf.Sort.Plain
import Derived.Shelf.Slices.In.SortNone
import Derived.KernelRfl
import Derived.Tactics
import Derived.Tactics2
import Derived.WalkKit
import Derived.WalkSpells
import Derived.StillTactics
import Derived.Laws.Pointers
import Derived.Deep.RegionHeld3
set_option linter.unusedVariables false
set_option linter.unusedSimpArgs false
set_option maxHeartbeats 2000000
set_option maxRecDepth 100000
namespace Go.Proofs
open Go.RowKit Go.Lib Go.Shelf Go.Sort

def renSort : Go.Shelf.Ren := ⟨fun n => match n with
  | 189 => 64
  | 125 => 60
  | 257 => 78
  | 128 => 76
  | 129 => 77
  | 294 => 84
  | 295 => 85
  | 296 => 86
  | 297 => 87
  | 298 => 88
  | 299 => 89
  | 216 => 90
  | 300 => 91
  | 301 => 92
  | 328 => 94
  | 329 => 80
  | 330 => 81
  | 331 => 95
  | 332 => 96
  | 215 => 61
  | 343 => 97
  | n => n, fun n => match n with
  | 28 => 41
  | 3 => 3
  | 46 => 83
  | 0 => 0
  | 51 => 97
  | 53 => 52
  | 4 => 4
  | 183 => 91
  | 182 => 90
  | 131 => 32
  | 5 => 5
  | 9 => 9
  | 218 => 100
  | 222 => 104
  | 228 => 111
  | 229 => 112
  | n => n, fun n => n⟩
theorem laysSort : Go.Proofs.Lays.n189 Try.prog renSort where
  mixed := by kernel_rfl
  f125 := by kernel_rfl
  f128 := by kernel_rfl
  f129 := by kernel_rfl
  f189 := by kernel_rfl
  f215 := by kernel_rfl
  f216 := by kernel_rfl
  f257 := by kernel_rfl
  f294 := by kernel_rfl
  f295 := by kernel_rfl
  f296 := by kernel_rfl
  f297 := by kernel_rfl
  f298 := by kernel_rfl
  f299 := by kernel_rfl
  f300 := by kernel_rfl
  f301 := by kernel_rfl
  f328 := by kernel_rfl
  f329 := by kernel_rfl
  f330 := by kernel_rfl
  f331 := by kernel_rfl
  f332 := by kernel_rfl
  f343 := by kernel_rfl
  t0 := by kernel_rfl
  a0 w := by kernel_rfl
  z0 w := by kernel_rfl
  v0 w := by kernel_rfl
  t3 := by kernel_rfl
  a3 w := by kernel_rfl
  z3 w := by kernel_rfl
  v3 w := by kernel_rfl
  t4 := by kernel_rfl
  a4 w := by kernel_rfl
  z4 w := by kernel_rfl
  v4 w := by kernel_rfl
  t5 := by kernel_rfl
  a5 w := by kernel_rfl
  z5 w := by kernel_rfl
  v5 w := by kernel_rfl
  t9 := by kernel_rfl
  a9 w := by kernel_rfl
  z9 w := by kernel_rfl
  v9 w := by kernel_rfl
  t28 := by kernel_rfl
  a28 w := by kernel_rfl
  z28 w := by kernel_rfl
  v28 w := by kernel_rfl
  t46 := by kernel_rfl
  a46 w := by kernel_rfl
  z46 w := by kernel_rfl
  v46 w := by kernel_rfl
  t51 := by kernel_rfl
  a51 w := by kernel_rfl
  z51 w := by kernel_rfl
  v51 w := by kernel_rfl
  t53 := by kernel_rfl
  a53 w := by kernel_rfl
  z53 w := by kernel_rfl
  v53 w := by kernel_rfl
  t131 := by kernel_rfl
  a131 w := by kernel_rfl
  z131 w := by kernel_rfl
  v131 w := by kernel_rfl
  t182 := by kernel_rfl
  a182 w := by kernel_rfl
  z182 w := by kernel_rfl
  v182 w := by kernel_rfl
  t183 := by kernel_rfl
  a183 w := by kernel_rfl
  z183 w := by kernel_rfl
  v183 w := by kernel_rfl
  t218 := by kernel_rfl
  a218 w := by kernel_rfl
  z218 w := by kernel_rfl
  v218 w := by kernel_rfl
  t222 := by kernel_rfl
  a222 w := by kernel_rfl
  z222 w := by kernel_rfl
  v222 w := by kernel_rfl
  t228 := by kernel_rfl
  a228 w := by kernel_rfl
  z228 w := by kernel_rfl
  v228 w := by kernel_rfl
  t229 := by kernel_rfl
  a229 w := by kernel_rfl
  z229 w := by kernel_rfl
  v229 w := by kernel_rfl
def renSF : Go.Shelf.Ren := ⟨fun n => match n with
  | 6 => 37
  | 15 => 60
  | 14 => 59
  | 28 => 76
  | 29 => 77
  | 20 => 68
  | 21 => 69
  | 22 => 70
  | 23 => 71
  | 24 => 72
  | 25 => 73
  | 26 => 74
  | 27 => 75
  | 46 => 79
  | 47 => 80
  | 48 => 81
  | 49 => 82
  | 50 => 83
  | 57 => 93
  | n => n, fun n => match n with
  | 22 => 34
  | 24 => 27
  | 25 => 67
  | 3 => 3
  | 39 => 83
  | 0 => 0
  | 53 => 97
  | 55 => 52
  | 4 => 4
  | 46 => 91
  | 45 => 90
  | 50 => 32
  | 5 => 5
  | 9 => 9
  | 66 => 100
  | 70 => 104
  | 76 => 111
  | 77 => 112
  | n => n, fun n => n⟩
theorem laysSF : Go.Proofs.SlLaysF0.n6 Try.prog renSF where
  mixed := by kernel_rfl
  f6 := ⟨ "slices.SortFunc[[]loop.example/g00269/impl.Timer,loop.example/g00269/impl.Timer]", by kernel_rfl, by kernel_rfl⟩
  f14 := ⟨ "slices.pdqsortCmpFunc[loop.example/g00269/impl.Timer]", by kernel_rfl, by kernel_rfl⟩
  f15 := by kernel_rfl
  f20 := ⟨ "slices.insertionSortCmpFunc[loop.example/g00269/impl.Timer]", by kernel_rfl, by kernel_rfl⟩
  f21 := ⟨ "slices.heapSortCmpFunc[loop.example/g00269/impl.Timer]", by kernel_rfl, by kernel_rfl⟩
  f22 := ⟨ "slices.breakPatternsCmpFunc[loop.example/g00269/impl.Timer]", by kernel_rfl, by kernel_rfl⟩
  f23 := ⟨ "slices.choosePivotCmpFunc[loop.example/g00269/impl.Timer]", by kernel_rfl, by kernel_rfl⟩
  f24 := ⟨ "slices.reverseRangeCmpFunc[loop.example/g00269/impl.Timer]", by kernel_rfl, by kernel_rfl⟩
  f25 := ⟨ "slices.partialInsertionSortCmpFunc[loop.example/g00269/impl.Timer]", by kernel_rfl, by kernel_rfl⟩
  f26 := ⟨ "slices.partitionEqualCmpFunc[loop.example/g00269/impl.Timer]", by kernel_rfl, by kernel_rfl⟩
  f27 := ⟨ "slices.partitionCmpFunc[loop.example/g00269/impl.Timer]", by kernel_rfl, by kernel_rfl⟩
  f28 := by kernel_rfl
  f29 := by kernel_rfl
  f46 := ⟨ "slices.siftDownCmpFunc[loop.example/g00269/impl.Timer]", by kernel_rfl, by kernel_rfl⟩
  f47 := by kernel_rfl
  f48 := by kernel_rfl
  f49 := ⟨ "slices.medianAdjacentCmpFunc[loop.example/g00269/impl.Timer]", by kernel_rfl, by kernel_rfl⟩
  f50 := ⟨ "slices.medianCmpFunc[loop.example/g00269/impl.Timer]", by kernel_rfl, by kernel_rfl⟩
  f57 := ⟨ "slices.order2CmpFunc[loop.example/g00269/impl.Timer]", by kernel_rfl, by kernel_rfl⟩
  t0 := by kernel_rfl
  a0 w := by kernel_rfl
  z0 w := by kernel_rfl
  v0 w := by kernel_rfl
  t3 := by kernel_rfl
  a3 w := by kernel_rfl
  z3 w := by kernel_rfl
  v3 w := by kernel_rfl
  t4 := by kernel_rfl
  a4 w := by kernel_rfl
  z4 w := by kernel_rfl
  v4 w := by kernel_rfl
  t5 := by kernel_rfl
  a5 w := by kernel_rfl
  z5 w := by kernel_rfl
  v5 w := by kernel_rfl
  t9 := by kernel_rfl
  a9 w := by kernel_rfl
  z9 w := by kernel_rfl
  v9 w := by kernel_rfl
  t22 := by kernel_rfl
  a22 w := by kernel_rfl
  z22 w := by kernel_rfl
  v22 w := by kernel_rfl
  t25 := by kernel_rfl
  a25 w := by kernel_rfl
  z25 w := by kernel_rfl
  v25 w := by kernel_rfl
  t39 := by kernel_rfl
  a39 w := by kernel_rfl
  z39 w := by kernel_rfl
  v39 w := by kernel_rfl
  t45 := by kernel_rfl
  a45 w := by kernel_rfl
  z45 w := by kernel_rfl
  v45 w := by kernel_rfl
  t46 := by kernel_rfl
  a46 w := by kernel_rfl
  z46 w := by kernel_rfl
  v46 w := by kernel_rfl
  t50 := by kernel_rfl
  a50 w := by kernel_rfl
  z50 w := by kernel_rfl
  v50 w := by kernel_rfl
  t53 := by kernel_rfl
  a53 w := by kernel_rfl
  z53 w := by kernel_rfl
  v53 w := by kernel_rfl
  t55 := by kernel_rfl
  a55 w := by kernel_rfl
  z55 w := by kernel_rfl
  v55 w := by kernel_rfl
  t66 := by kernel_rfl
  a66 w := by kernel_rfl
  z66 w := by kernel_rfl
  v66 w := by kernel_rfl
  t70 := by kernel_rfl
  a70 w := by kernel_rfl
  z70 w := by kernel_rfl
  v70 w := by kernel_rfl
  t76 := by kernel_rfl
  a76 w := by kernel_rfl
  z76 w := by kernel_rfl
  v76 w := by kernel_rfl
  t77 := by kernel_rfl
  a77 w := by kernel_rfl
  z77 w := by kernel_rfl
  v77 w := by kernel_rfl
def renCmp : Go.Shelf.Ren := ⟨fun n => match n with
  | 5 => 40
  | 7 => 61
  | n => n, fun n => match n with
  | 22 => 3
  | 3 => 3
  | 4 => 4
  | n => n, fun n => n⟩
theorem laysCmp : Go.Proofs.SlLaysC2.n5 Try.prog renCmp where
  mixed := by kernel_rfl
  f5 := ⟨ "cmp.Compare[int]", by kernel_rfl, by kernel_rfl⟩
  f7 := ⟨ "cmp.isNaN[int]", by kernel_rfl, by kernel_rfl⟩
  t3 := by kernel_rfl
  a3 w := by kernel_rfl
  z3 w := by kernel_rfl
  v3 w := by kernel_rfl
  t4 := by kernel_rfl
  a4 w := by kernel_rfl
  z4 w := by kernel_rfl
  v4 w := by kernel_rfl
  t22 := by kernel_rfl
  a22 w := by kernel_rfl
  z22 w := by kernel_rfl
  v22 w := by kernel_rfl
def renGrow : Go.Shelf.Ren := ⟨fun n => match n with
  | 4 => 67
  | n => n, fun n => match n with
  | 22 => 34
  | 25 => 27
  | 3 => 3
  | 4 => 4
  | 9 => 9
  | 20 => 20
  | 0 => 0
  | 2 => 3
  | n => n, fun n => n⟩
theorem laysGrow : Go.Proofs.Lays8.n4 Try.prog renGrow where
  mixed := by kernel_rfl
  f4 := ⟨ "slices.Grow[[]loop.example/g00269/impl.Timer,loop.example/g00269/impl.Timer]", by kernel_rfl, by kernel_rfl⟩
  t0 := by kernel_rfl
  a0 w := by kernel_rfl
  z0 w := by kernel_rfl
  v0 w := by kernel_rfl
  t3 := by kernel_rfl
  a3 w := by kernel_rfl
  z3 w := by kernel_rfl
  v3 w := by kernel_rfl
  t4 := by kernel_rfl
  a4 w := by kernel_rfl
  z4 w := by kernel_rfl
  v4 w := by kernel_rfl
  t9 := by kernel_rfl
  a9 w := by kernel_rfl
  z9 w := by kernel_rfl
  v9 w := by kernel_rfl
  t20 := by kernel_rfl
  a20 w := by kernel_rfl
  z20 w := by kernel_rfl
  v20 w := by kernel_rfl
  t22 := by kernel_rfl
  a22 w := by kernel_rfl
  z22 w := by kernel_rfl
  v22 w := by kernel_rfl

/-- The first of two numbers that is not 0. -/
def or2 (x y : Int) : Int := if x ≠ 0 then x else y
theorem or_walk (b : Nat) (x y : Int) (w : World) (h0 : w.cell? ⟨b, 0, none⟩ = some (.int .i64 x)) (h1 : w.cell? ⟨b, 1, none⟩ = some (.int .i64 y)) :
    Calls Try.prog 39 #[.slice (some ⟨b, 0, none⟩) 2 2] w fun e w' => e = .returned (.int .i64 (or2 x y)) ∧ w' = w := by
  go_enter Try.func39, Try.ntmps39
  go_wp2
  go_loop [8] (fun i => ∃ j : Nat, i = .int .i64 j ∧ (j = 0 ∨ (j = 1 ∧ x = 0) ∨ (j = 2 ∧ x = 0 ∧ y = 0))) (fun i => 2 - (intOf i).toNat)
  case atStart => exact ⟨0, rfl, .inl rfl⟩
  case round =>
    obtain ⟨j, rfl, rfl | ⟨rfl, rfl⟩ | ⟨rfl, rfl, rfl⟩⟩ := hrel
    · by_cases hx : x = 0
      · subst hx
        go_wp2
        go_round
        case rel => exact ⟨1, rfl, .inr (.inl ⟨rfl, trivial⟩)⟩
        case measure => simp [intOf]
      · go_wp2
        go_ret
        exact ⟨by simp [or2, hx], rfl⟩
    · by_cases hy : y = 0
      · subst hy
        go_wp2
        go_round
        case rel => exact ⟨2, rfl, .inr (.inr ⟨rfl, trivial, trivial⟩)⟩
        case measure => simp [intOf]
      · go_wp2
        go_ret
        exact ⟨by simp [or2], rfl⟩
    · go_wp2
      go_ret
      exact ⟨by simp [or2], rfl⟩
theorem cl_walk (p q : Int × Int) (w : World) :
    Calls Try.prog 38 #[.agg #[.int .i64 p.1, .int .i64 p.2], .agg #[.int .i64 q.1, .int .i64 q.2]] w fun e w' =>
      e = .returned (.int .i64 (or2 (Lib.compareInt p.1 q.1) (Lib.compareInt p.2 q.2))) ∧ ∃ d os', w' = grow (w.drewN d) os' := by
  have hc := fun a b W' => AnyG.cmp_Compare_int laysCmp a b W'
  change ∀ a b W', Calls Try.prog 40 _ _ _ at hc
  generalize Lib.compareInt = f at hc ⊢
  go_enter Try.func38, Try.ntmps38
  go_wp2
  go_region_held3 (fun w' => w'.cell? ⟨w.heap.size, 0, none⟩ = some (.int .i64 p.1) ∧ w'.cell? ⟨w.heap.size, 1, none⟩ = some (.int .i64 p.2) ∧ w'.cell? ⟨w.heap.size + 1, 0, none⟩ = some (.int .i64 q.1) ∧ w'.cell? ⟨w.heap.size + 1, 1, none⟩ = some (.int .i64 q.2)) (simp [go_sem, World.cell?_alloc_past])
    (first | (go_at_call 40; refine (hc _ _ _).mono ?_; rintro e w' ⟨rfl, rfl⟩) | (go_at_call 39; refine (or_walk _ (f p.1 q.1) (f p.2 q.2) _ (by simp [go_sem]) (by simp [go_sem])).mono ?_; rintro e w' ⟨rfl, rfl⟩))
  all_goals go_wp2
  go_ret
  exact ⟨rfl, 1, _, by rw [alloc_eq_grow, alloc_eq_grow, alloc_eq_grow, grow_grow, grow_grow]; rfl⟩
/-- How timers are ordered. -/
def cmpT (p q : Int × Int) : Int := or2 (Lib.compareInt p.1 q.1) (Lib.compareInt p.2 q.2)
theorem ltT (p q : Int × Int) : ltOf cmpT p q = (decide (p.1 < q.1) || (p.1 == q.1 && decide (p.2 < q.2))) := by
  unfold ltOf cmpT or2 Lib.compareInt
  by_cases h1 : p.1 < q.1
  · simp [h1]
  · by_cases h2 : q.1 < p.1
    · have h3 : ¬ p.1 = q.1 := by omega
      simp [h1, h2, h3]
    · have h3 : p.1 = q.1 := by omega
      by_cases h4 : p.2 < q.2
      · simp [h3, h4]
      · by_cases h5 : q.2 < p.2 <;> simp [h3, h4, h5]
theorem swoT : SWO (ltOf cmpT) where
  irrefl x := by rw [ltT]; simp
  trans x y z h1 h2 := by rw [ltT] at *; simp at *; omega
  ntrans x y z h1 h2 := by rw [ltT] at *; simp at *; omega
theorem totT (x y : Int × Int) (h1 : ltOf cmpT x y = false) (h2 : ltOf cmpT y x = false) : x = y := by
  rw [ltT] at h1 h2
  simp at h1 h2
  apply Prod.ext <;> omega
theorem leTT (x y : Int × Int) : (!(ltOf cmpT y x)) = (decide (x.1 < y.1) || (x.1 == y.1 && decide (x.2 ≤ y.2))) := by
  rw [ltT]
  apply Bool.eq_iff_iff.2
  simp
  omega
def encT (x : Int × Int) : List Value := [.int .i64 x.1, .int .i64 x.2]
theorem cmpLaysT (blk off size : Nat) (w : World) : CmpLays Try.prog 38 #[] encT 2 cmpT blk off size w := fun _ _ _ _ x y => cl_walk x y _
theorem isAgg27 : ∀ w, (isAgg 27).run Try.prog w = .ok true w := fun w => by kernel_rfl
theorem sizeOf27 : ∀ w, (Go.sizeOf 27).run Try.prog w = .ok 2 w := fun w => by kernel_rfl
theorem sortF_walk (blk off cap : Nat) (d : Array (Int × Int)) (w : World) (hH : HoldsK encT 2 w blk off d) (hblk : blk < w.heap.size) (hsz : d.size < 4611686018427387904) :
    Calls Try.prog 37 #[.slice (some ⟨blk, off, none⟩) d.size cap, .func (.func 38) #[] #[]] w fun e w' =>
      e = .returned (.tuple #[]) ∧ ∃ n os, w' = grow (putRow id (Sort.ahead w n) blk off (flatK encT 2 (d.toList.mergeSort fun a b => decide (a.1 < b.1) || (a.1 == b.1 && decide (a.2 ≤ b.2))).toArray)) os := by
  have h := AnyQ.slices_SortFunc_total laysSF 2 isAgg27 sizeOf27 encT (fun _ => rfl) (fun x v hv => by simp [encT] at hv; rcases hv with rfl | rfl <;> rfl) cmpT swoT 38 #[] blk off cap d w (enters_of Try.func38 (by kernel_rfl) rfl) (cmpLaysT blk off d.size w) hH hblk hsz totT
  change Calls Try.prog 37 _ _ _ at h
  rw [show (fun x y => !(ltOf cmpT) y x) = (fun a b : Int × Int => decide (a.1 < b.1) || (a.1 == b.1 && decide (a.2 ≤ b.2))) from funext fun x => funext fun y => leTT x y] at h
  exact h
theorem sortF_none (p : Option Addr) (cap : Nat) (v : Value) (w : World) : Calls Try.prog 37 #[.slice p 0 cap, v] w fun e w' => e = .returned (.tuple #[]) ∧ w' = w := AnyF.slices_SortFunc_none laysSF p cap v w
theorem sortI_walk (blk off cap : Nat) (zs : List Int) (w : World) (hH : Holds (Value.int .i64) w blk off zs.toArray) (hblk : blk < w.heap.size) (hsz : zs.length < 4611686018427387904) :
    Calls Try.prog 64 #[.slice (some ⟨blk, off, none⟩) zs.length cap] w fun e w' =>
      e = .returned (.tuple #[]) ∧ ∃ n os, w' = grow (putRow (Value.int .i64) (Sort.ahead w n) blk off (zs.mergeSort fun x y => decide (x ≤ y)).toArray) os := Any.slices_Sort_int laysSort blk off cap zs w hH hblk hsz
theorem sortI_none (p : Option Addr) (cap : Nat) (w : World) : Calls Try.prog 64 #[.slice p 0 cap] w fun e w' => e = .returned (.tuple #[]) ∧ w' = w := Any.slices_Sort_int_none laysSort p cap w
theorem info27 : ((Try.prog.info? 27).map fun i => (i.zero, i.size, i.bytes)) = some (some (.agg #[.int .i64 0, .int .i64 0]), 2, 16) := by kernel_rfl
theorem grow_room (base : Option Addr) (l c n : Nat) (w : World) (hlc : l ≤ c) (hc63 : c ≤ 9223372036854775807) (hn63 : n ≤ 9223372036854775807) (hroom : l + n ≤ c) :
    Calls Try.prog 67 #[.slice base l c, .int .i64 n] w fun e w' => e = .returned (.slice base l c) ∧ w' = w := Any8.slices_Grow_room laysGrow base l c n w hlc hc63 hn63 hroom
theorem grow_grow' (base : Option Addr) (l c n : Nat) (cs : List Value) (w : World) (hlc : l ≤ c) (hroom : c < l + n) (hbig : (l + n) * 16 ≤ 140737488355328) (h63 : l + n ≤ 4611686018427387904)
    (hcl : cs.length = c * 2) (hnil : base = none → c = 0) (hcs : ∀ a, base = some a → ∀ j v, cs[j]? = some v → w.cell? (a.add j) = some v) :
    Calls Try.prog 67 #[.slice base l c, .int .i64 n] w fun e w' => ∃ zs : Array Value, zs.size = 2 * (grownCap w (l + n) c 27 - c) ∧ e = .returned (.slice (some ⟨w.heap.size, 0, none⟩) l (grownCap w (l + n) c 27)) ∧
      w' = w.drew.alloc (.cells (cs.toArray ++ zs) 27) := by
  have hi := info27
  cases h : Try.prog.info? 27 with
  | none => rw [h] at hi; cases hi
  | some i0 =>
    rw [h] at hi
    simp only [Option.map_some, Option.some.injEq, Prod.mk.injEq] at hi
    obtain ⟨h1, h2, h3⟩ := hi
    have := Any8.slices_Grow_grow laysGrow i0 _ h h1 (by rw [h2]; omega) base l c n cs w hlc hroom (by rw [h3]; exact hbig) h63 (by rw [h2]; exact hcl) hnil hcs
    refine Calls.mono this fun e w' he => ⟨Builtin.zeroCells (Value.agg #[.int .i64 0, .int .i64 0]).cells (l + n - c) ++ Builtin.zeroCells (Value.agg #[.int .i64 0, .int .i64 0]).cells (grownCap w (l + n) c 27 - (l + n)), ?_, he.1, he.2.trans (by rw [Array.append_assoc]; rfl)⟩
    have hge := grownCap_ge w (l + n) c 27
    have zs : ∀ k, (Builtin.zeroCells (Value.agg #[.int .i64 0, .int .i64 0]).cells k).size = 2 * k := fun k => by simp [Builtin.zeroCells, Value.cells, Nat.mul_comm]
    change grownCap w (l + n) c 27 ≥ l + n at hge
    rw [Array.size_append, zs, zs]
    show _ + 2 * (grownCap w (l + n) c 27 - (l + n)) = _
    omega
end Go.Proofs
namespace Go.Am
open Go

/-! ### Rows that have been sorted where they lie; rows that have grown -/

theorem mem_one {Z : Base} {rt : Roots} {H : Gh} {e : Kd} {ys : List e.den} {g : Value} {w' : World} (hm : Mem Z rt H Z.w) (hg : ∀ S : Nat → Prop, ArrOk w' S e ys g)
    (hb : ∀ b, Bk g b → Owns rt H b ∨ Z.w.heap.size ≤ b) (hos : w'.os = Z.w.os) (htp : w'.tape = Z.w.tape) (hout : w'.output = Z.w.output) (hsz : Z.w.heap.size ≤ w'.heap.size)
    (hk : ∀ c, c < Z.w.heap.size → ¬ Owns rt H c → w'.heap[c]? = Z.w.heap[c]?) : Mem Z (ptab [((300000, 0), .arr e ys)]) (fun _ => g) w' := by
  have hl : ∀ r x, look (ptab [((300000, 0), .arr e ys)]) r = some (some x) → r = (300000, 0) ∧ x = .arr e ys := by
    intro r x h
    simp only [ptab, List.map_cons, List.map_nil, look] at h
    cases hb : Rid.beq r (300000, 0) with
    | true => rw [hb] at h; simp at h; exact ⟨Rid.eq_of_beq hb, h.symm⟩
    | false => rw [hb] at h; simp at h
  refine ⟨fun r x h => ?_, fun r r' x x' b h h' _ _ _ _ => by rw [(hl r x h).1, (hl r' x' h').1], fun b ⟨r, x, h, _, h2⟩ => ?_, ⟨hos, htp, hout, hsz, fun b h1 h2 => hk b h1 fun h3 => ?_⟩⟩
  · obtain ⟨rfl, rfl⟩ := hl r x h
    exact hg _
  · rcases hb b h2 with h3 | h3
    · exact hm.base b h3
    · exact .inr h3
  · rcases hm.base b h3 with h4 | h4
    · exact h2 h4
    · omega
theorem whole_one {w : World} {S : Nat → Prop} {e : Kd} {ys : List e.den} {g : Value} (hg : ArrOk w S e ys g) : AVRel (AtomRel w S (ptab [((300000, 0), .arr e ys)]) (fun _ => g)) (.one (.whole (300000, 0))) g :=
  show RowRel (ptab [((300000, 0), .arr e ys)]) (300000, 0) (g.oneCell' = true) (fun _ _ => g = g) from ⟨rfl, by
    rcases hg with ⟨_, a, h⟩ | ⟨b, off, cap, cells, t, h, _⟩ <;> rw [h] <;> rfl⟩

/-- A row's block with other things laid in. -/
theorem put_block {α : Type} [Inhabited α] (enc : α → Value) {w : World} {blk off : Nat} {d : Array α} {c : Array Value} {t : TypeId} {fr : Nat × Nat} (n : Nat) (os : Array Obj) (h : w.heap[blk]? = some (.cells c t fr)) (hs : off + d.size ≤ c.size) :
    ∃ c', (Sort.grow (Sort.putRow enc (Sort.ahead w n) blk off d) os).heap[blk]? = some (.cells c' t fr) ∧ c'.size = c.size ∧ ∀ j, j < d.size → c'[off + j]? = some (enc d[j]!) := by
  refine ⟨Sort.putCells enc off d c, ?_, by simp [Sort.putCells], fun j hj => ?_⟩
  · have hlt : blk < w.heap.size := (Array.getElem?_eq_some_iff.1 h).1
    show (w.heap.modify blk (Sort.onCells (Sort.putCells enc off d)) ++ os)[blk]? = _
    rw [Array.getElem?_append_left (by simpa using hlt), Array.getElem?_modify, if_pos rfl, h]
    rfl
  · rw [Sort.putCells, Array.getElem?_mapIdx, Array.getElem?_eq_getElem (show off + j < c.size by omega)]
    show some (if off ≤ off + j ∧ off + j < off + d.size then enc d[off + j - off]! else c[off + j]) = _
    rw [if_pos ⟨by omega, by omega⟩, show off + j - off = j by omega]
theorem put_other {α : Type} [Inhabited α] (enc : α → Value) (w : World) (blk off : Nat) (d : Array α) (n : Nat) (os : Array Obj) (c : Nat) (hc : c ≠ blk) (hl : c < w.heap.size) :
    (Sort.grow (Sort.putRow enc (Sort.ahead w n) blk off d) os).heap[c]? = w.heap[c]? := by
  show (w.heap.modify blk (Sort.onCells (Sort.putCells enc off d)) ++ os)[c]? = _
  rw [Array.getElem?_append_left (by simpa using hl), Array.getElem?_modify, if_neg fun e => hc e.symm]
theorem put_size {α : Type} [Inhabited α] (enc : α → Value) (w : World) (blk off : Nat) (d : Array α) (n : Nat) (os : Array Obj) : w.heap.size ≤ (Sort.grow (Sort.putRow enc (Sort.ahead w n) blk off d) os).heap.size := by
  show _ ≤ (w.heap.modify blk (Sort.onCells (Sort.putCells enc off d)) ++ os).size
  simp

abbrev KT : Kd := .pr (.int .i64) (.int .i64)
theorem elts_T {w : World} {S : Nat → Prop} {cells : Array Value} {off : Nat} {xs : List (Int × Int)} (h : Elts cells off 2 (Rd w S KT) xs) {i : Nat} {x : Int × Int} (hx : xs[i]? = some x) :
    cells[off + i * 2]? = some (.int .i64 x.1) ∧ cells[off + i * 2 + 1]? = some (.int .i64 x.2) := by
  obtain ⟨cs, ⟨c1, c2, rfl, h1, h2⟩, h3⟩ := h i x hx
  have h1' : c1 = [.int .i64 x.1] := h1
  have h2' : c2 = [.int .i64 x.2] := h2
  subst h1' h2'
  exact ⟨by simpa using h3 0 _ rfl, h3 1 _ rfl⟩
theorem T_elts {w : World} {S : Nat → Prop} {cells : Array Value} {off : Nat} {xs : List (Int × Int)} (h : ∀ (i : Nat) (x : Int × Int), xs[i]? = some x → cells[off + i * 2]? = some (.int .i64 x.1) ∧ cells[off + i * 2 + 1]? = some (.int .i64 x.2)) : Elts cells off 2 (Rd w S KT) xs := by
  intro i x hx
  refine ⟨[.int .i64 x.1, .int .i64 x.2], ⟨[.int .i64 x.1], [.int .i64 x.2], rfl, rfl, rfl⟩, fun j v hv => ?_⟩
  have := h i x hx
  match j, hv with
  | 0, hv => rw [show v = .int .i64 x.1 from (Option.some.inj hv).symm]; simpa using this.1
  | 1, hv => rw [show v = .int .i64 x.2 from (Option.some.inj hv).symm]; simpa using this.2
theorem flat_T {d : Array (Int × Int)} {i : Nat} (hi : i < d.size) : (Sort.flatK Proofs.encT 2 d)[i * 2]! = .int .i64 d[i]!.1 ∧ (Sort.flatK Proofs.encT 2 d)[i * 2 + 1]! = .int .i64 d[i]!.2 := by
  rw [Sort.get_flatK _ _ _ _ (by omega), Sort.get_flatK _ _ _ _ (by omega), show i * 2 / 2 = i by omega, show i * 2 % 2 = 0 by omega, show (i * 2 + 1) / 2 = i by omega, show (i * 2 + 1) % 2 = 1 by omega]
  exact ⟨rfl, rfl⟩
theorem getBang {α : Type} [Inhabited α] {xs : List α} {i : Nat} {x : α} (h : xs[i]? = some x) : xs.toArray[i]! = x := by
  obtain ⟨h1, h2⟩ := List.getElem?_eq_some_iff.1 h
  simp [h1, h2]

@[reducible] def sortIS : PkS := ⟨[.one (.whole (200000, 0))], [((200000, 0), .arr (.int .i64))]⟩
def sortIOut (xs : List Int) : Pk := ⟨[.tup [], .one (.whole (300000, 0))], [((300000, 0), .arr (.int .i64) xs)]⟩
def sortIK : KPs := fun R p k => match (PkS.un sortIS p : Option (List Int × Unit)) with
  | some (xs, _) => bif decide (xs.length ≤ LIM) then k (sortIOut (xs.mergeSort fun a b => decide (a ≤ b))) else none
  | none => none
@[reducible] def sortTS : PkS := ⟨[.one (.whole (200000, 0)), .one (.fn 38 [])], [((200000, 0), .arr KT)]⟩
def sortTOut (xs : List (Int × Int)) : Pk := ⟨[.tup [], .one (.whole (300000, 0)), .one .dead], [((300000, 0), .arr KT xs)]⟩
def leTW (a b : Int × Int) : Bool := decide (a.1 < b.1) || (a.1 == b.1 && decide (a.2 ≤ b.2))
def sortTK : KPs := fun R p k => match (PkS.un sortTS p : Option (List (Int × Int) × Unit)) with
  | some (xs, _) => bif decide (xs.length ≤ LIM) then k (sortTOut (xs.mergeSort leTW)) else none
  | none => none
@[reducible] def growTS : PkS := ⟨[.one (.whole (200000, 0)), .one (.int .i64)], [((200000, 0), .arr KT)]⟩
def growTOut (xs : List (Int × Int)) : Pk := ⟨[.one (.whole (300000, 0)), .one .dead, .one .dead], [((300000, 0), .arr KT xs)]⟩
def growTK : KPs := fun R p k => match (PkS.un growTS p : Option (Int × List (Int × Int) × Unit)) with
  | some (n, xs, _) => bif decide (0 ≤ n) && decide (xs.length + Int.toNat n ≤ LIM) then k (growTOut xs) else none
  | none => none

theorem sortI_ok {fn : Func} {c : Code} (hf : Proofs.Try.prog.funcs[64]? = some fn) (hb : fn.body = some c) (hn : (fn.name == "runtime.NumGoroutine") = false) : FnOk Proofs.Try.prog 64 sortIK where
  nat R S' g p k := by
    unfold sortIK
    split
    · rename_i xs _ _
      cases decide (xs.length ≤ LIM) <;> rfl
    · rfl
  ok p q hq Z vals H hv hp := by
    unfold sortIK at hq
    split at hq
    case h_2 => cases hq
    rename_i xs u hu
    have hpk := PkS.un_pack hu
    subst hpk
    cases hcond : decide (xs.length ≤ LIM) with
    | false => rw [hcond] at hq; cases hq
    | true =>
      rw [hcond] at hq
      have hlim : xs.length ≤ LIM := of_decide_eq_true hcond
      have hq' : sortIOut (xs.mergeSort fun a b => decide (a ≤ b)) = q := Option.some.inj hq
      subst hq'
      have hml : (xs.mergeSort fun a b => decide (a ≤ b)).length = xs.length := List.length_mergeSort _
      generalize hY : (xs.mergeSort fun a b => decide (a ≤ b)) = ys at hml ⊢
      let rt : Roots := ptab [((200000, 0), .arr (.int .i64) xs)]
      have ha : All2 (AVRel (AtomRel Z.w (Stab Z rt H Z.w) rt H)) [.one (.whole (200000, 0))] vals.toList := hp.args
      have hm : Mem Z rt H Z.w := hp.mem
      have l0 : look rt (200000, 0) = some (some (.arr (.int .i64) xs)) := rfl
      obtain ⟨u0, hvals⟩ : ∃ u0, vals = #[u0] := by
        have := ha.length
        simp only [List.length_cons, List.length_nil, Array.length_toList] at this
        exact ⟨vals[0], by apply Array.ext <;> simp [← this]; rintro i rfl; rfl⟩
      subst hvals
      have e0 : u0 = H (200000, 0) := RowRel.row (show RowRel rt (200000, 0) (u0.oneCell' = true) (fun _ _ => u0 = H (200000, 0)) from ha.1) (.inl ⟨rfl, l0⟩)
      have o0 : ArrOk Z.w (Stab Z rt H Z.w) (.int .i64) xs (H (200000, 0)) := hm.roots _ _ l0
      unfold LIM at hlim
      refine Does.of_calls hf hb hn ?_
      have fin : ∀ {w' : World}, (∀ S : Nat → Prop, ArrOk w' S (.int .i64) ys u0) → (∀ b, Bk u0 b → Owns rt H b ∨ Z.w.heap.size ≤ b) → w'.os = Z.w.os → w'.tape = Z.w.tape → w'.output = Z.w.output → Z.w.heap.size ≤ w'.heap.size →
          (∀ c, c < Z.w.heap.size → ¬ Owns rt H c → w'.heap[c]? = Z.w.heap[c]?) → ∃ v, Ending.returned (.tuple #[]) = .returned v ∧ ∃ H', PkOk Z (sortIOut ys) (v :: [u0]) w' H' :=
        fun h1 h2 h3 h4 h5 h6 h7 => ⟨_, rfl, fun _ => u0, ⟨⟨#[], rfl, trivial⟩, whole_one (h1 _), trivial⟩, mem_one hm h1 h2 h3 h4 h5 h6 h7⟩
      have own : ∀ b, Bk u0 b → Owns rt H b := fun b h => ⟨_, _, l0, rfl, by rw [← e0]; exact h⟩
      rcases o0 with ⟨h, ad, g1⟩ | ⟨b1, off1, cap1, cells1, t1, g1, c1, ⟨p1, q1⟩, m1, f1, el1⟩
      · subst h
        have hy0 : ys = [] := by simpa using hml
        subst hy0
        rw [← e0] at g1
        subst g1
        refine Calls.mono (Proofs.sortI_none ad 0 Z.w) fun e w' he => ?_
        obtain ⟨rfl, rfl⟩ := he
        exact fin (fun _ => .inl ⟨rfl, ad, rfl⟩) (fun b h => .inl (own b h)) rfl rfl rfl (Nat.le_refl _) fun _ _ _ => rfl
      · rw [← e0] at g1
        have el1 := elts_int el1
        have f1' : off1 + cap1 ≤ cells1.size := by simpa [Kd.size] using f1
        have hlt1 : b1 < Z.w.heap.size := (Array.getElem?_eq_some_iff.1 m1).1
        have hown : Owns rt H b1 := own b1 (by rw [g1]; simp [Bk, blkOf]; omega)
        subst g1
        refine Calls.mono (Proofs.sortI_walk b1 off1 cap1 xs Z.w (fun j hj => ⟨?_, by simp [World.frozen?, m1]⟩) hlt1 (by omega)) fun e w' he => ?_
        · have hj' : j < xs.length := by simpa using hj
          have hx : xs[j]? = some xs[j] := List.getElem?_eq_getElem hj'
          have := el1 j (.int .i64 xs[j]) (by rw [List.getElem?_map, hx]; rfl)
          rw [getBang hx]
          simp [World.cell?, m1, this]
        · obtain ⟨rfl, n, os, rfl⟩ := he
          rw [hY]
          obtain ⟨c', k1, k2, k3⟩ := put_block (Value.int .i64) (off := off1) (d := ys.toArray) n os m1 (by simp; omega)
          refine fin (fun S => .inr ⟨b1, off1, cap1, c', t1, by rw [hml], by omega, ⟨p1, q1⟩, k1, by simp [Kd.size]; omega, int_elts fun j v hv => ?_⟩) (fun b h => .inl (own b h)) rfl rfl rfl (put_size _ _ _ _ _ _ _)
            fun c h1 h2 => put_other _ _ _ _ _ _ _ c (fun h => h2 (h ▸ hown)) h1
          rw [List.getElem?_map] at hv
          obtain ⟨x, hx, rfl⟩ := Option.map_eq_some_iff.1 hv
          have := k3 j (by simpa using (List.getElem?_eq_some_iff.1 hx).1)
          rw [getBang hx] at this
          exact this

theorem sortT_ok {fn : Func} {c : Code} (hf : Proofs.Try.prog.funcs[37]? = some fn) (hb : fn.body = some c) (hn : (fn.name == "runtime.NumGoroutine") = false) : FnOk Proofs.Try.prog 37 sortTK where
  nat R S' g p k := by
    unfold sortTK
    split
    · rename_i xs _ _
      cases decide (xs.length ≤ LIM) <;> rfl
    · rfl
  ok p q hq Z vals H hv hp := by
    unfold sortTK at hq
    split at hq
    case h_2 => cases hq
    rename_i xs u hu
    have hpk := PkS.un_pack hu
    subst hpk
    cases hcond : decide (xs.length ≤ LIM) with
    | false => rw [hcond] at hq; cases hq
    | true =>
      rw [hcond] at hq
      have hlim : xs.length ≤ LIM := of_decide_eq_true hcond
      have hq' : sortTOut (xs.mergeSort leTW) = q := Option.some.inj hq
      subst hq'
      have hml : (xs.mergeSort leTW).length = xs.length := List.length_mergeSort _
      generalize hY : xs.mergeSort leTW = ys at hml ⊢
      let rt : Roots := ptab [((200000, 0), .arr KT xs)]
      have ha : All2 (AVRel (AtomRel Z.w (Stab Z rt H Z.w) rt H)) [.one (.whole (200000, 0)), .one (.fn 38 [])] vals.toList := hp.args
      have hm : Mem Z rt H Z.w := hp.mem
      have l0 : look rt (200000, 0) = some (some (.arr KT xs)) := rfl
      obtain ⟨u0, u1, hvals⟩ : ∃ u0 u1, vals = #[u0, u1] := by
        have := ha.length
        simp only [List.length_cons, List.length_nil, Array.length_toList] at this
        exact ⟨vals[0], vals[1], by apply Array.ext <;> simp [← this] ; intro i hi1 hi2; match i, hi2 with | 0, _ => rfl | 1, _ => rfl⟩
      subst hvals
      have e0 : u0 = H (200000, 0) := RowRel.row (show RowRel rt (200000, 0) (u0.oneCell' = true) (fun _ _ => u0 = H (200000, 0)) from ha.1) (.inl ⟨rfl, l0⟩)
      have e1 : u1 = .func (.func 38) #[] #[] := by
        obtain ⟨vs, h1, h2⟩ : ∃ vs : Array Value, u1 = .func (.func 38) #[] vs ∧ All2 (fun (rc : Rid × Nat) v => BoxRel rt H rc.1 rc.2 v) [] vs.toList := ha.2.1
        have h3 := h2.length
        have h4 : vs = #[] := by
          apply Array.ext'
          simpa using h3.symm
        rw [h1, h4]
      have o0 : ArrOk Z.w (Stab Z rt H Z.w) KT xs (H (200000, 0)) := hm.roots _ _ l0
      unfold LIM at hlim
      refine Does.of_calls hf hb hn ?_
      have fin : ∀ {w' : World}, (∀ S : Nat → Prop, ArrOk w' S KT ys u0) → (∀ b, Bk u0 b → Owns rt H b ∨ Z.w.heap.size ≤ b) → w'.os = Z.w.os → w'.tape = Z.w.tape → w'.output = Z.w.output → Z.w.heap.size ≤ w'.heap.size →
          (∀ c, c < Z.w.heap.size → ¬ Owns rt H c → w'.heap[c]? = Z.w.heap[c]?) → ∃ v, Ending.returned (.tuple #[]) = .returned v ∧ ∃ H', PkOk Z (sortTOut ys) (v :: [u0, u1]) w' H' :=
        fun h1 h2 h3 h4 h5 h6 h7 => ⟨_, rfl, fun _ => u0, ⟨⟨#[], rfl, trivial⟩, whole_one (h1 _), trivial, trivial⟩, mem_one hm h1 h2 h3 h4 h5 h6 h7⟩
      have own : ∀ b, Bk u0 b → Owns rt H b := fun b h => ⟨_, _, l0, rfl, by rw [← e0]; exact h⟩
      rcases o0 with ⟨h, ad, g1⟩ | ⟨b1, off1, cap1, cells1, t1, g1, c1, ⟨p1, q1⟩, m1, f1, el1⟩
      · subst h
        have hy0 : ys = [] := by simpa using hml
        subst hy0
        rw [← e0] at g1
        subst g1
        refine Calls.mono (Proofs.sortF_none ad 0 u1 Z.w) fun e w' he => ?_
        obtain ⟨rfl, rfl⟩ := he
        exact fin (fun _ => .inl ⟨rfl, ad, rfl⟩) (fun b h => .inl (own b h)) rfl rfl rfl (Nat.le_refl _) fun _ _ _ => rfl
      · rw [← e0] at g1
        have f1' : off1 + cap1 * 2 ≤ cells1.size := f1
        have hlt1 : b1 < Z.w.heap.size := (Array.getElem?_eq_some_iff.1 m1).1
        have hown : Owns rt H b1 := own b1 (by rw [g1]; simp [Bk, blkOf]; omega)
        subst g1
        rw [e1]
        have hw := Proofs.sortF_walk b1 off1 cap1 xs.toArray Z.w (fun j hj => ⟨?_, by simp [World.frozen?, m1]⟩) hlt1 (by simp; omega)
        · rw [show xs.toArray.size = xs.length by simp] at hw
          refine Calls.mono hw fun e w' he => ?_
          obtain ⟨rfl, n, os, rfl⟩ := he
          rw [show (xs.toArray.toList.mergeSort fun a b : Int × Int => decide (a.1 < b.1) || (a.1 == b.1 && decide (a.2 ≤ b.2))) = ys from hY]
          obtain ⟨c', k1, k2, k3⟩ := put_block id (off := off1) (d := Sort.flatK Proofs.encT 2 ys.toArray) n os m1 (by simp; omega)
          rw [← e1]
          refine fin (fun S => .inr ⟨b1, off1, cap1, c', t1, by rw [hml], by omega, ⟨p1, q1⟩, k1, by rw [k2]; exact f1, T_elts fun i x hx => ?_⟩) (fun b h => .inl (own b h)) rfl rfl rfl (put_size _ _ _ _ _ _ _)
            fun c h1 h2 => put_other _ _ _ _ _ _ _ c (fun h => h2 (h ▸ hown)) h1
          have hi := (List.getElem?_eq_some_iff.1 hx).1
          have h1 := k3 (i * 2) (by simp; omega)
          have h2 := k3 (i * 2 + 1) (by simp; omega)
          obtain ⟨h3, h4⟩ := flat_T (d := ys.toArray) (i := i) (by simpa using hi)
          rw [h3, getBang hx] at h1
          rw [h4, getBang hx] at h2
          exact ⟨h1, h2⟩
        · have hj' : j < xs.length * 2 := by simpa using hj
          have hi : j / 2 < xs.length := by omega
          have hx : xs[j / 2]? = some xs[j / 2] := List.getElem?_eq_getElem hi
          obtain ⟨a1, a2⟩ := elts_T el1 hx
          obtain ⟨h3, h4⟩ := flat_T (d := xs.toArray) (i := j / 2) (by simpa using hi)
          rw [getBang hx] at h3 h4
          rcases Nat.mod_two_eq_zero_or_one j with h | h
          · have hj2 : j / 2 * 2 = j := by omega
            rw [hj2] at a1 h3
            show Z.w.cell? _ = some ((Sort.flatK Proofs.encT 2 xs.toArray)[j]!)
            rw [h3]
            simp [World.cell?, m1, a1]
          · have hj2 : j / 2 * 2 + 1 = j := by omega
            rw [hj2] at h4
            rw [Nat.add_assoc, hj2] at a2
            show Z.w.cell? _ = some ((Sort.flatK Proofs.encT 2 xs.toArray)[j]!)
            rw [h4]
            simp [World.cell?, m1, a2]

theorem growT_ok {fn : Func} {c : Code} (hf : Proofs.Try.prog.funcs[67]? = some fn) (hb : fn.body = some c) (hn : (fn.name == "runtime.NumGoroutine") = false) : FnOk Proofs.Try.prog 67 growTK where
  nat R S' g p k := by
    unfold growTK
    split
    · rename_i i xs _ _
      cases decide (0 ≤ i) && decide (xs.length + Int.toNat i ≤ LIM) <;> rfl
    · rfl
  ok p q hq Z vals H hv hp := by
    unfold growTK at hq
    split at hq
    case h_2 => cases hq
    rename_i i xs u hu
    have hpk := PkS.un_pack hu
    subst hpk
    cases hcond : decide (0 ≤ i) && decide (xs.length + Int.toNat i ≤ LIM) with
    | false => rw [hcond] at hq; cases hq
    | true =>
      rw [hcond] at hq
      simp only [Bool.and_eq_true, decide_eq_true_eq] at hcond
      obtain ⟨hi0, hlim⟩ := hcond
      have hq' : growTOut xs = q := Option.some.inj hq
      subst hq'
      obtain ⟨n, rfl⟩ : ∃ n : Nat, i = n := ⟨i.toNat, by omega⟩
      rw [Int.toNat_natCast] at hlim
      let rt : Roots := ptab [((200000, 0), .arr KT xs)]
      have ha : All2 (AVRel (AtomRel Z.w (Stab Z rt H Z.w) rt H)) [.one (.whole (200000, 0)), .one (.int .i64 n)] vals.toList := hp.args
      have hm : Mem Z rt H Z.w := hp.mem
      have l0 : look rt (200000, 0) = some (some (.arr KT xs)) := rfl
      obtain ⟨u0, u1, hvals⟩ : ∃ u0 u1, vals = #[u0, u1] := by
        have := ha.length
        simp only [List.length_cons, List.length_nil, Array.length_toList] at this
        exact ⟨vals[0], vals[1], by apply Array.ext <;> simp [← this] ; intro i hi1 hi2; match i, hi2 with | 0, _ => rfl | 1, _ => rfl⟩
      subst hvals
      have e0 : u0 = H (200000, 0) := RowRel.row (show RowRel rt (200000, 0) (u0.oneCell' = true) (fun _ _ => u0 = H (200000, 0)) from ha.1) (.inl ⟨rfl, l0⟩)
      have e1 : u1 = .int .i64 n := ha.2.1
      subst e1
      have o0 : ArrOk Z.w (Stab Z rt H Z.w) KT xs (H (200000, 0)) := hm.roots _ _ l0
      unfold LIM at hlim
      refine Does.of_calls hf hb hn ?_
      have fin : ∀ {g : Value} {w' : World}, (∀ S : Nat → Prop, ArrOk w' S KT xs g) → (∀ b, Bk g b → Owns rt H b ∨ Z.w.heap.size ≤ b) → w'.os = Z.w.os → w'.tape = Z.w.tape → w'.output = Z.w.output → Z.w.heap.size ≤ w'.heap.size →
          (∀ c, c < Z.w.heap.size → ¬ Owns rt H c → w'.heap[c]? = Z.w.heap[c]?) → ∃ v, Ending.returned g = .returned v ∧ ∃ H', PkOk Z (growTOut xs) (v :: [u0, .int .i64 n]) w' H' :=
        fun h1 h2 h3 h4 h5 h6 h7 => ⟨_, rfl, fun _ => _, ⟨whole_one (h1 _), trivial, trivial, trivial⟩, mem_one hm h1 h2 h3 h4 h5 h6 h7⟩
      have own : ∀ b, Bk u0 b → Owns rt H b := fun b h => ⟨_, _, l0, rfl, by rw [← e0]; exact h⟩
      have capOk : ∀ c, grownCap Z.w (xs.length + n) c 27 ≤ 9223372036854775807 := fun c => by
        have := grownCap_le_maxLen Z.w (xs.length + n) c 27 (by unfold maxLen; omega)
        unfold maxLen at this
        exact this
      have blkNew : ∀ (l c : Nat) b, Bk (.slice (some ⟨Z.w.heap.size, 0, none⟩) l c) b → Owns rt H b ∨ Z.w.heap.size ≤ b := fun l c b h => by
        simp [Bk, blkOf] at h
        exact .inr (by omega)
      rcases o0 with ⟨h, ad, g1⟩ | ⟨b1, off1, cap1, cells1, t1, g1, c1, ⟨p1, q1⟩, m1, f1, el1⟩
      · subst h
        rw [← e0] at g1
        subst g1
        by_cases hn0 : n = 0
        · subst hn0
          refine Calls.mono (Proofs.grow_room ad 0 0 0 Z.w (Nat.le_refl _) (by omega) (by omega) (by omega)) fun e w' he => ?_
          obtain ⟨rfl, rfl⟩ := he
          exact fin (fun _ => .inl ⟨rfl, ad, rfl⟩) (fun b h => .inl (own b h)) rfl rfl rfl (Nat.le_refl _) fun _ _ _ => rfl
        · simp only [List.length_nil] at hlim capOk
          refine Calls.mono (Proofs.grow_grow' ad 0 0 n [] Z.w (Nat.le_refl _) (by omega) (by omega) (by omega) rfl (fun _ => rfl) (fun a _ j v hj => by simp at hj)) fun e w' he => ?_
          obtain ⟨zs, hz, rfl, rfl⟩ := he
          have hge := grownCap_ge Z.w (0 + n) 0 27
          refine fin (fun S => .inr ⟨Z.w.heap.size, 0, _, _, _, rfl, Nat.zero_le _, ⟨by omega, capOk 0⟩, heap_alloc_new Z.w.drew _, ?_, fun i x hx => by simp at hx⟩) (blkNew _ _) rfl rfl rfl (by simp) (fun c h1 h2 => heap_alloc_old Z.w.drew _ h1)
          simp [Kd.size, hz]
          omega
      · rw [← e0] at g1
        have f1' : off1 + cap1 * 2 ≤ cells1.size := f1
        have hlt1 : b1 < Z.w.heap.size := (Array.getElem?_eq_some_iff.1 m1).1
        subst g1
        by_cases hroom : xs.length + n ≤ cap1
        · refine Calls.mono (Proofs.grow_room _ xs.length cap1 n Z.w c1 q1 (by omega) hroom) fun e w' he => ?_
          obtain ⟨rfl, rfl⟩ := he
          exact fin (fun _ => .inr ⟨b1, off1, cap1, cells1, t1, rfl, c1, ⟨p1, q1⟩, m1, f1, T_elts fun i x hx => elts_T el1 hx⟩) (fun b h => .inl (own b h)) rfl rfl rfl (Nat.le_refl _) fun _ _ _ => rfl
        · have hcl : ((cells1.toList.drop off1).take (cap1 * 2)).length = cap1 * 2 := by simp; omega
          have hcs : ∀ (j : Nat) v, ((cells1.toList.drop off1).take (cap1 * 2))[j]? = some v → cells1[off1 + j]? = some v := fun j v hv => by
            rw [List.getElem?_take] at hv
            split at hv
            · rw [List.getElem?_drop] at hv
              simpa using hv
            · cases hv
          have hcb : ∀ (j : Nat) v, j < cap1 * 2 → cells1[off1 + j]? = some v → ((cells1.toList.drop off1).take (cap1 * 2))[j]? = some v := fun j v hj hv => by
            rw [List.getElem?_take, if_pos hj, List.getElem?_drop]
            simpa using hv
          generalize (cells1.toList.drop off1).take (cap1 * 2) = cs at hcl hcs hcb
          refine Calls.mono (Proofs.grow_grow' (some ⟨b1, off1, none⟩) xs.length cap1 n cs Z.w c1 (by omega) (by omega) (by omega) hcl (fun h => by cases h) (fun a h j v hj => by
            cases h
            rw [addr_add]
            simp [World.cell?, m1, hcs j v hj])) fun e w' he => ?_
          obtain ⟨zs, hz, rfl, rfl⟩ := he
          have hge := grownCap_ge Z.w (xs.length + n) cap1 27
          refine fin (fun S => .inr ⟨Z.w.heap.size, 0, _, _, _, rfl, by omega, ⟨by omega, capOk cap1⟩, heap_alloc_new Z.w.drew _, ?_, T_elts fun i x hx => ?_⟩) (blkNew _ _) rfl rfl rfl (by simp) (fun c h1 h2 => heap_alloc_old Z.w.drew _ h1)
          · simp [Kd.size, hz, hcl]
            omega
          · have hi := (List.getElem?_eq_some_iff.1 hx).1
            obtain ⟨a1, a2⟩ := elts_T el1 hx
            rw [Nat.add_assoc] at a2
            have b1 := hcb _ _ (by omega) a1
            have b2 := hcb _ _ (by omega) a2
            rw [Nat.zero_add, Array.getElem?_append_left (by simp; omega), Array.getElem?_append_left (by simp; omega)]
            exact ⟨by simpa using b1, by simpa using b2⟩
end Go.Am
