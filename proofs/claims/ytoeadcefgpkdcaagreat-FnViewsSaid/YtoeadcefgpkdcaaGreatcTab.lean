/- The numbers and layouts of this seat's translation, by program. -/
import Derived.Test.YtoeadcefgpkdcaaGreatLfd
import Derived.Test.YtoeadcefgpkdcaaGreatProg
import Derived.KernelRfl
import GoSem.Extern.Table
set_option linter.unusedSectionVars false
set_option linter.all false
set_option linter.unusedVariables false
set_option maxRecDepth 100000
namespace Go.Proofs.YtoeadcefgpkdcaaGreat
open Go.Lft
def mdT (f : Nat) : List Nat := if f = 56 then [0] else if f = 30 then [0] else if f = 74 then [0] else if f = 80 then [0] else if f = 58 then [0] else if f = 57 then [0] else if f = 31 then [0] else if f = 66 then [0] else if f = 64 then [0] else if f = 47 then [0] else if f = 38 then [0] else if f = 20 then [0] else if f = 60 then [0] else if f = 62 then [1000] else []
def fzT (f : Nat) : Bool := false
def extT (f : Nat) : Option (List D → Option (D × List D)) := if f = 104 then some extIndexByte else if f = 60 then some extSort else if f = 62 then some (extCompact 3) else none
open Go.Shelf Go.Proofs in
def sortRen : Ren := {
  f := fun x => match x with
    | 189 => 60
    | 125 => 76
    | 257 => 75
    | 128 => 95
    | 129 => 96
    | 294 => 86
    | 295 => 87
    | 296 => 88
    | 297 => 89
    | 298 => 90
    | 299 => 91
    | 216 => 92
    | 300 => 93
    | 301 => 94
    | 328 => 98
    | 329 => 99
    | 330 => 100
    | 331 => 101
    | 332 => 102
    | 215 => 103
    | 343 => 105
    | n => n
  t := fun x => match x with
    | 28 => 24
    | 3 => 3
    | 46 => 98
    | 0 => 0
    | 51 => 123
    | 53 => 125
    | 4 => 4
    | 183 => 115
    | 182 => 114
    | 131 => 120
    | 5 => 5
    | 9 => 9
    | 218 => 126
    | 222 => 130
    | 228 => 132
    | 229 => 133
    | n => n
  g := fun x => x }
open Go.Shelf Go.Proofs in
theorem sortLays : Lays.n189 Tryz.prog sortRen where
  mixed := by first | kernel_rfl | rfl
  f125 := by first | kernel_rfl | rfl
  f128 := by first | kernel_rfl | rfl
  f129 := by first | kernel_rfl | rfl
  f189 := by first | kernel_rfl | rfl
  f215 := by first | kernel_rfl | rfl
  f216 := by first | kernel_rfl | rfl
  f257 := by first | kernel_rfl | rfl
  f294 := by first | kernel_rfl | rfl
  f295 := by first | kernel_rfl | rfl
  f296 := by first | kernel_rfl | rfl
  f297 := by first | kernel_rfl | rfl
  f298 := by first | kernel_rfl | rfl
  f299 := by first | kernel_rfl | rfl
  f300 := by first | kernel_rfl | rfl
  f301 := by first | kernel_rfl | rfl
  f328 := by first | kernel_rfl | rfl
  f329 := by first | kernel_rfl | rfl
  f330 := by first | kernel_rfl | rfl
  f331 := by first | kernel_rfl | rfl
  f332 := by first | kernel_rfl | rfl
  f343 := by first | kernel_rfl | rfl
  t0 := by first | kernel_rfl | rfl
  a0 := fun _ => by first | rfl | kernel_rfl
  z0 := fun _ => by first | rfl | kernel_rfl
  v0 := fun _ => by first | rfl | kernel_rfl
  t3 := by first | kernel_rfl | rfl
  a3 := fun _ => by first | rfl | kernel_rfl
  z3 := fun _ => by first | rfl | kernel_rfl
  v3 := fun _ => by first | rfl | kernel_rfl
  t4 := by first | kernel_rfl | rfl
  a4 := fun _ => by first | rfl | kernel_rfl
  z4 := fun _ => by first | rfl | kernel_rfl
  v4 := fun _ => by first | rfl | kernel_rfl
  t5 := by first | kernel_rfl | rfl
  a5 := fun _ => by first | rfl | kernel_rfl
  z5 := fun _ => by first | rfl | kernel_rfl
  v5 := fun _ => by first | rfl | kernel_rfl
  t9 := by first | kernel_rfl | rfl
  a9 := fun _ => by first | rfl | kernel_rfl
  z9 := fun _ => by first | rfl | kernel_rfl
  v9 := fun _ => by first | rfl | kernel_rfl
  t28 := by first | kernel_rfl | rfl
  a28 := fun _ => by first | rfl | kernel_rfl
  z28 := fun _ => by first | rfl | kernel_rfl
  v28 := fun _ => by first | rfl | kernel_rfl
  t46 := by first | kernel_rfl | rfl
  a46 := fun _ => by first | rfl | kernel_rfl
  z46 := fun _ => by first | rfl | kernel_rfl
  v46 := fun _ => by first | rfl | kernel_rfl
  t51 := by first | kernel_rfl | rfl
  a51 := fun _ => by first | rfl | kernel_rfl
  z51 := fun _ => by first | rfl | kernel_rfl
  v51 := fun _ => by first | rfl | kernel_rfl
  t53 := by first | kernel_rfl | rfl
  a53 := fun _ => by first | rfl | kernel_rfl
  z53 := fun _ => by first | rfl | kernel_rfl
  v53 := fun _ => by first | rfl | kernel_rfl
  t131 := by first | kernel_rfl | rfl
  a131 := fun _ => by first | rfl | kernel_rfl
  z131 := fun _ => by first | rfl | kernel_rfl
  v131 := fun _ => by first | rfl | kernel_rfl
  t182 := by first | kernel_rfl | rfl
  a182 := fun _ => by first | rfl | kernel_rfl
  z182 := fun _ => by first | rfl | kernel_rfl
  v182 := fun _ => by first | rfl | kernel_rfl
  t183 := by first | kernel_rfl | rfl
  a183 := fun _ => by first | rfl | kernel_rfl
  z183 := fun _ => by first | rfl | kernel_rfl
  v183 := fun _ => by first | rfl | kernel_rfl
  t218 := by first | kernel_rfl | rfl
  a218 := fun _ => by first | rfl | kernel_rfl
  z218 := fun _ => by first | rfl | kernel_rfl
  v218 := fun _ => by first | rfl | kernel_rfl
  t222 := by first | kernel_rfl | rfl
  a222 := fun _ => by first | rfl | kernel_rfl
  z222 := fun _ => by first | rfl | kernel_rfl
  v222 := fun _ => by first | rfl | kernel_rfl
  t228 := by first | kernel_rfl | rfl
  a228 := fun _ => by first | rfl | kernel_rfl
  z228 := fun _ => by first | rfl | kernel_rfl
  v228 := fun _ => by first | rfl | kernel_rfl
  t229 := by first | kernel_rfl | rfl
  a229 := fun _ => by first | rfl | kernel_rfl
  z229 := fun _ => by first | rfl | kernel_rfl
  v229 := fun _ => by first | rfl | kernel_rfl
open Go.Shelf Go.Proofs in
def ren62 : Ren := { f := fun x => match x with | 20 => 62 | n => n, t := fun x => match x with | 0 => 0 | 3 => 3 | 4 => 4 | 22 => 24 | n => n, g := fun x => x }
open Go.Shelf Go.Proofs in
theorem lays62 : Lays2.n20 Tryz.prog ren62 where
  mixed := by first | kernel_rfl | rfl
  f20 := by first | kernel_rfl | rfl
  i3 := by first | kernel_rfl | rfl
  t0 := by first | kernel_rfl | rfl
  a0 := fun _ => by first | rfl | kernel_rfl
  z0 := fun _ => by first | rfl | kernel_rfl
  v0 := fun _ => by first | rfl | kernel_rfl
  t3 := by first | kernel_rfl | rfl
  a3 := fun _ => by first | rfl | kernel_rfl
  z3 := fun _ => by first | rfl | kernel_rfl
  v3 := fun _ => by first | rfl | kernel_rfl
  t4 := by first | kernel_rfl | rfl
  a4 := fun _ => by first | rfl | kernel_rfl
  z4 := fun _ => by first | rfl | kernel_rfl
  v4 := fun _ => by first | rfl | kernel_rfl
  t22 := by first | kernel_rfl | rfl
  a22 := fun _ => by first | rfl | kernel_rfl
  z22 := fun _ => by first | rfl | kernel_rfl
  v22 := fun _ => by first | rfl | kernel_rfl
def mvT (f t : Nat) : Bool := if f = 6 then t == 10 else if f = 7 then t == 9 else if f = 8 then t == 6 else if f = 9 then t == 6 else if f = 20 then t == 6 || t == 7 else if f = 29 then t == 3 else if f = 38 then t == 4 || t == 5 else if f = 47 then t == 5 else if f = 64 then t == 3 else if f = 65 then t == 8 || t == 9 else if f = 67 then t == 6 || t == 8 else if f = 68 then t == 13 || t == 16 else if f = 69 then t == 3 else if f = 79 then t == 6 else if f = 81 then t == 5 else false
noncomputable def E : En := { P := Tryz.prog, T := tbOf Tryz.prog, md := mdT, fz := fzT, mv := mvT, ext := extT }
@[simp] theorem E_P : E.P = Tryz.prog := rfl
@[simp] theorem ty1 : E.T.ty 1 = .one := by kernel_rfl
@[simp] theorem ty2 : E.T.ty 2 = .int .i64 := by kernel_rfl
@[simp] theorem zero2 : E.T.zero 2 = some (.int .i64 0) := by kernel_rfl
@[simp] theorem ty3 : E.T.ty 3 = .int .i64 := by kernel_rfl
@[simp] theorem zero3 : E.T.zero 3 = some (.int .i64 0) := by kernel_rfl
@[simp] theorem ty4 : E.T.ty 4 = .bool := by kernel_rfl
@[simp] theorem zero4 : E.T.zero 4 = some (.bool false) := by kernel_rfl
@[simp] theorem ty5 : E.T.ty 5 = .int .u8 := by kernel_rfl
@[simp] theorem zero5 : E.T.zero 5 = some (.int .u8 0) := by kernel_rfl
@[simp] theorem ty9 : E.T.ty 9 = .str := by kernel_rfl
@[simp] theorem zero9 : E.T.zero 9 = some (.str []) := by kernel_rfl
@[simp] theorem ty12 : E.T.ty 12 = .int .u64 := by kernel_rfl
@[simp] theorem zero12 : E.T.zero 12 = some (.int .u64 0) := by kernel_rfl
@[simp] theorem ty15 : E.T.ty 15 = .one := by kernel_rfl
@[simp] theorem ty16 : E.T.ty 16 = .one := by kernel_rfl
@[simp] theorem ty17 : E.T.ty 17 = .one := by kernel_rfl
@[simp] theorem ty20 : E.T.ty 20 = .iface := by kernel_rfl
@[simp] theorem zero20 : E.T.zero 20 = some (.ifc true) := by kernel_rfl
@[simp] theorem ty21 : E.T.ty 21 = .int .i32 := by kernel_rfl
@[simp] theorem zero21 : E.T.zero 21 = some (.int .i32 0) := by kernel_rfl
@[simp] theorem ty22 : E.T.ty 22 = .slice 5 1 1 := by kernel_rfl
@[simp] theorem zero22 : E.T.zero 22 = some (.lst true 5 1 []) := by kernel_rfl
@[simp] theorem ty23 : E.T.ty 23 = .one := by kernel_rfl
@[simp] theorem ty24 : E.T.ty 24 = .slice 3 1 8 := by kernel_rfl
@[simp] theorem zero24 : E.T.zero 24 = some (.lst true 3 1 []) := by kernel_rfl
@[simp] theorem ty26 : E.T.ty 26 = .strct 4 false := by kernel_rfl
@[simp] theorem off26_0 : E.T.off 26 0 = some 0 := by kernel_rfl
@[simp] theorem fl26_0 : E.T.fl 26 0 = some (false, 1) := by kernel_rfl
@[simp] theorem off26_1 : E.T.off 26 1 = some 1 := by kernel_rfl
@[simp] theorem fl26_1 : E.T.fl 26 1 = some (false, 1) := by kernel_rfl
@[simp] theorem off26_2 : E.T.off 26 2 = some 2 := by kernel_rfl
@[simp] theorem fl26_2 : E.T.fl 26 2 = some (false, 1) := by kernel_rfl
@[simp] theorem off26_3 : E.T.off 26 3 = some 3 := by kernel_rfl
@[simp] theorem fl26_3 : E.T.fl 26 3 = some (false, 1) := by kernel_rfl
@[simp] theorem zero26 : E.T.zero 26 = some (.agg [(.str []), (.int .i64 0), (.lst true 3 1 []), (.int .i64 0)]) := by kernel_rfl
@[simp] theorem ty27 : E.T.ty 27 = .slice 60 4 40 := by kernel_rfl
@[simp] theorem zero27 : E.T.zero 27 = some (.lst true 60 4 []) := by kernel_rfl
@[simp] theorem ty28 : E.T.ty 28 = .slice 82 2 16 := by kernel_rfl
@[simp] theorem zero28 : E.T.zero 28 = some (.lst true 82 2 []) := by kernel_rfl
@[simp] theorem ty30 : E.T.ty 30 = .strct 7 false := by kernel_rfl
@[simp] theorem off30_0 : E.T.off 30 0 = some 0 := by kernel_rfl
@[simp] theorem fl30_0 : E.T.fl 30 0 = some (false, 1) := by kernel_rfl
@[simp] theorem off30_1 : E.T.off 30 1 = some 1 := by kernel_rfl
@[simp] theorem fl30_1 : E.T.fl 30 1 = some (false, 1) := by kernel_rfl
@[simp] theorem off30_2 : E.T.off 30 2 = some 2 := by kernel_rfl
@[simp] theorem fl30_2 : E.T.fl 30 2 = some (false, 1) := by kernel_rfl
@[simp] theorem off30_3 : E.T.off 30 3 = some 3 := by kernel_rfl
@[simp] theorem fl30_3 : E.T.fl 30 3 = some (false, 1) := by kernel_rfl
@[simp] theorem off30_4 : E.T.off 30 4 = some 4 := by kernel_rfl
@[simp] theorem fl30_4 : E.T.fl 30 4 = some (false, 1) := by kernel_rfl
@[simp] theorem off30_5 : E.T.off 30 5 = some 5 := by kernel_rfl
@[simp] theorem fl30_5 : E.T.fl 30 5 = some (false, 1) := by kernel_rfl
@[simp] theorem off30_6 : E.T.off 30 6 = some 6 := by kernel_rfl
@[simp] theorem fl30_6 : E.T.fl 30 6 = some (false, 1) := by kernel_rfl
@[simp] theorem zero30 : E.T.zero 30 = some (.agg [(.str []), (.int .i64 0), (.int .i64 0), (.int .i64 0), (.lst true 60 4 []), (.lst true 82 2 []), (.int .i64 0)]) := by kernel_rfl
@[simp] theorem ty32 : E.T.ty 32 = .one := by kernel_rfl
@[simp] theorem ty33 : E.T.ty 33 = .slice 55 7 72 := by kernel_rfl
@[simp] theorem zero33 : E.T.zero 33 = some (.lst true 55 7 []) := by kernel_rfl
@[simp] theorem ty35 : E.T.ty 35 = .one := by kernel_rfl
@[simp] theorem ty37 : E.T.ty 37 = .one := by kernel_rfl
@[simp] theorem ty38 : E.T.ty 38 = .slice 44 2 16 := by kernel_rfl
@[simp] theorem zero38 : E.T.zero 38 = some (.lst true 44 2 []) := by kernel_rfl
@[simp] theorem ty40 : E.T.ty 40 = .one := by kernel_rfl
@[simp] theorem ty42 : E.T.ty 42 = .one := by kernel_rfl
@[simp] theorem ty44 : E.T.ty 44 = .strct 2 true := by kernel_rfl
@[simp] theorem off44_0 : E.T.off 44 0 = some 0 := by kernel_rfl
@[simp] theorem fl44_0 : E.T.fl 44 0 = some (false, 1) := by kernel_rfl
@[simp] theorem off44_1 : E.T.off 44 1 = some 1 := by kernel_rfl
@[simp] theorem fl44_1 : E.T.fl 44 1 = some (false, 1) := by kernel_rfl
@[simp] theorem kinds44 : E.T.kinds 44 = [0, 0] := by kernel_rfl
@[simp] theorem zero44 : E.T.zero 44 = some (.agg [(.int .i64 0), (.int .i64 0)]) := by kernel_rfl
@[simp] theorem ty45 : E.T.ty 45 = .one := by kernel_rfl
@[simp] theorem ty46 : E.T.ty 46 = .one := by kernel_rfl
@[simp] theorem ty47 : E.T.ty 47 = .one := by kernel_rfl
@[simp] theorem ty48 : E.T.ty 48 = .one := by kernel_rfl
@[simp] theorem ty49 : E.T.ty 49 = .one := by kernel_rfl
@[simp] theorem ty50 : E.T.ty 50 = .one := by kernel_rfl
@[simp] theorem ty51 : E.T.ty 51 = .one := by kernel_rfl
@[simp] theorem ty52 : E.T.ty 52 = .one := by kernel_rfl
@[simp] theorem ty53 : E.T.ty 53 = .one := by kernel_rfl
@[simp] theorem ty55 : E.T.ty 55 = .strct 7 false := by kernel_rfl
@[simp] theorem off55_0 : E.T.off 55 0 = some 0 := by kernel_rfl
@[simp] theorem fl55_0 : E.T.fl 55 0 = some (false, 1) := by kernel_rfl
@[simp] theorem off55_1 : E.T.off 55 1 = some 1 := by kernel_rfl
@[simp] theorem fl55_1 : E.T.fl 55 1 = some (false, 1) := by kernel_rfl
@[simp] theorem off55_2 : E.T.off 55 2 = some 2 := by kernel_rfl
@[simp] theorem fl55_2 : E.T.fl 55 2 = some (false, 1) := by kernel_rfl
@[simp] theorem off55_3 : E.T.off 55 3 = some 3 := by kernel_rfl
@[simp] theorem fl55_3 : E.T.fl 55 3 = some (false, 1) := by kernel_rfl
@[simp] theorem off55_4 : E.T.off 55 4 = some 4 := by kernel_rfl
@[simp] theorem fl55_4 : E.T.fl 55 4 = some (false, 1) := by kernel_rfl
@[simp] theorem off55_5 : E.T.off 55 5 = some 5 := by kernel_rfl
@[simp] theorem fl55_5 : E.T.fl 55 5 = some (false, 1) := by kernel_rfl
@[simp] theorem off55_6 : E.T.off 55 6 = some 6 := by kernel_rfl
@[simp] theorem fl55_6 : E.T.fl 55 6 = some (false, 1) := by kernel_rfl
@[simp] theorem zero55 : E.T.zero 55 = some (.agg [(.int .i64 0), (.int .i64 0), (.int .i64 0), (.int .i64 0), (.int .i64 0), (.lst true 44 2 []), (.bool false)]) := by kernel_rfl
@[simp] theorem ty56 : E.T.ty 56 = .one := by kernel_rfl
@[simp] theorem ty57 : E.T.ty 57 = .one := by kernel_rfl
@[simp] theorem ty58 : E.T.ty 58 = .one := by kernel_rfl
@[simp] theorem ty60 : E.T.ty 60 = .strct 4 true := by kernel_rfl
@[simp] theorem off60_0 : E.T.off 60 0 = some 0 := by kernel_rfl
@[simp] theorem fl60_0 : E.T.fl 60 0 = some (false, 1) := by kernel_rfl
@[simp] theorem off60_1 : E.T.off 60 1 = some 1 := by kernel_rfl
@[simp] theorem fl60_1 : E.T.fl 60 1 = some (false, 1) := by kernel_rfl
@[simp] theorem off60_2 : E.T.off 60 2 = some 2 := by kernel_rfl
@[simp] theorem fl60_2 : E.T.fl 60 2 = some (false, 1) := by kernel_rfl
@[simp] theorem off60_3 : E.T.off 60 3 = some 3 := by kernel_rfl
@[simp] theorem fl60_3 : E.T.fl 60 3 = some (false, 1) := by kernel_rfl
@[simp] theorem kinds60 : E.T.kinds 60 = [0, 0, 0, 1] := by kernel_rfl
@[simp] theorem zero60 : E.T.zero 60 = some (.agg [(.int .i64 0), (.int .i64 0), (.int .i64 0), (.str [])]) := by kernel_rfl
@[simp] theorem ty61 : E.T.ty 61 = .one := by kernel_rfl
@[simp] theorem ty62 : E.T.ty 62 = .one := by kernel_rfl
@[simp] theorem ty63 : E.T.ty 63 = .one := by kernel_rfl
@[simp] theorem ty64 : E.T.ty 64 = .one := by kernel_rfl
@[simp] theorem ty65 : E.T.ty 65 = .one := by kernel_rfl
@[simp] theorem ty66 : E.T.ty 66 = .one := by kernel_rfl
@[simp] theorem ty67 : E.T.ty 67 = .one := by kernel_rfl
@[simp] theorem ty68 : E.T.ty 68 = .one := by kernel_rfl
@[simp] theorem ty69 : E.T.ty 69 = .one := by kernel_rfl
@[simp] theorem ty70 : E.T.ty 70 = .one := by kernel_rfl
@[simp] theorem ty71 : E.T.ty 71 = .one := by kernel_rfl
@[simp] theorem ty72 : E.T.ty 72 = .one := by kernel_rfl
@[simp] theorem ty73 : E.T.ty 73 = .one := by kernel_rfl
@[simp] theorem ty74 : E.T.ty 74 = .slice 9 1 16 := by kernel_rfl
@[simp] theorem zero74 : E.T.zero 74 = some (.lst true 9 1 []) := by kernel_rfl
@[simp] theorem ty75 : E.T.ty 75 = .one := by kernel_rfl
@[simp] theorem ty77 : E.T.ty 77 = .strct 3 false := by kernel_rfl
@[simp] theorem off77_0 : E.T.off 77 0 = some 0 := by kernel_rfl
@[simp] theorem fl77_0 : E.T.fl 77 0 = some (false, 1) := by kernel_rfl
@[simp] theorem off77_1 : E.T.off 77 1 = some 1 := by kernel_rfl
@[simp] theorem fl77_1 : E.T.fl 77 1 = some (false, 1) := by kernel_rfl
@[simp] theorem off77_2 : E.T.off 77 2 = some 2 := by kernel_rfl
@[simp] theorem fl77_2 : E.T.fl 77 2 = some (false, 1) := by kernel_rfl
@[simp] theorem zero77 : E.T.zero 77 = some (.agg [(.lst true 5 1 []), (.int .i64 0), (.int .i64 0)]) := by kernel_rfl
@[simp] theorem ty78 : E.T.ty 78 = .one := by kernel_rfl
@[simp] theorem ty79 : E.T.ty 79 = .one := by kernel_rfl
@[simp] theorem ty80 : E.T.ty 80 = .one := by kernel_rfl
@[simp] theorem ty82 : E.T.ty 82 = .strct 2 true := by kernel_rfl
@[simp] theorem off82_0 : E.T.off 82 0 = some 0 := by kernel_rfl
@[simp] theorem fl82_0 : E.T.fl 82 0 = some (false, 1) := by kernel_rfl
@[simp] theorem off82_1 : E.T.off 82 1 = some 1 := by kernel_rfl
@[simp] theorem fl82_1 : E.T.fl 82 1 = some (false, 1) := by kernel_rfl
@[simp] theorem kinds82 : E.T.kinds 82 = [0, 0] := by kernel_rfl
@[simp] theorem zero82 : E.T.zero 82 = some (.agg [(.int .i64 0), (.int .i64 0)]) := by kernel_rfl
@[simp] theorem ty83 : E.T.ty 83 = .one := by kernel_rfl
@[simp] theorem ty84 : E.T.ty 84 = .one := by kernel_rfl
@[simp] theorem ty85 : E.T.ty 85 = .one := by kernel_rfl
@[simp] theorem ty86 : E.T.ty 86 = .one := by kernel_rfl
@[simp] theorem ty87 : E.T.ty 87 = .one := by kernel_rfl
@[simp] theorem ty89 : E.T.ty 89 = .one := by kernel_rfl
@[simp] theorem ty90 : E.T.ty 90 = .one := by kernel_rfl
@[simp] theorem ty92 : E.T.ty 92 = .one := by kernel_rfl
@[simp] theorem ty94 : E.T.ty 94 = .one := by kernel_rfl
@[simp] theorem ty95 : E.T.ty 95 = .one := by kernel_rfl
@[simp] theorem ty96 : E.T.ty 96 = .one := by kernel_rfl
@[simp] theorem ty97 : E.T.ty 97 = .one := by kernel_rfl
@[simp] theorem ty98 : E.T.ty 98 = .int .u64 := by kernel_rfl
@[simp] theorem zero98 : E.T.zero 98 = some (.int .u64 0) := by kernel_rfl
@[simp] theorem ty99 : E.T.ty 99 = .one := by kernel_rfl
@[simp] theorem ty100 : E.T.ty 100 = .one := by kernel_rfl
@[simp] theorem ty101 : E.T.ty 101 = .one := by kernel_rfl
@[simp] theorem ty102 : E.T.ty 102 = .slice 4 1 1 := by kernel_rfl
@[simp] theorem zero102 : E.T.zero 102 = some (.lst true 4 1 []) := by kernel_rfl
@[simp] theorem ty103 : E.T.ty 103 = .one := by kernel_rfl
@[simp] theorem ty104 : E.T.ty 104 = .one := by kernel_rfl
@[simp] theorem ty106 : E.T.ty 106 = .one := by kernel_rfl
@[simp] theorem ty107 : E.T.ty 107 = .one := by kernel_rfl
@[simp] theorem ty108 : E.T.ty 108 = .one := by kernel_rfl
@[simp] theorem ty109 : E.T.ty 109 = .one := by kernel_rfl
@[simp] theorem ty110 : E.T.ty 110 = .one := by kernel_rfl
@[simp] theorem ty111 : E.T.ty 111 = .one := by kernel_rfl
@[simp] theorem ty112 : E.T.ty 112 = .one := by kernel_rfl
@[simp] theorem ty113 : E.T.ty 113 = .one := by kernel_rfl
@[simp] theorem ty116 : E.T.ty 116 = .one := by kernel_rfl
@[simp] theorem ty117 : E.T.ty 117 = .one := by kernel_rfl
@[simp] theorem ty118 : E.T.ty 118 = .one := by kernel_rfl
@[simp] theorem ty119 : E.T.ty 119 = .one := by kernel_rfl
@[simp] theorem ty121 : E.T.ty 121 = .one := by kernel_rfl
@[simp] theorem ty122 : E.T.ty 122 = .one := by kernel_rfl
@[simp] theorem ty123 : E.T.ty 123 = .int .u32 := by kernel_rfl
@[simp] theorem zero123 : E.T.zero 123 = some (.int .u32 0) := by kernel_rfl
@[simp] theorem ty124 : E.T.ty 124 = .one := by kernel_rfl
@[simp] theorem ty125 : E.T.ty 125 = .int .u64 := by kernel_rfl
@[simp] theorem zero125 : E.T.zero 125 = some (.int .u64 0) := by kernel_rfl
@[simp] theorem ty127 : E.T.ty 127 = .one := by kernel_rfl
@[simp] theorem ty128 : E.T.ty 128 = .one := by kernel_rfl
@[simp] theorem ty129 : E.T.ty 129 = .one := by kernel_rfl
@[simp] theorem ty130 : E.T.ty 130 = .one := by kernel_rfl
@[simp] theorem ty131 : E.T.ty 131 = .one := by kernel_rfl
@[simp] theorem ty132 : E.T.ty 132 = .one := by kernel_rfl
@[simp] theorem ty134 : E.T.ty 134 = .one := by kernel_rfl
@[simp] theorem ty135 : E.T.ty 135 = .one := by kernel_rfl
@[simp] theorem ty141 : E.T.ty 141 = .one := by kernel_rfl
@[simp] theorem ty144 : E.T.ty 144 = .one := by kernel_rfl
@[simp] theorem ty145 : E.T.ty 145 = .one := by kernel_rfl
@[simp] theorem md3 : E.md 3 = [] := rfl
@[simp] theorem mv3 (t : Nat) : E.mv 3 t = false := rfl
@[simp] theorem fz3 : E.fz 3 = false := rfl
@[simp] theorem md4 : E.md 4 = [] := rfl
@[simp] theorem mv4 (t : Nat) : E.mv 4 t = false := rfl
@[simp] theorem fz4 : E.fz 4 = false := rfl
@[simp] theorem md5 : E.md 5 = [] := rfl
@[simp] theorem mv5 (t : Nat) : E.mv 5 t = false := rfl
@[simp] theorem fz5 : E.fz 5 = false := rfl
@[simp] theorem md6 : E.md 6 = [] := rfl
@[simp] theorem mv6 (t : Nat) : E.mv 6 t = (t == 10) := rfl
@[simp] theorem fz6 : E.fz 6 = false := rfl
@[simp] theorem md7 : E.md 7 = [] := rfl
@[simp] theorem mv7 (t : Nat) : E.mv 7 t = (t == 9) := rfl
@[simp] theorem fz7 : E.fz 7 = false := rfl
@[simp] theorem md8 : E.md 8 = [] := rfl
@[simp] theorem mv8 (t : Nat) : E.mv 8 t = (t == 6) := rfl
@[simp] theorem fz8 : E.fz 8 = false := rfl
@[simp] theorem md9 : E.md 9 = [] := rfl
@[simp] theorem mv9 (t : Nat) : E.mv 9 t = (t == 6) := rfl
@[simp] theorem fz9 : E.fz 9 = false := rfl
@[simp] theorem md10 : E.md 10 = [] := rfl
@[simp] theorem mv10 (t : Nat) : E.mv 10 t = false := rfl
@[simp] theorem fz10 : E.fz 10 = false := rfl
@[simp] theorem md11 : E.md 11 = [] := rfl
@[simp] theorem mv11 (t : Nat) : E.mv 11 t = false := rfl
@[simp] theorem fz11 : E.fz 11 = false := rfl
@[simp] theorem md12 : E.md 12 = [] := rfl
@[simp] theorem mv12 (t : Nat) : E.mv 12 t = false := rfl
@[simp] theorem fz12 : E.fz 12 = false := rfl
@[simp] theorem md13 : E.md 13 = [] := rfl
@[simp] theorem mv13 (t : Nat) : E.mv 13 t = false := rfl
@[simp] theorem fz13 : E.fz 13 = false := rfl
@[simp] theorem md14 : E.md 14 = [] := rfl
@[simp] theorem mv14 (t : Nat) : E.mv 14 t = false := rfl
@[simp] theorem fz14 : E.fz 14 = false := rfl
@[simp] theorem md15 : E.md 15 = [] := rfl
@[simp] theorem mv15 (t : Nat) : E.mv 15 t = false := rfl
@[simp] theorem fz15 : E.fz 15 = false := rfl
@[simp] theorem md16 : E.md 16 = [] := rfl
@[simp] theorem mv16 (t : Nat) : E.mv 16 t = false := rfl
@[simp] theorem fz16 : E.fz 16 = false := rfl
@[simp] theorem md17 : E.md 17 = [] := rfl
@[simp] theorem mv17 (t : Nat) : E.mv 17 t = false := rfl
@[simp] theorem fz17 : E.fz 17 = false := rfl
@[simp] theorem md18 : E.md 18 = [] := rfl
@[simp] theorem mv18 (t : Nat) : E.mv 18 t = false := rfl
@[simp] theorem fz18 : E.fz 18 = false := rfl
@[simp] theorem md19 : E.md 19 = [] := rfl
@[simp] theorem mv19 (t : Nat) : E.mv 19 t = false := rfl
@[simp] theorem fz19 : E.fz 19 = false := rfl
@[simp] theorem md20 : E.md 20 = [0] := rfl
@[simp] theorem mv20 (t : Nat) : E.mv 20 t = (t == 6 || t == 7) := rfl
@[simp] theorem fz20 : E.fz 20 = false := rfl
@[simp] theorem md21 : E.md 21 = [] := rfl
@[simp] theorem mv21 (t : Nat) : E.mv 21 t = false := rfl
@[simp] theorem fz21 : E.fz 21 = false := rfl
@[simp] theorem md22 : E.md 22 = [] := rfl
@[simp] theorem mv22 (t : Nat) : E.mv 22 t = false := rfl
@[simp] theorem fz22 : E.fz 22 = false := rfl
@[simp] theorem md23 : E.md 23 = [] := rfl
@[simp] theorem mv23 (t : Nat) : E.mv 23 t = false := rfl
@[simp] theorem fz23 : E.fz 23 = false := rfl
@[simp] theorem md24 : E.md 24 = [] := rfl
@[simp] theorem mv24 (t : Nat) : E.mv 24 t = false := rfl
@[simp] theorem fz24 : E.fz 24 = false := rfl
@[simp] theorem md25 : E.md 25 = [] := rfl
@[simp] theorem mv25 (t : Nat) : E.mv 25 t = false := rfl
@[simp] theorem fz25 : E.fz 25 = false := rfl
@[simp] theorem md26 : E.md 26 = [] := rfl
@[simp] theorem mv26 (t : Nat) : E.mv 26 t = false := rfl
@[simp] theorem fz26 : E.fz 26 = false := rfl
@[simp] theorem md27 : E.md 27 = [] := rfl
@[simp] theorem mv27 (t : Nat) : E.mv 27 t = false := rfl
@[simp] theorem fz27 : E.fz 27 = false := rfl
@[simp] theorem md28 : E.md 28 = [] := rfl
@[simp] theorem mv28 (t : Nat) : E.mv 28 t = false := rfl
@[simp] theorem fz28 : E.fz 28 = false := rfl
@[simp] theorem md29 : E.md 29 = [] := rfl
@[simp] theorem mv29 (t : Nat) : E.mv 29 t = (t == 3) := rfl
@[simp] theorem fz29 : E.fz 29 = false := rfl
@[simp] theorem md30 : E.md 30 = [0] := rfl
@[simp] theorem mv30 (t : Nat) : E.mv 30 t = false := rfl
@[simp] theorem fz30 : E.fz 30 = false := rfl
@[simp] theorem md31 : E.md 31 = [0] := rfl
@[simp] theorem mv31 (t : Nat) : E.mv 31 t = false := rfl
@[simp] theorem fz31 : E.fz 31 = false := rfl
@[simp] theorem md32 : E.md 32 = [] := rfl
@[simp] theorem mv32 (t : Nat) : E.mv 32 t = false := rfl
@[simp] theorem fz32 : E.fz 32 = false := rfl
@[simp] theorem md33 : E.md 33 = [] := rfl
@[simp] theorem mv33 (t : Nat) : E.mv 33 t = false := rfl
@[simp] theorem fz33 : E.fz 33 = false := rfl
@[simp] theorem md34 : E.md 34 = [] := rfl
@[simp] theorem mv34 (t : Nat) : E.mv 34 t = false := rfl
@[simp] theorem fz34 : E.fz 34 = false := rfl
@[simp] theorem md35 : E.md 35 = [] := rfl
@[simp] theorem mv35 (t : Nat) : E.mv 35 t = false := rfl
@[simp] theorem fz35 : E.fz 35 = false := rfl
@[simp] theorem md36 : E.md 36 = [] := rfl
@[simp] theorem mv36 (t : Nat) : E.mv 36 t = false := rfl
@[simp] theorem fz36 : E.fz 36 = false := rfl
@[simp] theorem md37 : E.md 37 = [] := rfl
@[simp] theorem mv37 (t : Nat) : E.mv 37 t = false := rfl
@[simp] theorem fz37 : E.fz 37 = false := rfl
@[simp] theorem md38 : E.md 38 = [0] := rfl
@[simp] theorem mv38 (t : Nat) : E.mv 38 t = (t == 4 || t == 5) := rfl
@[simp] theorem fz38 : E.fz 38 = false := rfl
@[simp] theorem md39 : E.md 39 = [] := rfl
@[simp] theorem mv39 (t : Nat) : E.mv 39 t = false := rfl
@[simp] theorem fz39 : E.fz 39 = false := rfl
@[simp] theorem md40 : E.md 40 = [] := rfl
@[simp] theorem mv40 (t : Nat) : E.mv 40 t = false := rfl
@[simp] theorem fz40 : E.fz 40 = false := rfl
@[simp] theorem md41 : E.md 41 = [] := rfl
@[simp] theorem mv41 (t : Nat) : E.mv 41 t = false := rfl
@[simp] theorem fz41 : E.fz 41 = false := rfl
@[simp] theorem md42 : E.md 42 = [] := rfl
@[simp] theorem mv42 (t : Nat) : E.mv 42 t = false := rfl
@[simp] theorem fz42 : E.fz 42 = false := rfl
@[simp] theorem md43 : E.md 43 = [] := rfl
@[simp] theorem mv43 (t : Nat) : E.mv 43 t = false := rfl
@[simp] theorem fz43 : E.fz 43 = false := rfl
@[simp] theorem md44 : E.md 44 = [] := rfl
@[simp] theorem mv44 (t : Nat) : E.mv 44 t = false := rfl
@[simp] theorem fz44 : E.fz 44 = false := rfl
@[simp] theorem md45 : E.md 45 = [] := rfl
@[simp] theorem mv45 (t : Nat) : E.mv 45 t = false := rfl
@[simp] theorem fz45 : E.fz 45 = false := rfl
@[simp] theorem md46 : E.md 46 = [] := rfl
@[simp] theorem mv46 (t : Nat) : E.mv 46 t = false := rfl
@[simp] theorem fz46 : E.fz 46 = false := rfl
@[simp] theorem md47 : E.md 47 = [0] := rfl
@[simp] theorem mv47 (t : Nat) : E.mv 47 t = (t == 5) := rfl
@[simp] theorem fz47 : E.fz 47 = false := rfl
@[simp] theorem md48 : E.md 48 = [] := rfl
@[simp] theorem mv48 (t : Nat) : E.mv 48 t = false := rfl
@[simp] theorem fz48 : E.fz 48 = false := rfl
@[simp] theorem md49 : E.md 49 = [] := rfl
@[simp] theorem mv49 (t : Nat) : E.mv 49 t = false := rfl
@[simp] theorem fz49 : E.fz 49 = false := rfl
@[simp] theorem md50 : E.md 50 = [] := rfl
@[simp] theorem mv50 (t : Nat) : E.mv 50 t = false := rfl
@[simp] theorem fz50 : E.fz 50 = false := rfl
@[simp] theorem md51 : E.md 51 = [] := rfl
@[simp] theorem mv51 (t : Nat) : E.mv 51 t = false := rfl
@[simp] theorem fz51 : E.fz 51 = false := rfl
@[simp] theorem md52 : E.md 52 = [] := rfl
@[simp] theorem mv52 (t : Nat) : E.mv 52 t = false := rfl
@[simp] theorem fz52 : E.fz 52 = false := rfl
@[simp] theorem md53 : E.md 53 = [] := rfl
@[simp] theorem mv53 (t : Nat) : E.mv 53 t = false := rfl
@[simp] theorem fz53 : E.fz 53 = false := rfl
@[simp] theorem md54 : E.md 54 = [] := rfl
@[simp] theorem mv54 (t : Nat) : E.mv 54 t = false := rfl
@[simp] theorem fz54 : E.fz 54 = false := rfl
@[simp] theorem md55 : E.md 55 = [] := rfl
@[simp] theorem mv55 (t : Nat) : E.mv 55 t = false := rfl
@[simp] theorem fz55 : E.fz 55 = false := rfl
@[simp] theorem md56 : E.md 56 = [0] := rfl
@[simp] theorem mv56 (t : Nat) : E.mv 56 t = false := rfl
@[simp] theorem fz56 : E.fz 56 = false := rfl
@[simp] theorem md57 : E.md 57 = [0] := rfl
@[simp] theorem mv57 (t : Nat) : E.mv 57 t = false := rfl
@[simp] theorem fz57 : E.fz 57 = false := rfl
@[simp] theorem md58 : E.md 58 = [0] := rfl
@[simp] theorem mv58 (t : Nat) : E.mv 58 t = false := rfl
@[simp] theorem fz58 : E.fz 58 = false := rfl
@[simp] theorem md59 : E.md 59 = [] := rfl
@[simp] theorem mv59 (t : Nat) : E.mv 59 t = false := rfl
@[simp] theorem fz59 : E.fz 59 = false := rfl
@[simp] theorem md60 : E.md 60 = [0] := rfl
@[simp] theorem mv60 (t : Nat) : E.mv 60 t = false := rfl
@[simp] theorem fz60 : E.fz 60 = false := rfl
@[simp] theorem md61 : E.md 61 = [] := rfl
@[simp] theorem mv61 (t : Nat) : E.mv 61 t = false := rfl
@[simp] theorem fz61 : E.fz 61 = false := rfl
@[simp] theorem md62 : E.md 62 = [1000] := rfl
@[simp] theorem mv62 (t : Nat) : E.mv 62 t = false := rfl
@[simp] theorem fz62 : E.fz 62 = false := rfl
@[simp] theorem md63 : E.md 63 = [] := rfl
@[simp] theorem mv63 (t : Nat) : E.mv 63 t = false := rfl
@[simp] theorem fz63 : E.fz 63 = false := rfl
@[simp] theorem md64 : E.md 64 = [0] := rfl
@[simp] theorem mv64 (t : Nat) : E.mv 64 t = (t == 3) := rfl
@[simp] theorem fz64 : E.fz 64 = false := rfl
@[simp] theorem md65 : E.md 65 = [] := rfl
@[simp] theorem mv65 (t : Nat) : E.mv 65 t = (t == 8 || t == 9) := rfl
@[simp] theorem fz65 : E.fz 65 = false := rfl
@[simp] theorem md66 : E.md 66 = [0] := rfl
@[simp] theorem mv66 (t : Nat) : E.mv 66 t = false := rfl
@[simp] theorem fz66 : E.fz 66 = false := rfl
@[simp] theorem md67 : E.md 67 = [] := rfl
@[simp] theorem mv67 (t : Nat) : E.mv 67 t = (t == 6 || t == 8) := rfl
@[simp] theorem fz67 : E.fz 67 = false := rfl
@[simp] theorem md68 : E.md 68 = [] := rfl
@[simp] theorem mv68 (t : Nat) : E.mv 68 t = (t == 13 || t == 16) := rfl
@[simp] theorem fz68 : E.fz 68 = false := rfl
@[simp] theorem md69 : E.md 69 = [] := rfl
@[simp] theorem mv69 (t : Nat) : E.mv 69 t = (t == 3) := rfl
@[simp] theorem fz69 : E.fz 69 = false := rfl
@[simp] theorem md70 : E.md 70 = [] := rfl
@[simp] theorem mv70 (t : Nat) : E.mv 70 t = false := rfl
@[simp] theorem fz70 : E.fz 70 = false := rfl
@[simp] theorem md71 : E.md 71 = [] := rfl
@[simp] theorem mv71 (t : Nat) : E.mv 71 t = false := rfl
@[simp] theorem fz71 : E.fz 71 = false := rfl
@[simp] theorem md72 : E.md 72 = [] := rfl
@[simp] theorem mv72 (t : Nat) : E.mv 72 t = false := rfl
@[simp] theorem fz72 : E.fz 72 = false := rfl
@[simp] theorem md73 : E.md 73 = [] := rfl
@[simp] theorem mv73 (t : Nat) : E.mv 73 t = false := rfl
@[simp] theorem fz73 : E.fz 73 = false := rfl
@[simp] theorem md74 : E.md 74 = [0] := rfl
@[simp] theorem mv74 (t : Nat) : E.mv 74 t = false := rfl
@[simp] theorem fz74 : E.fz 74 = false := rfl
@[simp] theorem md75 : E.md 75 = [] := rfl
@[simp] theorem mv75 (t : Nat) : E.mv 75 t = false := rfl
@[simp] theorem fz75 : E.fz 75 = false := rfl
@[simp] theorem md76 : E.md 76 = [] := rfl
@[simp] theorem mv76 (t : Nat) : E.mv 76 t = false := rfl
@[simp] theorem fz76 : E.fz 76 = false := rfl
@[simp] theorem md77 : E.md 77 = [] := rfl
@[simp] theorem mv77 (t : Nat) : E.mv 77 t = false := rfl
@[simp] theorem fz77 : E.fz 77 = false := rfl
@[simp] theorem md78 : E.md 78 = [] := rfl
@[simp] theorem mv78 (t : Nat) : E.mv 78 t = false := rfl
@[simp] theorem fz78 : E.fz 78 = false := rfl
@[simp] theorem md79 : E.md 79 = [] := rfl
@[simp] theorem mv79 (t : Nat) : E.mv 79 t = (t == 6) := rfl
@[simp] theorem fz79 : E.fz 79 = false := rfl
@[simp] theorem md80 : E.md 80 = [0] := rfl
@[simp] theorem mv80 (t : Nat) : E.mv 80 t = false := rfl
@[simp] theorem fz80 : E.fz 80 = false := rfl
@[simp] theorem md81 : E.md 81 = [] := rfl
@[simp] theorem mv81 (t : Nat) : E.mv 81 t = (t == 5) := rfl
@[simp] theorem fz81 : E.fz 81 = false := rfl
@[simp] theorem md82 : E.md 82 = [] := rfl
@[simp] theorem mv82 (t : Nat) : E.mv 82 t = false := rfl
@[simp] theorem fz82 : E.fz 82 = false := rfl
@[simp] theorem md83 : E.md 83 = [] := rfl
@[simp] theorem mv83 (t : Nat) : E.mv 83 t = false := rfl
@[simp] theorem fz83 : E.fz 83 = false := rfl
@[simp] theorem md84 : E.md 84 = [] := rfl
@[simp] theorem mv84 (t : Nat) : E.mv 84 t = false := rfl
@[simp] theorem fz84 : E.fz 84 = false := rfl
@[simp] theorem md85 : E.md 85 = [] := rfl
@[simp] theorem mv85 (t : Nat) : E.mv 85 t = false := rfl
@[simp] theorem fz85 : E.fz 85 = false := rfl
@[simp] theorem md86 : E.md 86 = [] := rfl
@[simp] theorem mv86 (t : Nat) : E.mv 86 t = false := rfl
@[simp] theorem fz86 : E.fz 86 = false := rfl
@[simp] theorem md87 : E.md 87 = [] := rfl
@[simp] theorem mv87 (t : Nat) : E.mv 87 t = false := rfl
@[simp] theorem fz87 : E.fz 87 = false := rfl
@[simp] theorem md88 : E.md 88 = [] := rfl
@[simp] theorem mv88 (t : Nat) : E.mv 88 t = false := rfl
@[simp] theorem fz88 : E.fz 88 = false := rfl
@[simp] theorem md89 : E.md 89 = [] := rfl
@[simp] theorem mv89 (t : Nat) : E.mv 89 t = false := rfl
@[simp] theorem fz89 : E.fz 89 = false := rfl
@[simp] theorem md90 : E.md 90 = [] := rfl
@[simp] theorem mv90 (t : Nat) : E.mv 90 t = false := rfl
@[simp] theorem fz90 : E.fz 90 = false := rfl
@[simp] theorem md91 : E.md 91 = [] := rfl
@[simp] theorem mv91 (t : Nat) : E.mv 91 t = false := rfl
@[simp] theorem fz91 : E.fz 91 = false := rfl
@[simp] theorem md92 : E.md 92 = [] := rfl
@[simp] theorem mv92 (t : Nat) : E.mv 92 t = false := rfl
@[simp] theorem fz92 : E.fz 92 = false := rfl
@[simp] theorem md93 : E.md 93 = [] := rfl
@[simp] theorem mv93 (t : Nat) : E.mv 93 t = false := rfl
@[simp] theorem fz93 : E.fz 93 = false := rfl
@[simp] theorem md94 : E.md 94 = [] := rfl
@[simp] theorem mv94 (t : Nat) : E.mv 94 t = false := rfl
@[simp] theorem fz94 : E.fz 94 = false := rfl
@[simp] theorem md95 : E.md 95 = [] := rfl
@[simp] theorem mv95 (t : Nat) : E.mv 95 t = false := rfl
@[simp] theorem fz95 : E.fz 95 = false := rfl
@[simp] theorem md96 : E.md 96 = [] := rfl
@[simp] theorem mv96 (t : Nat) : E.mv 96 t = false := rfl
@[simp] theorem fz96 : E.fz 96 = false := rfl
@[simp] theorem md97 : E.md 97 = [] := rfl
@[simp] theorem mv97 (t : Nat) : E.mv 97 t = false := rfl
@[simp] theorem fz97 : E.fz 97 = false := rfl
@[simp] theorem md98 : E.md 98 = [] := rfl
@[simp] theorem mv98 (t : Nat) : E.mv 98 t = false := rfl
@[simp] theorem fz98 : E.fz 98 = false := rfl
@[simp] theorem md99 : E.md 99 = [] := rfl
@[simp] theorem mv99 (t : Nat) : E.mv 99 t = false := rfl
@[simp] theorem fz99 : E.fz 99 = false := rfl
@[simp] theorem md100 : E.md 100 = [] := rfl
@[simp] theorem mv100 (t : Nat) : E.mv 100 t = false := rfl
@[simp] theorem fz100 : E.fz 100 = false := rfl
@[simp] theorem md101 : E.md 101 = [] := rfl
@[simp] theorem mv101 (t : Nat) : E.mv 101 t = false := rfl
@[simp] theorem fz101 : E.fz 101 = false := rfl
@[simp] theorem md102 : E.md 102 = [] := rfl
@[simp] theorem mv102 (t : Nat) : E.mv 102 t = false := rfl
@[simp] theorem fz102 : E.fz 102 = false := rfl
@[simp] theorem md103 : E.md 103 = [] := rfl
@[simp] theorem mv103 (t : Nat) : E.mv 103 t = false := rfl
@[simp] theorem fz103 : E.fz 103 = false := rfl
@[simp] theorem md104 : E.md 104 = [] := rfl
@[simp] theorem mv104 (t : Nat) : E.mv 104 t = false := rfl
@[simp] theorem fz104 : E.fz 104 = false := rfl
@[simp] theorem md105 : E.md 105 = [] := rfl
@[simp] theorem mv105 (t : Nat) : E.mv 105 t = false := rfl
@[simp] theorem fz105 : E.fz 105 = false := rfl
@[simp] theorem md106 : E.md 106 = [] := rfl
@[simp] theorem mv106 (t : Nat) : E.mv 106 t = false := rfl
@[simp] theorem fz106 : E.fz 106 = false := rfl
@[simp] theorem md107 : E.md 107 = [] := rfl
@[simp] theorem mv107 (t : Nat) : E.mv 107 t = false := rfl
@[simp] theorem fz107 : E.fz 107 = false := rfl
@[simp] theorem md108 : E.md 108 = [] := rfl
@[simp] theorem mv108 (t : Nat) : E.mv 108 t = false := rfl
@[simp] theorem fz108 : E.fz 108 = false := rfl
@[simp] theorem md109 : E.md 109 = [] := rfl
@[simp] theorem mv109 (t : Nat) : E.mv 109 t = false := rfl
@[simp] theorem fz109 : E.fz 109 = false := rfl
@[simp] theorem md110 : E.md 110 = [] := rfl
@[simp] theorem mv110 (t : Nat) : E.mv 110 t = false := rfl
@[simp] theorem fz110 : E.fz 110 = false := rfl
@[simp] theorem md111 : E.md 111 = [] := rfl
@[simp] theorem mv111 (t : Nat) : E.mv 111 t = false := rfl
@[simp] theorem fz111 : E.fz 111 = false := rfl
@[simp] theorem md112 : E.md 112 = [] := rfl
@[simp] theorem mv112 (t : Nat) : E.mv 112 t = false := rfl
@[simp] theorem fz112 : E.fz 112 = false := rfl
@[simp] theorem md113 : E.md 113 = [] := rfl
@[simp] theorem mv113 (t : Nat) : E.mv 113 t = false := rfl
@[simp] theorem fz113 : E.fz 113 = false := rfl
@[simp] theorem md114 : E.md 114 = [] := rfl
@[simp] theorem mv114 (t : Nat) : E.mv 114 t = false := rfl
@[simp] theorem fz114 : E.fz 114 = false := rfl
@[simp] theorem md115 : E.md 115 = [] := rfl
@[simp] theorem mv115 (t : Nat) : E.mv 115 t = false := rfl
@[simp] theorem fz115 : E.fz 115 = false := rfl
@[simp] theorem md116 : E.md 116 = [] := rfl
@[simp] theorem mv116 (t : Nat) : E.mv 116 t = false := rfl
@[simp] theorem fz116 : E.fz 116 = false := rfl
@[simp] theorem md117 : E.md 117 = [] := rfl
@[simp] theorem mv117 (t : Nat) : E.mv 117 t = false := rfl
@[simp] theorem fz117 : E.fz 117 = false := rfl
@[simp] theorem md118 : E.md 118 = [] := rfl
@[simp] theorem mv118 (t : Nat) : E.mv 118 t = false := rfl
@[simp] theorem fz118 : E.fz 118 = false := rfl
@[simp] theorem md119 : E.md 119 = [] := rfl
@[simp] theorem mv119 (t : Nat) : E.mv 119 t = false := rfl
@[simp] theorem fz119 : E.fz 119 = false := rfl
@[simp] theorem md120 : E.md 120 = [] := rfl
@[simp] theorem mv120 (t : Nat) : E.mv 120 t = false := rfl
@[simp] theorem fz120 : E.fz 120 = false := rfl
@[simp] theorem md121 : E.md 121 = [] := rfl
@[simp] theorem mv121 (t : Nat) : E.mv 121 t = false := rfl
@[simp] theorem fz121 : E.fz 121 = false := rfl
theorem ext104 : E.ext 104 = some extIndexByte := rfl
theorem ext60 : E.ext 60 = some extSort := rfl
theorem ext62 : E.ext 62 = some (extCompact 3) := rfl
theorem extOk : ExtOk E := fun f g args res h hg => by
  simp only [E, extT] at h
  by_cases h104 : f = 104
  · subst h104
    obtain rfl := Option.some.inj h
    exact ext_indexByte (P := Tryz.prog) Tryz.func104 rfl rfl (by kernel_rfl) (by kernel_rfl) hg
  rw [if_neg h104] at h
  by_cases h60 : f = 60
  · subst h60
    obtain rfl := Option.some.inj h
    exact ext_sort sortLays hg
  rw [if_neg h60] at h
  by_cases h62 : f = 62
  · subst h62
    obtain rfl := Option.some.inj h
    exact ext_compact lays62 hg
  rw [if_neg h62] at h
  cases h
end Go.Proofs.YtoeadcefgpkdcaaGreat
