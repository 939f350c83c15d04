/- The numbers and layouts of this seat's translation, by program. -/
import Derived.Test.YtoeadcefgpkdcaaLfd
import Derived.Test.YtoeadcefgpkdcaaProg
import Derived.KernelRfl
import GoSem.Extern.Table
set_option linter.unusedSectionVars false
set_option linter.all false
set_option linter.unusedVariables false
set_option maxRecDepth 100000
namespace Go.Proofs.Ytoeadcefgpkdcaa
open Go.Lft
def mdT (f : Nat) : List Nat := if f = 78 then [0] else if f = 79 then [0] else if f = 105 then [0] else if f = 112 then [0] else if f = 110 then [0] else if f = 101 then [0] else if f = 77 then [0] else if f = 104 then [0] else if f = 69 then [0] else if f = 102 then [0] else if f = 67 then [0] else if f = 103 then [0] else if f = 116 then [0] else if f = 139 then [0] else if f = 89 then [0] else if f = 107 then [1000] else if f = 108 then [1000] else if f = 97 then [1000] else if f = 121 then [1000] else if f = 119 then [1000, 1002] else if f = 123 then [0] else []
def fzT (f : Nat) : Bool := false
def extT (f : Nat) : Option (List D → Option (D × List D)) := if f = 175 then some extIndexByte else if f = 123 then some extSort else if f = 97 then some (extDelete 3) else if f = 121 then some (extDelete 7) else if f = 119 then some (extInsert 7 27) else none
open Go.Shelf Go.Proofs in
def sortRen : Ren := {
  f := fun x => match x with
    | 189 => 123
    | 125 => 145
    | 257 => 144
    | 128 => 164
    | 129 => 165
    | 294 => 155
    | 295 => 156
    | 296 => 157
    | 297 => 158
    | 298 => 159
    | 299 => 160
    | 216 => 161
    | 300 => 162
    | 301 => 163
    | 328 => 169
    | 329 => 170
    | 330 => 171
    | 331 => 172
    | 332 => 173
    | 215 => 174
    | 343 => 176
    | n => n
  t := fun x => match x with
    | 28 => 42
    | 3 => 3
    | 46 => 140
    | 0 => 0
    | 51 => 171
    | 53 => 173
    | 4 => 4
    | 183 => 163
    | 182 => 162
    | 131 => 168
    | 5 => 5
    | 9 => 9
    | 218 => 175
    | 222 => 179
    | 228 => 181
    | 229 => 182
    | n => n
  g := fun x => x }
open Go.Shelf Go.Proofs in
theorem sortLays : Lays.n189 Try.prog sortRen where
  mixed := by first | kernel_rfl | rfl
  f125 := by first | kernel_rfl | rfl
  f128 := by first | kernel_rfl | rfl
  f129 := by first | kernel_rfl | rfl
  f189 := by first | kernel_rfl | rfl
  f215 := by first | kernel_rfl | rfl
  f216 := by first | kernel_rfl | rfl
  f257 := by first | kernel_rfl | rfl
  f294 := by first | kernel_rfl | rfl
  f295 := by first | kernel_rfl | rfl
  f296 := by first | kernel_rfl | rfl
  f297 := by first | kernel_rfl | rfl
  f298 := by first | kernel_rfl | rfl
  f299 := by first | kernel_rfl | rfl
  f300 := by first | kernel_rfl | rfl
  f301 := by first | kernel_rfl | rfl
  f328 := by first | kernel_rfl | rfl
  f329 := by first | kernel_rfl | rfl
  f330 := by first | kernel_rfl | rfl
  f331 := by first | kernel_rfl | rfl
  f332 := by first | kernel_rfl | rfl
  f343 := by first | kernel_rfl | rfl
  t0 := by first | kernel_rfl | rfl
  a0 := fun _ => by first | rfl | kernel_rfl
  z0 := fun _ => by first | rfl | kernel_rfl
  v0 := fun _ => by first | rfl | kernel_rfl
  t3 := by first | kernel_rfl | rfl
  a3 := fun _ => by first | rfl | kernel_rfl
  z3 := fun _ => by first | rfl | kernel_rfl
  v3 := fun _ => by first | rfl | kernel_rfl
  t4 := by first | kernel_rfl | rfl
  a4 := fun _ => by first | rfl | kernel_rfl
  z4 := fun _ => by first | rfl | kernel_rfl
  v4 := fun _ => by first | rfl | kernel_rfl
  t5 := by first | kernel_rfl | rfl
  a5 := fun _ => by first | rfl | kernel_rfl
  z5 := fun _ => by first | rfl | kernel_rfl
  v5 := fun _ => by first | rfl | kernel_rfl
  t9 := by first | kernel_rfl | rfl
  a9 := fun _ => by first | rfl | kernel_rfl
  z9 := fun _ => by first | rfl | kernel_rfl
  v9 := fun _ => by first | rfl | kernel_rfl
  t28 := by first | kernel_rfl | rfl
  a28 := fun _ => by first | rfl | kernel_rfl
  z28 := fun _ => by first | rfl | kernel_rfl
  v28 := fun _ => by first | rfl | kernel_rfl
  t46 := by first | kernel_rfl | rfl
  a46 := fun _ => by first | rfl | kernel_rfl
  z46 := fun _ => by first | rfl | kernel_rfl
  v46 := fun _ => by first | rfl | kernel_rfl
  t51 := by first | kernel_rfl | rfl
  a51 := fun _ => by first | rfl | kernel_rfl
  z51 := fun _ => by first | rfl | kernel_rfl
  v51 := fun _ => by first | rfl | kernel_rfl
  t53 := by first | kernel_rfl | rfl
  a53 := fun _ => by first | rfl | kernel_rfl
  z53 := fun _ => by first | rfl | kernel_rfl
  v53 := fun _ => by first | rfl | kernel_rfl
  t131 := by first | kernel_rfl | rfl
  a131 := fun _ => by first | rfl | kernel_rfl
  z131 := fun _ => by first | rfl | kernel_rfl
  v131 := fun _ => by first | rfl | kernel_rfl
  t182 := by first | kernel_rfl | rfl
  a182 := fun _ => by first | rfl | kernel_rfl
  z182 := fun _ => by first | rfl | kernel_rfl
  v182 := fun _ => by first | rfl | kernel_rfl
  t183 := by first | kernel_rfl | rfl
  a183 := fun _ => by first | rfl | kernel_rfl
  z183 := fun _ => by first | rfl | kernel_rfl
  v183 := fun _ => by first | rfl | kernel_rfl
  t218 := by first | kernel_rfl | rfl
  a218 := fun _ => by first | rfl | kernel_rfl
  z218 := fun _ => by first | rfl | kernel_rfl
  v218 := fun _ => by first | rfl | kernel_rfl
  t222 := by first | kernel_rfl | rfl
  a222 := fun _ => by first | rfl | kernel_rfl
  z222 := fun _ => by first | rfl | kernel_rfl
  v222 := fun _ => by first | rfl | kernel_rfl
  t228 := by first | kernel_rfl | rfl
  a228 := fun _ => by first | rfl | kernel_rfl
  z228 := fun _ => by first | rfl | kernel_rfl
  v228 := fun _ => by first | rfl | kernel_rfl
  t229 := by first | kernel_rfl | rfl
  a229 := fun _ => by first | rfl | kernel_rfl
  z229 := fun _ => by first | rfl | kernel_rfl
  v229 := fun _ => by first | rfl | kernel_rfl
open Go.Shelf Go.Proofs in
def ren97 : Ren := { f := fun x => match x with | 45 => 97 | n => n, t := fun x => match x with | 0 => 0 | 3 => 3 | 4 => 4 | 22 => 53 | 23 => 55 | n => n, g := fun x => x }
open Go.Shelf Go.Proofs in
theorem lays97 : SlLaysE0.n45 Try.prog ren97 where
  mixed := by first | kernel_rfl | rfl
  f45 := ⟨(Try.prog.funcs[97]!).name, by first | kernel_rfl | rfl, by first | kernel_rfl | rfl⟩
  t0 := by first | kernel_rfl | rfl
  a0 := fun _ => by first | rfl | kernel_rfl
  z0 := fun _ => by first | rfl | kernel_rfl
  v0 := fun _ => by first | rfl | kernel_rfl
  t3 := by first | kernel_rfl | rfl
  a3 := fun _ => by first | rfl | kernel_rfl
  z3 := fun _ => by first | rfl | kernel_rfl
  v3 := fun _ => by first | rfl | kernel_rfl
  t4 := by first | kernel_rfl | rfl
  a4 := fun _ => by first | rfl | kernel_rfl
  z4 := fun _ => by first | rfl | kernel_rfl
  v4 := fun _ => by first | rfl | kernel_rfl
  t22 := by first | kernel_rfl | rfl
  a22 := fun _ => by first | rfl | kernel_rfl
  z22 := fun _ => by first | rfl | kernel_rfl
  v22 := fun _ => by first | rfl | kernel_rfl
open Go.Shelf Go.Proofs in
def ren121 : Ren := { f := fun x => match x with | 45 => 121 | n => n, t := fun x => match x with | 0 => 0 | 3 => 3 | 4 => 4 | 22 => 79 | 23 => 27 | n => n, g := fun x => x }
open Go.Shelf Go.Proofs in
theorem lays121 : SlLaysE0.n45 Try.prog ren121 where
  mixed := by first | kernel_rfl | rfl
  f45 := ⟨(Try.prog.funcs[121]!).name, by first | kernel_rfl | rfl, by first | kernel_rfl | rfl⟩
  t0 := by first | kernel_rfl | rfl
  a0 := fun _ => by first | rfl | kernel_rfl
  z0 := fun _ => by first | rfl | kernel_rfl
  v0 := fun _ => by first | rfl | kernel_rfl
  t3 := by first | kernel_rfl | rfl
  a3 := fun _ => by first | rfl | kernel_rfl
  z3 := fun _ => by first | rfl | kernel_rfl
  v3 := fun _ => by first | rfl | kernel_rfl
  t4 := by first | kernel_rfl | rfl
  a4 := fun _ => by first | rfl | kernel_rfl
  z4 := fun _ => by first | rfl | kernel_rfl
  v4 := fun _ => by first | rfl | kernel_rfl
  t22 := by first | kernel_rfl | rfl
  a22 := fun _ => by first | rfl | kernel_rfl
  z22 := fun _ => by first | rfl | kernel_rfl
  v22 := fun _ => by first | rfl | kernel_rfl
open Go.Shelf Go.Proofs in
def ren119 : Ren := { f := fun x => match x with | 22 => 119 | 29 => 142 | 30 => 143 | n => n, t := fun x => match x with | 0 => 0 | 3 => 3 | 4 => 4 | 24 => 79 | 9 => 27 | n => n, g := fun x => x }
open Go.Shelf Go.Proofs in
theorem lays119 : InsLays Try.prog ren119 where
  mixed := by first | kernel_rfl | rfl
  f22 := ⟨(Try.prog.funcs[119]!).name, by first | kernel_rfl | rfl, by first | kernel_rfl | rfl⟩
  f29 := ⟨_, Try.func142, by first | kernel_rfl | rfl, by first | kernel_rfl | rfl, by first | kernel_rfl | rfl, by first | kernel_rfl | rfl⟩
  t0 := by first | kernel_rfl | rfl
  a0 := fun _ => by first | rfl | kernel_rfl
  z0 := fun _ => by first | rfl | kernel_rfl
  v0 := fun _ => by first | rfl | kernel_rfl
  t3 := by first | kernel_rfl | rfl
  a3 := fun _ => by first | rfl | kernel_rfl
  z3 := fun _ => by first | rfl | kernel_rfl
  v3 := fun _ => by first | rfl | kernel_rfl
  t4 := by first | kernel_rfl | rfl
  a4 := fun _ => by first | rfl | kernel_rfl
  z4 := fun _ => by first | rfl | kernel_rfl
  v4 := fun _ => by first | rfl | kernel_rfl
  t24 := by first | kernel_rfl | rfl
  a24 := fun _ => by first | rfl | kernel_rfl
  z24 := fun _ => by first | rfl | kernel_rfl
  v24 := fun _ => by first | rfl | kernel_rfl
def mvT (f t : Nat) : Bool := if f = 15 then t == 8 else if f = 16 then t == 8 || t == 9 else if f = 22 then t == 13 else if f = 23 then t == 13 || t == 16 else if f = 28 then t == 10 else if f = 29 then t == 9 else if f = 37 then t == 7 else if f = 38 then t == 6 || t == 8 else if f = 42 then t == 6 else if f = 43 then t == 6 else if f = 44 then t == 5 else if f = 45 then t == 5 else if f = 48 then t == 6 || t == 7 else if f = 52 then t == 6 else if f = 66 then t == 10 else if f = 67 then t == 3 else if f = 70 then t == 1 else if f = 71 then t == 3 else if f = 89 then t == 4 || t == 5 else if f = 95 then t == 3 else if f = 103 then t == 5 else if f = 116 then t == 3 else if f = 117 then t == 3 else if f = 122 then t == 5 else if f = 126 then t == 3 else if f = 127 then t == 10 || t == 16 else if f = 128 then t == 5 else if f = 139 then t == 3 else if f = 151 then t == 6 || t == 9 || t == 11 else if f = 152 then t == 6 || t == 9 else if f = 153 then t == 8 else if f = 137 then t == 1 else if f = 53 then t == 16 else false
noncomputable def E : En := { P := Try.prog, T := tbOf Try.prog, md := mdT, fz := fzT, mv := mvT, ext := extT }
@[simp] theorem E_P : E.P = Try.prog := rfl
@[simp] theorem ty1 : E.T.ty 1 = .one := by kernel_rfl
@[simp] theorem ty2 : E.T.ty 2 = .int .i64 := by kernel_rfl
@[simp] theorem zero2 : E.T.zero 2 = some (.int .i64 0) := by kernel_rfl
@[simp] theorem ty3 : E.T.ty 3 = .int .i64 := by kernel_rfl
@[simp] theorem zero3 : E.T.zero 3 = some (.int .i64 0) := by kernel_rfl
@[simp] theorem ty4 : E.T.ty 4 = .bool := by kernel_rfl
@[simp] theorem zero4 : E.T.zero 4 = some (.bool false) := by kernel_rfl
@[simp] theorem ty5 : E.T.ty 5 = .int .u8 := by kernel_rfl
@[simp] theorem zero5 : E.T.zero 5 = some (.int .u8 0) := by kernel_rfl
@[simp] theorem ty9 : E.T.ty 9 = .str := by kernel_rfl
@[simp] theorem zero9 : E.T.zero 9 = some (.str []) := by kernel_rfl
@[simp] theorem ty12 : E.T.ty 12 = .int .u64 := by kernel_rfl
@[simp] theorem zero12 : E.T.zero 12 = some (.int .u64 0) := by kernel_rfl
@[simp] theorem ty15 : E.T.ty 15 = .one := by kernel_rfl
@[simp] theorem ty16 : E.T.ty 16 = .one := by kernel_rfl
@[simp] theorem ty17 : E.T.ty 17 = .one := by kernel_rfl
@[simp] theorem ty20 : E.T.ty 20 = .iface := by kernel_rfl
@[simp] theorem zero20 : E.T.zero 20 = some (.ifc true) := by kernel_rfl
@[simp] theorem ty21 : E.T.ty 21 = .int .i32 := by kernel_rfl
@[simp] theorem zero21 : E.T.zero 21 = some (.int .i32 0) := by kernel_rfl
@[simp] theorem ty22 : E.T.ty 22 = .slice 5 1 1 := by kernel_rfl
@[simp] theorem zero22 : E.T.zero 22 = some (.lst true 5 1 []) := by kernel_rfl
@[simp] theorem ty23 : E.T.ty 23 = .one := by kernel_rfl
@[simp] theorem ty24 : E.T.ty 24 = .slice 37 4 40 := by kernel_rfl
@[simp] theorem zero24 : E.T.zero 24 = some (.lst true 37 4 []) := by kernel_rfl
@[simp] theorem ty25 : E.T.ty 25 = .slice 35 2 16 := by kernel_rfl
@[simp] theorem zero25 : E.T.zero 25 = some (.lst true 35 2 []) := by kernel_rfl
@[simp] theorem ty27 : E.T.ty 27 = .strct 7 false := by kernel_rfl
@[simp] theorem off27_0 : E.T.off 27 0 = some 0 := by kernel_rfl
@[simp] theorem fl27_0 : E.T.fl 27 0 = some (false, 1) := by kernel_rfl
@[simp] theorem off27_1 : E.T.off 27 1 = some 1 := by kernel_rfl
@[simp] theorem fl27_1 : E.T.fl 27 1 = some (false, 1) := by kernel_rfl
@[simp] theorem off27_2 : E.T.off 27 2 = some 2 := by kernel_rfl
@[simp] theorem fl27_2 : E.T.fl 27 2 = some (false, 1) := by kernel_rfl
@[simp] theorem off27_3 : E.T.off 27 3 = some 3 := by kernel_rfl
@[simp] theorem fl27_3 : E.T.fl 27 3 = some (false, 1) := by kernel_rfl
@[simp] theorem off27_4 : E.T.off 27 4 = some 4 := by kernel_rfl
@[simp] theorem fl27_4 : E.T.fl 27 4 = some (false, 1) := by kernel_rfl
@[simp] theorem off27_5 : E.T.off 27 5 = some 5 := by kernel_rfl
@[simp] theorem fl27_5 : E.T.fl 27 5 = some (false, 1) := by kernel_rfl
@[simp] theorem off27_6 : E.T.off 27 6 = some 6 := by kernel_rfl
@[simp] theorem fl27_6 : E.T.fl 27 6 = some (false, 1) := by kernel_rfl
@[simp] theorem zero27 : E.T.zero 27 = some (.agg [(.str []), (.int .i64 0), (.int .i64 0), (.int .i64 0), (.lst true 37 4 []), (.lst true 35 2 []), (.int .i64 0)]) := by kernel_rfl
@[simp] theorem ty28 : E.T.ty 28 = .one := by kernel_rfl
@[simp] theorem ty29 : E.T.ty 29 = .one := by kernel_rfl
@[simp] theorem ty31 : E.T.ty 31 = .one := by kernel_rfl
@[simp] theorem ty32 : E.T.ty 32 = .one := by kernel_rfl
@[simp] theorem ty33 : E.T.ty 33 = .one := by kernel_rfl
@[simp] theorem ty35 : E.T.ty 35 = .strct 2 true := by kernel_rfl
@[simp] theorem off35_0 : E.T.off 35 0 = some 0 := by kernel_rfl
@[simp] theorem fl35_0 : E.T.fl 35 0 = some (false, 1) := by kernel_rfl
@[simp] theorem off35_1 : E.T.off 35 1 = some 1 := by kernel_rfl
@[simp] theorem fl35_1 : E.T.fl 35 1 = some (false, 1) := by kernel_rfl
@[simp] theorem kinds35 : E.T.kinds 35 = [0, 0] := by kernel_rfl
@[simp] theorem zero35 : E.T.zero 35 = some (.agg [(.int .i64 0), (.int .i64 0)]) := by kernel_rfl
@[simp] theorem ty37 : E.T.ty 37 = .strct 4 true := by kernel_rfl
@[simp] theorem off37_0 : E.T.off 37 0 = some 0 := by kernel_rfl
@[simp] theorem fl37_0 : E.T.fl 37 0 = some (false, 1) := by kernel_rfl
@[simp] theorem off37_1 : E.T.off 37 1 = some 1 := by kernel_rfl
@[simp] theorem fl37_1 : E.T.fl 37 1 = some (false, 1) := by kernel_rfl
@[simp] theorem off37_2 : E.T.off 37 2 = some 2 := by kernel_rfl
@[simp] theorem fl37_2 : E.T.fl 37 2 = some (false, 1) := by kernel_rfl
@[simp] theorem off37_3 : E.T.off 37 3 = some 3 := by kernel_rfl
@[simp] theorem fl37_3 : E.T.fl 37 3 = some (false, 1) := by kernel_rfl
@[simp] theorem kinds37 : E.T.kinds 37 = [0, 0, 0, 1] := by kernel_rfl
@[simp] theorem zero37 : E.T.zero 37 = some (.agg [(.int .i64 0), (.int .i64 0), (.int .i64 0), (.str [])]) := by kernel_rfl
@[simp] theorem ty38 : E.T.ty 38 = .one := by kernel_rfl
@[simp] theorem ty39 : E.T.ty 39 = .slice 112 2 16 := by kernel_rfl
@[simp] theorem zero39 : E.T.zero 39 = some (.lst true 112 2 []) := by kernel_rfl
@[simp] theorem ty41 : E.T.ty 41 = .one := by kernel_rfl
@[simp] theorem ty42 : E.T.ty 42 = .slice 3 1 8 := by kernel_rfl
@[simp] theorem zero42 : E.T.zero 42 = some (.lst true 3 1 []) := by kernel_rfl
@[simp] theorem ty43 : E.T.ty 43 = .one := by kernel_rfl
@[simp] theorem ty45 : E.T.ty 45 = .one := by kernel_rfl
@[simp] theorem ty46 : E.T.ty 46 = .one := by kernel_rfl
@[simp] theorem ty47 : E.T.ty 47 = .one := by kernel_rfl
@[simp] theorem ty48 : E.T.ty 48 = .one := by kernel_rfl
@[simp] theorem ty50 : E.T.ty 50 = .strct 4 false := by kernel_rfl
@[simp] theorem off50_0 : E.T.off 50 0 = some 0 := by kernel_rfl
@[simp] theorem fl50_0 : E.T.fl 50 0 = some (false, 1) := by kernel_rfl
@[simp] theorem off50_1 : E.T.off 50 1 = some 1 := by kernel_rfl
@[simp] theorem fl50_1 : E.T.fl 50 1 = some (false, 1) := by kernel_rfl
@[simp] theorem off50_2 : E.T.off 50 2 = some 2 := by kernel_rfl
@[simp] theorem fl50_2 : E.T.fl 50 2 = some (false, 1) := by kernel_rfl
@[simp] theorem off50_3 : E.T.off 50 3 = some 3 := by kernel_rfl
@[simp] theorem fl50_3 : E.T.fl 50 3 = some (false, 1) := by kernel_rfl
@[simp] theorem zero50 : E.T.zero 50 = some (.agg [(.str []), (.int .i64 0), (.lst true 3 1 []), (.int .i64 0)]) := by kernel_rfl
@[simp] theorem ty52 : E.T.ty 52 = .one := by kernel_rfl
@[simp] theorem ty53 : E.T.ty 53 = .slice 55 3 24 := by kernel_rfl
@[simp] theorem zero53 : E.T.zero 53 = some (.lst true 55 3 []) := by kernel_rfl
@[simp] theorem ty55 : E.T.ty 55 = .strct 3 true := by kernel_rfl
@[simp] theorem off55_0 : E.T.off 55 0 = some 0 := by kernel_rfl
@[simp] theorem fl55_0 : E.T.fl 55 0 = some (false, 1) := by kernel_rfl
@[simp] theorem off55_1 : E.T.off 55 1 = some 1 := by kernel_rfl
@[simp] theorem fl55_1 : E.T.fl 55 1 = some (false, 1) := by kernel_rfl
@[simp] theorem off55_2 : E.T.off 55 2 = some 2 := by kernel_rfl
@[simp] theorem fl55_2 : E.T.fl 55 2 = some (false, 1) := by kernel_rfl
@[simp] theorem kinds55 : E.T.kinds 55 = [0, 0, 0] := by kernel_rfl
@[simp] theorem zero55 : E.T.zero 55 = some (.agg [(.int .i64 0), (.int .i64 0), (.int .i64 0)]) := by kernel_rfl
@[simp] theorem ty56 : E.T.ty 56 = .slice 61 7 72 := by kernel_rfl
@[simp] theorem zero56 : E.T.zero 56 = some (.lst true 61 7 []) := by kernel_rfl
@[simp] theorem ty58 : E.T.ty 58 = .one := by kernel_rfl
@[simp] theorem ty59 : E.T.ty 59 = .one := by kernel_rfl
@[simp] theorem ty61 : E.T.ty 61 = .strct 7 false := by kernel_rfl
@[simp] theorem off61_0 : E.T.off 61 0 = some 0 := by kernel_rfl
@[simp] theorem fl61_0 : E.T.fl 61 0 = some (false, 1) := by kernel_rfl
@[simp] theorem off61_1 : E.T.off 61 1 = some 1 := by kernel_rfl
@[simp] theorem fl61_1 : E.T.fl 61 1 = some (false, 1) := by kernel_rfl
@[simp] theorem off61_2 : E.T.off 61 2 = some 2 := by kernel_rfl
@[simp] theorem fl61_2 : E.T.fl 61 2 = some (false, 1) := by kernel_rfl
@[simp] theorem off61_3 : E.T.off 61 3 = some 3 := by kernel_rfl
@[simp] theorem fl61_3 : E.T.fl 61 3 = some (false, 1) := by kernel_rfl
@[simp] theorem off61_4 : E.T.off 61 4 = some 4 := by kernel_rfl
@[simp] theorem fl61_4 : E.T.fl 61 4 = some (false, 1) := by kernel_rfl
@[simp] theorem off61_5 : E.T.off 61 5 = some 5 := by kernel_rfl
@[simp] theorem fl61_5 : E.T.fl 61 5 = some (false, 1) := by kernel_rfl
@[simp] theorem off61_6 : E.T.off 61 6 = some 6 := by kernel_rfl
@[simp] theorem fl61_6 : E.T.fl 61 6 = some (false, 1) := by kernel_rfl
@[simp] theorem zero61 : E.T.zero 61 = some (.agg [(.int .i64 0), (.int .i64 0), (.int .i64 0), (.int .i64 0), (.int .i64 0), (.lst true 112 2 []), (.bool false)]) := by kernel_rfl
@[simp] theorem ty62 : E.T.ty 62 = .one := by kernel_rfl
@[simp] theorem ty63 : E.T.ty 63 = .one := by kernel_rfl
@[simp] theorem ty64 : E.T.ty 64 = .one := by kernel_rfl
@[simp] theorem ty65 : E.T.ty 65 = .one := by kernel_rfl
@[simp] theorem ty67 : E.T.ty 67 = .one := by kernel_rfl
@[simp] theorem ty69 : E.T.ty 69 = .one := by kernel_rfl
@[simp] theorem ty70 : E.T.ty 70 = .one := by kernel_rfl
@[simp] theorem ty72 : E.T.ty 72 = .one := by kernel_rfl
@[simp] theorem ty73 : E.T.ty 73 = .one := by kernel_rfl
@[simp] theorem ty75 : E.T.ty 75 = .one := by kernel_rfl
@[simp] theorem ty77 : E.T.ty 77 = .one := by kernel_rfl
@[simp] theorem ty78 : E.T.ty 78 = .one := by kernel_rfl
@[simp] theorem ty79 : E.T.ty 79 = .slice 27 7 96 := by kernel_rfl
@[simp] theorem zero79 : E.T.zero 79 = some (.lst true 27 7 []) := by kernel_rfl
@[simp] theorem ty81 : E.T.ty 81 = .strct 2 false := by kernel_rfl
@[simp] theorem off81_0 : E.T.off 81 0 = some 0 := by kernel_rfl
@[simp] theorem fl81_0 : E.T.fl 81 0 = some (false, 1) := by kernel_rfl
@[simp] theorem off81_1 : E.T.off 81 1 = some 1 := by kernel_rfl
@[simp] theorem fl81_1 : E.T.fl 81 1 = some (false, 1) := by kernel_rfl
@[simp] theorem zero81 : E.T.zero 81 = some (.agg [(.lst true 27 7 []), (.int .i64 0)]) := by kernel_rfl
@[simp] theorem ty82 : E.T.ty 82 = .one := by kernel_rfl
@[simp] theorem ty84 : E.T.ty 84 = .one := by kernel_rfl
@[simp] theorem ty85 : E.T.ty 85 = .one := by kernel_rfl
@[simp] theorem ty86 : E.T.ty 86 = .one := by kernel_rfl
@[simp] theorem ty87 : E.T.ty 87 = .one := by kernel_rfl
@[simp] theorem ty88 : E.T.ty 88 = .one := by kernel_rfl
@[simp] theorem ty89 : E.T.ty 89 = .one := by kernel_rfl
@[simp] theorem ty91 : E.T.ty 91 = .one := by kernel_rfl
@[simp] theorem ty92 : E.T.ty 92 = .one := by kernel_rfl
@[simp] theorem ty93 : E.T.ty 93 = .one := by kernel_rfl
@[simp] theorem ty94 : E.T.ty 94 = .one := by kernel_rfl
@[simp] theorem ty95 : E.T.ty 95 = .one := by kernel_rfl
@[simp] theorem ty96 : E.T.ty 96 = .one := by kernel_rfl
@[simp] theorem ty97 : E.T.ty 97 = .one := by kernel_rfl
@[simp] theorem ty98 : E.T.ty 98 = .one := by kernel_rfl
@[simp] theorem ty99 : E.T.ty 99 = .one := by kernel_rfl
@[simp] theorem ty100 : E.T.ty 100 = .one := by kernel_rfl
@[simp] theorem ty101 : E.T.ty 101 = .one := by kernel_rfl
@[simp] theorem ty102 : E.T.ty 102 = .one := by kernel_rfl
@[simp] theorem ty103 : E.T.ty 103 = .one := by kernel_rfl
@[simp] theorem ty104 : E.T.ty 104 = .one := by kernel_rfl
@[simp] theorem ty105 : E.T.ty 105 = .one := by kernel_rfl
@[simp] theorem ty106 : E.T.ty 106 = .one := by kernel_rfl
@[simp] theorem ty107 : E.T.ty 107 = .one := by kernel_rfl
@[simp] theorem ty108 : E.T.ty 108 = .one := by kernel_rfl
@[simp] theorem ty109 : E.T.ty 109 = .one := by kernel_rfl
@[simp] theorem ty110 : E.T.ty 110 = .one := by kernel_rfl
@[simp] theorem ty112 : E.T.ty 112 = .strct 2 true := by kernel_rfl
@[simp] theorem off112_0 : E.T.off 112 0 = some 0 := by kernel_rfl
@[simp] theorem fl112_0 : E.T.fl 112 0 = some (false, 1) := by kernel_rfl
@[simp] theorem off112_1 : E.T.off 112 1 = some 1 := by kernel_rfl
@[simp] theorem fl112_1 : E.T.fl 112 1 = some (false, 1) := by kernel_rfl
@[simp] theorem kinds112 : E.T.kinds 112 = [0, 0] := by kernel_rfl
@[simp] theorem zero112 : E.T.zero 112 = some (.agg [(.int .i64 0), (.int .i64 0)]) := by kernel_rfl
@[simp] theorem ty113 : E.T.ty 113 = .one := by kernel_rfl
@[simp] theorem ty114 : E.T.ty 114 = .one := by kernel_rfl
@[simp] theorem ty115 : E.T.ty 115 = .one := by kernel_rfl
@[simp] theorem ty116 : E.T.ty 116 = .one := by kernel_rfl
@[simp] theorem ty117 : E.T.ty 117 = .one := by kernel_rfl
@[simp] theorem ty118 : E.T.ty 118 = .one := by kernel_rfl
@[simp] theorem ty119 : E.T.ty 119 = .one := by kernel_rfl
@[simp] theorem ty120 : E.T.ty 120 = .one := by kernel_rfl
@[simp] theorem ty121 : E.T.ty 121 = .one := by kernel_rfl
@[simp] theorem ty122 : E.T.ty 122 = .one := by kernel_rfl
@[simp] theorem ty123 : E.T.ty 123 = .one := by kernel_rfl
@[simp] theorem ty124 : E.T.ty 124 = .one := by kernel_rfl
@[simp] theorem ty125 : E.T.ty 125 = .one := by kernel_rfl
@[simp] theorem ty126 : E.T.ty 126 = .one := by kernel_rfl
@[simp] theorem ty127 : E.T.ty 127 = .one := by kernel_rfl
@[simp] theorem ty128 : E.T.ty 128 = .slice 9 1 16 := by kernel_rfl
@[simp] theorem zero128 : E.T.zero 128 = some (.lst true 9 1 []) := by kernel_rfl
@[simp] theorem ty129 : E.T.ty 129 = .one := by kernel_rfl
@[simp] theorem ty130 : E.T.ty 130 = .one := by kernel_rfl
@[simp] theorem ty131 : E.T.ty 131 = .one := by kernel_rfl
@[simp] theorem ty132 : E.T.ty 132 = .one := by kernel_rfl
@[simp] theorem ty133 : E.T.ty 133 = .one := by kernel_rfl
@[simp] theorem ty134 : E.T.ty 134 = .one := by kernel_rfl
@[simp] theorem ty135 : E.T.ty 135 = .one := by kernel_rfl
@[simp] theorem ty136 : E.T.ty 136 = .one := by kernel_rfl
@[simp] theorem ty138 : E.T.ty 138 = .strct 3 false := by kernel_rfl
@[simp] theorem off138_0 : E.T.off 138 0 = some 0 := by kernel_rfl
@[simp] theorem fl138_0 : E.T.fl 138 0 = some (false, 1) := by kernel_rfl
@[simp] theorem off138_1 : E.T.off 138 1 = some 1 := by kernel_rfl
@[simp] theorem fl138_1 : E.T.fl 138 1 = some (false, 1) := by kernel_rfl
@[simp] theorem off138_2 : E.T.off 138 2 = some 2 := by kernel_rfl
@[simp] theorem fl138_2 : E.T.fl 138 2 = some (false, 1) := by kernel_rfl
@[simp] theorem zero138 : E.T.zero 138 = some (.agg [(.lst true 5 1 []), (.int .i64 0), (.int .i64 0)]) := by kernel_rfl
@[simp] theorem ty139 : E.T.ty 139 = .one := by kernel_rfl
@[simp] theorem ty140 : E.T.ty 140 = .int .u64 := by kernel_rfl
@[simp] theorem zero140 : E.T.zero 140 = some (.int .u64 0) := by kernel_rfl
@[simp] theorem ty141 : E.T.ty 141 = .one := by kernel_rfl
@[simp] theorem ty142 : E.T.ty 142 = .one := by kernel_rfl
@[simp] theorem ty143 : E.T.ty 143 = .one := by kernel_rfl
@[simp] theorem ty144 : E.T.ty 144 = .one := by kernel_rfl
@[simp] theorem ty145 : E.T.ty 145 = .one := by kernel_rfl
@[simp] theorem ty146 : E.T.ty 146 = .one := by kernel_rfl
@[simp] theorem ty148 : E.T.ty 148 = .strct 8 false := by kernel_rfl
@[simp] theorem off148_0 : E.T.off 148 0 = some 0 := by kernel_rfl
@[simp] theorem fl148_0 : E.T.fl 148 0 = some (false, 1) := by kernel_rfl
@[simp] theorem off148_1 : E.T.off 148 1 = some 1 := by kernel_rfl
@[simp] theorem fl148_1 : E.T.fl 148 1 = some (false, 1) := by kernel_rfl
@[simp] theorem off148_2 : E.T.off 148 2 = some 2 := by kernel_rfl
@[simp] theorem fl148_2 : E.T.fl 148 2 = some (false, 1) := by kernel_rfl
@[simp] theorem off148_3 : E.T.off 148 3 = some 3 := by kernel_rfl
@[simp] theorem fl148_3 : E.T.fl 148 3 = some (false, 1) := by kernel_rfl
@[simp] theorem off148_4 : E.T.off 148 4 = some 4 := by kernel_rfl
@[simp] theorem fl148_4 : E.T.fl 148 4 = some (false, 1) := by kernel_rfl
@[simp] theorem off148_5 : E.T.off 148 5 = some 5 := by kernel_rfl
@[simp] theorem fl148_5 : E.T.fl 148 5 = some (false, 1) := by kernel_rfl
@[simp] theorem off148_6 : E.T.off 148 6 = some 6 := by kernel_rfl
@[simp] theorem fl148_6 : E.T.fl 148 6 = some (false, 1) := by kernel_rfl
@[simp] theorem off148_7 : E.T.off 148 7 = some 7 := by kernel_rfl
@[simp] theorem fl148_7 : E.T.fl 148 7 = some (false, 1) := by kernel_rfl
@[simp] theorem zero148 : E.T.zero 148 = some (.agg [(.int .i64 0), (.str []), (.str []), (.lst true 112 2 []), (.int .i64 0), (.int .i64 0), (.int .i64 0), (.str [])]) := by kernel_rfl
@[simp] theorem ty149 : E.T.ty 149 = .one := by kernel_rfl
@[simp] theorem ty150 : E.T.ty 150 = .one := by kernel_rfl
@[simp] theorem ty151 : E.T.ty 151 = .one := by kernel_rfl
@[simp] theorem ty152 : E.T.ty 152 = .one := by kernel_rfl
@[simp] theorem ty153 : E.T.ty 153 = .one := by kernel_rfl
@[simp] theorem ty154 : E.T.ty 154 = .one := by kernel_rfl
@[simp] theorem ty155 : E.T.ty 155 = .one := by kernel_rfl
@[simp] theorem ty156 : E.T.ty 156 = .slice 4 1 1 := by kernel_rfl
@[simp] theorem zero156 : E.T.zero 156 = some (.lst true 4 1 []) := by kernel_rfl
@[simp] theorem ty157 : E.T.ty 157 = .one := by kernel_rfl
@[simp] theorem ty158 : E.T.ty 158 = .one := by kernel_rfl
@[simp] theorem ty159 : E.T.ty 159 = .one := by kernel_rfl
@[simp] theorem ty160 : E.T.ty 160 = .one := by kernel_rfl
@[simp] theorem ty161 : E.T.ty 161 = .one := by kernel_rfl
@[simp] theorem ty164 : E.T.ty 164 = .one := by kernel_rfl
@[simp] theorem ty165 : E.T.ty 165 = .one := by kernel_rfl
@[simp] theorem ty166 : E.T.ty 166 = .one := by kernel_rfl
@[simp] theorem ty167 : E.T.ty 167 = .one := by kernel_rfl
@[simp] theorem ty169 : E.T.ty 169 = .one := by kernel_rfl
@[simp] theorem ty170 : E.T.ty 170 = .one := by kernel_rfl
@[simp] theorem ty171 : E.T.ty 171 = .int .u32 := by kernel_rfl
@[simp] theorem zero171 : E.T.zero 171 = some (.int .u32 0) := by kernel_rfl
@[simp] theorem ty172 : E.T.ty 172 = .one := by kernel_rfl
@[simp] theorem ty173 : E.T.ty 173 = .int .u64 := by kernel_rfl
@[simp] theorem zero173 : E.T.zero 173 = some (.int .u64 0) := by kernel_rfl
@[simp] theorem ty174 : E.T.ty 174 = .one := by kernel_rfl
@[simp] theorem ty176 : E.T.ty 176 = .one := by kernel_rfl
@[simp] theorem ty177 : E.T.ty 177 = .one := by kernel_rfl
@[simp] theorem ty178 : E.T.ty 178 = .one := by kernel_rfl
@[simp] theorem ty179 : E.T.ty 179 = .one := by kernel_rfl
@[simp] theorem ty180 : E.T.ty 180 = .one := by kernel_rfl
@[simp] theorem ty181 : E.T.ty 181 = .one := by kernel_rfl
@[simp] theorem ty183 : E.T.ty 183 = .one := by kernel_rfl
@[simp] theorem ty184 : E.T.ty 184 = .one := by kernel_rfl
@[simp] theorem ty190 : E.T.ty 190 = .one := by kernel_rfl
@[simp] theorem ty193 : E.T.ty 193 = .one := by kernel_rfl
@[simp] theorem ty194 : E.T.ty 194 = .one := by kernel_rfl
@[simp] theorem md3 : E.md 3 = [] := rfl
@[simp] theorem mv3 (t : Nat) : E.mv 3 t = false := rfl
@[simp] theorem fz3 : E.fz 3 = false := rfl
@[simp] theorem md4 : E.md 4 = [] := rfl
@[simp] theorem mv4 (t : Nat) : E.mv 4 t = false := rfl
@[simp] theorem fz4 : E.fz 4 = false := rfl
@[simp] theorem md5 : E.md 5 = [] := rfl
@[simp] theorem mv5 (t : Nat) : E.mv 5 t = false := rfl
@[simp] theorem fz5 : E.fz 5 = false := rfl
@[simp] theorem md6 : E.md 6 = [] := rfl
@[simp] theorem mv6 (t : Nat) : E.mv 6 t = false := rfl
@[simp] theorem fz6 : E.fz 6 = false := rfl
@[simp] theorem md7 : E.md 7 = [] := rfl
@[simp] theorem mv7 (t : Nat) : E.mv 7 t = false := rfl
@[simp] theorem fz7 : E.fz 7 = false := rfl
@[simp] theorem md8 : E.md 8 = [] := rfl
@[simp] theorem mv8 (t : Nat) : E.mv 8 t = false := rfl
@[simp] theorem fz8 : E.fz 8 = false := rfl
@[simp] theorem md9 : E.md 9 = [] := rfl
@[simp] theorem mv9 (t : Nat) : E.mv 9 t = false := rfl
@[simp] theorem fz9 : E.fz 9 = false := rfl
@[simp] theorem md10 : E.md 10 = [] := rfl
@[simp] theorem mv10 (t : Nat) : E.mv 10 t = false := rfl
@[simp] theorem fz10 : E.fz 10 = false := rfl
@[simp] theorem md11 : E.md 11 = [] := rfl
@[simp] theorem mv11 (t : Nat) : E.mv 11 t = false := rfl
@[simp] theorem fz11 : E.fz 11 = false := rfl
@[simp] theorem md12 : E.md 12 = [] := rfl
@[simp] theorem mv12 (t : Nat) : E.mv 12 t = false := rfl
@[simp] theorem fz12 : E.fz 12 = false := rfl
@[simp] theorem md13 : E.md 13 = [] := rfl
@[simp] theorem mv13 (t : Nat) : E.mv 13 t = false := rfl
@[simp] theorem fz13 : E.fz 13 = false := rfl
@[simp] theorem md14 : E.md 14 = [] := rfl
@[simp] theorem mv14 (t : Nat) : E.mv 14 t = false := rfl
@[simp] theorem fz14 : E.fz 14 = false := rfl
@[simp] theorem md15 : E.md 15 = [] := rfl
@[simp] theorem mv15 (t : Nat) : E.mv 15 t = (t == 8) := rfl
@[simp] theorem fz15 : E.fz 15 = false := rfl
@[simp] theorem md16 : E.md 16 = [] := rfl
@[simp] theorem mv16 (t : Nat) : E.mv 16 t = (t == 8 || t == 9) := rfl
@[simp] theorem fz16 : E.fz 16 = false := rfl
@[simp] theorem md17 : E.md 17 = [] := rfl
@[simp] theorem mv17 (t : Nat) : E.mv 17 t = false := rfl
@[simp] theorem fz17 : E.fz 17 = false := rfl
@[simp] theorem md18 : E.md 18 = [] := rfl
@[simp] theorem mv18 (t : Nat) : E.mv 18 t = false := rfl
@[simp] theorem fz18 : E.fz 18 = false := rfl
@[simp] theorem md19 : E.md 19 = [] := rfl
@[simp] theorem mv19 (t : Nat) : E.mv 19 t = false := rfl
@[simp] theorem fz19 : E.fz 19 = false := rfl
@[simp] theorem md20 : E.md 20 = [] := rfl
@[simp] theorem mv20 (t : Nat) : E.mv 20 t = false := rfl
@[simp] theorem fz20 : E.fz 20 = false := rfl
@[simp] theorem md21 : E.md 21 = [] := rfl
@[simp] theorem mv21 (t : Nat) : E.mv 21 t = false := rfl
@[simp] theorem fz21 : E.fz 21 = false := rfl
@[simp] theorem md22 : E.md 22 = [] := rfl
@[simp] theorem mv22 (t : Nat) : E.mv 22 t = (t == 13) := rfl
@[simp] theorem fz22 : E.fz 22 = false := rfl
@[simp] theorem md23 : E.md 23 = [] := rfl
@[simp] theorem mv23 (t : Nat) : E.mv 23 t = (t == 13 || t == 16) := rfl
@[simp] theorem fz23 : E.fz 23 = false := rfl
@[simp] theorem md24 : E.md 24 = [] := rfl
@[simp] theorem mv24 (t : Nat) : E.mv 24 t = false := rfl
@[simp] theorem fz24 : E.fz 24 = false := rfl
@[simp] theorem md25 : E.md 25 = [] := rfl
@[simp] theorem mv25 (t : Nat) : E.mv 25 t = false := rfl
@[simp] theorem fz25 : E.fz 25 = false := rfl
@[simp] theorem md26 : E.md 26 = [] := rfl
@[simp] theorem mv26 (t : Nat) : E.mv 26 t = false := rfl
@[simp] theorem fz26 : E.fz 26 = false := rfl
@[simp] theorem md27 : E.md 27 = [] := rfl
@[simp] theorem mv27 (t : Nat) : E.mv 27 t = false := rfl
@[simp] theorem fz27 : E.fz 27 = false := rfl
@[simp] theorem md28 : E.md 28 = [] := rfl
@[simp] theorem mv28 (t : Nat) : E.mv 28 t = (t == 10) := rfl
@[simp] theorem fz28 : E.fz 28 = false := rfl
@[simp] theorem md29 : E.md 29 = [] := rfl
@[simp] theorem mv29 (t : Nat) : E.mv 29 t = (t == 9) := rfl
@[simp] theorem fz29 : E.fz 29 = false := rfl
@[simp] theorem md30 : E.md 30 = [] := rfl
@[simp] theorem mv30 (t : Nat) : E.mv 30 t = false := rfl
@[simp] theorem fz30 : E.fz 30 = false := rfl
@[simp] theorem md31 : E.md 31 = [] := rfl
@[simp] theorem mv31 (t : Nat) : E.mv 31 t = false := rfl
@[simp] theorem fz31 : E.fz 31 = false := rfl
@[simp] theorem md32 : E.md 32 = [] := rfl
@[simp] theorem mv32 (t : Nat) : E.mv 32 t = false := rfl
@[simp] theorem fz32 : E.fz 32 = false := rfl
@[simp] theorem md33 : E.md 33 = [] := rfl
@[simp] theorem mv33 (t : Nat) : E.mv 33 t = false := rfl
@[simp] theorem fz33 : E.fz 33 = false := rfl
@[simp] theorem md34 : E.md 34 = [] := rfl
@[simp] theorem mv34 (t : Nat) : E.mv 34 t = false := rfl
@[simp] theorem fz34 : E.fz 34 = false := rfl
@[simp] theorem md35 : E.md 35 = [] := rfl
@[simp] theorem mv35 (t : Nat) : E.mv 35 t = false := rfl
@[simp] theorem fz35 : E.fz 35 = false := rfl
@[simp] theorem md36 : E.md 36 = [] := rfl
@[simp] theorem mv36 (t : Nat) : E.mv 36 t = false := rfl
@[simp] theorem fz36 : E.fz 36 = false := rfl
@[simp] theorem md37 : E.md 37 = [] := rfl
@[simp] theorem mv37 (t : Nat) : E.mv 37 t = (t == 7) := rfl
@[simp] theorem fz37 : E.fz 37 = false := rfl
@[simp] theorem md38 : E.md 38 = [] := rfl
@[simp] theorem mv38 (t : Nat) : E.mv 38 t = (t == 6 || t == 8) := rfl
@[simp] theorem fz38 : E.fz 38 = false := rfl
@[simp] theorem md39 : E.md 39 = [] := rfl
@[simp] theorem mv39 (t : Nat) : E.mv 39 t = false := rfl
@[simp] theorem fz39 : E.fz 39 = false := rfl
@[simp] theorem md40 : E.md 40 = [] := rfl
@[simp] theorem mv40 (t : Nat) : E.mv 40 t = false := rfl
@[simp] theorem fz40 : E.fz 40 = false := rfl
@[simp] theorem md41 : E.md 41 = [] := rfl
@[simp] theorem mv41 (t : Nat) : E.mv 41 t = false := rfl
@[simp] theorem fz41 : E.fz 41 = false := rfl
@[simp] theorem md42 : E.md 42 = [] := rfl
@[simp] theorem mv42 (t : Nat) : E.mv 42 t = (t == 6) := rfl
@[simp] theorem fz42 : E.fz 42 = false := rfl
@[simp] theorem md43 : E.md 43 = [] := rfl
@[simp] theorem mv43 (t : Nat) : E.mv 43 t = (t == 6) := rfl
@[simp] theorem fz43 : E.fz 43 = false := rfl
@[simp] theorem md44 : E.md 44 = [] := rfl
@[simp] theorem mv44 (t : Nat) : E.mv 44 t = (t == 5) := rfl
@[simp] theorem fz44 : E.fz 44 = false := rfl
@[simp] theorem md45 : E.md 45 = [] := rfl
@[simp] theorem mv45 (t : Nat) : E.mv 45 t = (t == 5) := rfl
@[simp] theorem fz45 : E.fz 45 = false := rfl
@[simp] theorem md46 : E.md 46 = [] := rfl
@[simp] theorem mv46 (t : Nat) : E.mv 46 t = false := rfl
@[simp] theorem fz46 : E.fz 46 = false := rfl
@[simp] theorem md47 : E.md 47 = [] := rfl
@[simp] theorem mv47 (t : Nat) : E.mv 47 t = false := rfl
@[simp] theorem fz47 : E.fz 47 = false := rfl
@[simp] theorem md48 : E.md 48 = [] := rfl
@[simp] theorem mv48 (t : Nat) : E.mv 48 t = (t == 6 || t == 7) := rfl
@[simp] theorem fz48 : E.fz 48 = false := rfl
@[simp] theorem md49 : E.md 49 = [] := rfl
@[simp] theorem mv49 (t : Nat) : E.mv 49 t = false := rfl
@[simp] theorem fz49 : E.fz 49 = false := rfl
@[simp] theorem md50 : E.md 50 = [] := rfl
@[simp] theorem mv50 (t : Nat) : E.mv 50 t = false := rfl
@[simp] theorem fz50 : E.fz 50 = false := rfl
@[simp] theorem md51 : E.md 51 = [] := rfl
@[simp] theorem mv51 (t : Nat) : E.mv 51 t = false := rfl
@[simp] theorem fz51 : E.fz 51 = false := rfl
@[simp] theorem md52 : E.md 52 = [] := rfl
@[simp] theorem mv52 (t : Nat) : E.mv 52 t = (t == 6) := rfl
@[simp] theorem fz52 : E.fz 52 = false := rfl
@[simp] theorem md53 : E.md 53 = [] := rfl
@[simp] theorem mv53 (t : Nat) : E.mv 53 t = (t == 16) := rfl
@[simp] theorem fz53 : E.fz 53 = false := rfl
@[simp] theorem md54 : E.md 54 = [] := rfl
@[simp] theorem mv54 (t : Nat) : E.mv 54 t = false := rfl
@[simp] theorem fz54 : E.fz 54 = false := rfl
@[simp] theorem md55 : E.md 55 = [] := rfl
@[simp] theorem mv55 (t : Nat) : E.mv 55 t = false := rfl
@[simp] theorem fz55 : E.fz 55 = false := rfl
@[simp] theorem md56 : E.md 56 = [] := rfl
@[simp] theorem mv56 (t : Nat) : E.mv 56 t = false := rfl
@[simp] theorem fz56 : E.fz 56 = false := rfl
@[simp] theorem md57 : E.md 57 = [] := rfl
@[simp] theorem mv57 (t : Nat) : E.mv 57 t = false := rfl
@[simp] theorem fz57 : E.fz 57 = false := rfl
@[simp] theorem md58 : E.md 58 = [] := rfl
@[simp] theorem mv58 (t : Nat) : E.mv 58 t = false := rfl
@[simp] theorem fz58 : E.fz 58 = false := rfl
@[simp] theorem md59 : E.md 59 = [] := rfl
@[simp] theorem mv59 (t : Nat) : E.mv 59 t = false := rfl
@[simp] theorem fz59 : E.fz 59 = false := rfl
@[simp] theorem md60 : E.md 60 = [] := rfl
@[simp] theorem mv60 (t : Nat) : E.mv 60 t = false := rfl
@[simp] theorem fz60 : E.fz 60 = false := rfl
@[simp] theorem md61 : E.md 61 = [] := rfl
@[simp] theorem mv61 (t : Nat) : E.mv 61 t = false := rfl
@[simp] theorem fz61 : E.fz 61 = false := rfl
@[simp] theorem md62 : E.md 62 = [] := rfl
@[simp] theorem mv62 (t : Nat) : E.mv 62 t = false := rfl
@[simp] theorem fz62 : E.fz 62 = false := rfl
@[simp] theorem md63 : E.md 63 = [] := rfl
@[simp] theorem mv63 (t : Nat) : E.mv 63 t = false := rfl
@[simp] theorem fz63 : E.fz 63 = false := rfl
@[simp] theorem md64 : E.md 64 = [] := rfl
@[simp] theorem mv64 (t : Nat) : E.mv 64 t = false := rfl
@[simp] theorem fz64 : E.fz 64 = false := rfl
@[simp] theorem md65 : E.md 65 = [] := rfl
@[simp] theorem mv65 (t : Nat) : E.mv 65 t = false := rfl
@[simp] theorem fz65 : E.fz 65 = false := rfl
@[simp] theorem md66 : E.md 66 = [] := rfl
@[simp] theorem mv66 (t : Nat) : E.mv 66 t = (t == 10) := rfl
@[simp] theorem fz66 : E.fz 66 = false := rfl
@[simp] theorem md67 : E.md 67 = [0] := rfl
@[simp] theorem mv67 (t : Nat) : E.mv 67 t = (t == 3) := rfl
@[simp] theorem fz67 : E.fz 67 = false := rfl
@[simp] theorem md68 : E.md 68 = [] := rfl
@[simp] theorem mv68 (t : Nat) : E.mv 68 t = false := rfl
@[simp] theorem fz68 : E.fz 68 = false := rfl
@[simp] theorem md69 : E.md 69 = [0] := rfl
@[simp] theorem mv69 (t : Nat) : E.mv 69 t = false := rfl
@[simp] theorem fz69 : E.fz 69 = false := rfl
@[simp] theorem md70 : E.md 70 = [] := rfl
@[simp] theorem mv70 (t : Nat) : E.mv 70 t = (t == 1) := rfl
@[simp] theorem fz70 : E.fz 70 = false := rfl
@[simp] theorem md71 : E.md 71 = [] := rfl
@[simp] theorem mv71 (t : Nat) : E.mv 71 t = (t == 3) := rfl
@[simp] theorem fz71 : E.fz 71 = false := rfl
@[simp] theorem md72 : E.md 72 = [] := rfl
@[simp] theorem mv72 (t : Nat) : E.mv 72 t = false := rfl
@[simp] theorem fz72 : E.fz 72 = false := rfl
@[simp] theorem md73 : E.md 73 = [] := rfl
@[simp] theorem mv73 (t : Nat) : E.mv 73 t = false := rfl
@[simp] theorem fz73 : E.fz 73 = false := rfl
@[simp] theorem md74 : E.md 74 = [] := rfl
@[simp] theorem mv74 (t : Nat) : E.mv 74 t = false := rfl
@[simp] theorem fz74 : E.fz 74 = false := rfl
@[simp] theorem md75 : E.md 75 = [] := rfl
@[simp] theorem mv75 (t : Nat) : E.mv 75 t = false := rfl
@[simp] theorem fz75 : E.fz 75 = false := rfl
@[simp] theorem md76 : E.md 76 = [] := rfl
@[simp] theorem mv76 (t : Nat) : E.mv 76 t = false := rfl
@[simp] theorem fz76 : E.fz 76 = false := rfl
@[simp] theorem md77 : E.md 77 = [0] := rfl
@[simp] theorem mv77 (t : Nat) : E.mv 77 t = false := rfl
@[simp] theorem fz77 : E.fz 77 = false := rfl
@[simp] theorem md78 : E.md 78 = [0] := rfl
@[simp] theorem mv78 (t : Nat) : E.mv 78 t = false := rfl
@[simp] theorem fz78 : E.fz 78 = false := rfl
@[simp] theorem md79 : E.md 79 = [0] := rfl
@[simp] theorem mv79 (t : Nat) : E.mv 79 t = false := rfl
@[simp] theorem fz79 : E.fz 79 = false := rfl
@[simp] theorem md80 : E.md 80 = [] := rfl
@[simp] theorem mv80 (t : Nat) : E.mv 80 t = false := rfl
@[simp] theorem fz80 : E.fz 80 = false := rfl
@[simp] theorem md81 : E.md 81 = [] := rfl
@[simp] theorem mv81 (t : Nat) : E.mv 81 t = false := rfl
@[simp] theorem fz81 : E.fz 81 = false := rfl
@[simp] theorem md82 : E.md 82 = [] := rfl
@[simp] theorem mv82 (t : Nat) : E.mv 82 t = false := rfl
@[simp] theorem fz82 : E.fz 82 = false := rfl
@[simp] theorem md83 : E.md 83 = [] := rfl
@[simp] theorem mv83 (t : Nat) : E.mv 83 t = false := rfl
@[simp] theorem fz83 : E.fz 83 = false := rfl
@[simp] theorem md84 : E.md 84 = [] := rfl
@[simp] theorem mv84 (t : Nat) : E.mv 84 t = false := rfl
@[simp] theorem fz84 : E.fz 84 = false := rfl
@[simp] theorem md85 : E.md 85 = [] := rfl
@[simp] theorem mv85 (t : Nat) : E.mv 85 t = false := rfl
@[simp] theorem fz85 : E.fz 85 = false := rfl
@[simp] theorem md86 : E.md 86 = [] := rfl
@[simp] theorem mv86 (t : Nat) : E.mv 86 t = false := rfl
@[simp] theorem fz86 : E.fz 86 = false := rfl
@[simp] theorem md87 : E.md 87 = [] := rfl
@[simp] theorem mv87 (t : Nat) : E.mv 87 t = false := rfl
@[simp] theorem fz87 : E.fz 87 = false := rfl
@[simp] theorem md88 : E.md 88 = [] := rfl
@[simp] theorem mv88 (t : Nat) : E.mv 88 t = false := rfl
@[simp] theorem fz88 : E.fz 88 = false := rfl
@[simp] theorem md89 : E.md 89 = [0] := rfl
@[simp] theorem mv89 (t : Nat) : E.mv 89 t = (t == 4 || t == 5) := rfl
@[simp] theorem fz89 : E.fz 89 = false := rfl
@[simp] theorem md90 : E.md 90 = [] := rfl
@[simp] theorem mv90 (t : Nat) : E.mv 90 t = false := rfl
@[simp] theorem fz90 : E.fz 90 = false := rfl
@[simp] theorem md91 : E.md 91 = [] := rfl
@[simp] theorem mv91 (t : Nat) : E.mv 91 t = false := rfl
@[simp] theorem fz91 : E.fz 91 = false := rfl
@[simp] theorem md92 : E.md 92 = [] := rfl
@[simp] theorem mv92 (t : Nat) : E.mv 92 t = false := rfl
@[simp] theorem fz92 : E.fz 92 = false := rfl
@[simp] theorem md93 : E.md 93 = [] := rfl
@[simp] theorem mv93 (t : Nat) : E.mv 93 t = false := rfl
@[simp] theorem fz93 : E.fz 93 = false := rfl
@[simp] theorem md94 : E.md 94 = [] := rfl
@[simp] theorem mv94 (t : Nat) : E.mv 94 t = false := rfl
@[simp] theorem fz94 : E.fz 94 = false := rfl
@[simp] theorem md95 : E.md 95 = [] := rfl
@[simp] theorem mv95 (t : Nat) : E.mv 95 t = (t == 3) := rfl
@[simp] theorem fz95 : E.fz 95 = false := rfl
@[simp] theorem md96 : E.md 96 = [] := rfl
@[simp] theorem mv96 (t : Nat) : E.mv 96 t = false := rfl
@[simp] theorem fz96 : E.fz 96 = false := rfl
@[simp] theorem md97 : E.md 97 = [1000] := rfl
@[simp] theorem mv97 (t : Nat) : E.mv 97 t = false := rfl
@[simp] theorem fz97 : E.fz 97 = false := rfl
@[simp] theorem md98 : E.md 98 = [] := rfl
@[simp] theorem mv98 (t : Nat) : E.mv 98 t = false := rfl
@[simp] theorem fz98 : E.fz 98 = false := rfl
@[simp] theorem md99 : E.md 99 = [] := rfl
@[simp] theorem mv99 (t : Nat) : E.mv 99 t = false := rfl
@[simp] theorem fz99 : E.fz 99 = false := rfl
@[simp] theorem md100 : E.md 100 = [] := rfl
@[simp] theorem mv100 (t : Nat) : E.mv 100 t = false := rfl
@[simp] theorem fz100 : E.fz 100 = false := rfl
@[simp] theorem md101 : E.md 101 = [0] := rfl
@[simp] theorem mv101 (t : Nat) : E.mv 101 t = false := rfl
@[simp] theorem fz101 : E.fz 101 = false := rfl
@[simp] theorem md102 : E.md 102 = [0] := rfl
@[simp] theorem mv102 (t : Nat) : E.mv 102 t = false := rfl
@[simp] theorem fz102 : E.fz 102 = false := rfl
@[simp] theorem md103 : E.md 103 = [0] := rfl
@[simp] theorem mv103 (t : Nat) : E.mv 103 t = (t == 5) := rfl
@[simp] theorem fz103 : E.fz 103 = false := rfl
@[simp] theorem md104 : E.md 104 = [0] := rfl
@[simp] theorem mv104 (t : Nat) : E.mv 104 t = false := rfl
@[simp] theorem fz104 : E.fz 104 = false := rfl
@[simp] theorem md105 : E.md 105 = [0] := rfl
@[simp] theorem mv105 (t : Nat) : E.mv 105 t = false := rfl
@[simp] theorem fz105 : E.fz 105 = false := rfl
@[simp] theorem md106 : E.md 106 = [] := rfl
@[simp] theorem mv106 (t : Nat) : E.mv 106 t = false := rfl
@[simp] theorem fz106 : E.fz 106 = false := rfl
@[simp] theorem md107 : E.md 107 = [1000] := rfl
@[simp] theorem mv107 (t : Nat) : E.mv 107 t = false := rfl
@[simp] theorem fz107 : E.fz 107 = false := rfl
@[simp] theorem md108 : E.md 108 = [1000] := rfl
@[simp] theorem mv108 (t : Nat) : E.mv 108 t = false := rfl
@[simp] theorem fz108 : E.fz 108 = false := rfl
@[simp] theorem md109 : E.md 109 = [] := rfl
@[simp] theorem mv109 (t : Nat) : E.mv 109 t = false := rfl
@[simp] theorem fz109 : E.fz 109 = false := rfl
@[simp] theorem md110 : E.md 110 = [0] := rfl
@[simp] theorem mv110 (t : Nat) : E.mv 110 t = false := rfl
@[simp] theorem fz110 : E.fz 110 = false := rfl
@[simp] theorem md111 : E.md 111 = [] := rfl
@[simp] theorem mv111 (t : Nat) : E.mv 111 t = false := rfl
@[simp] theorem fz111 : E.fz 111 = false := rfl
@[simp] theorem md112 : E.md 112 = [0] := rfl
@[simp] theorem mv112 (t : Nat) : E.mv 112 t = false := rfl
@[simp] theorem fz112 : E.fz 112 = false := rfl
@[simp] theorem md113 : E.md 113 = [] := rfl
@[simp] theorem mv113 (t : Nat) : E.mv 113 t = false := rfl
@[simp] theorem fz113 : E.fz 113 = false := rfl
@[simp] theorem md114 : E.md 114 = [] := rfl
@[simp] theorem mv114 (t : Nat) : E.mv 114 t = false := rfl
@[simp] theorem fz114 : E.fz 114 = false := rfl
@[simp] theorem md115 : E.md 115 = [] := rfl
@[simp] theorem mv115 (t : Nat) : E.mv 115 t = false := rfl
@[simp] theorem fz115 : E.fz 115 = false := rfl
@[simp] theorem md116 : E.md 116 = [0] := rfl
@[simp] theorem mv116 (t : Nat) : E.mv 116 t = (t == 3) := rfl
@[simp] theorem fz116 : E.fz 116 = false := rfl
@[simp] theorem md117 : E.md 117 = [] := rfl
@[simp] theorem mv117 (t : Nat) : E.mv 117 t = (t == 3) := rfl
@[simp] theorem fz117 : E.fz 117 = false := rfl
@[simp] theorem md118 : E.md 118 = [] := rfl
@[simp] theorem mv118 (t : Nat) : E.mv 118 t = false := rfl
@[simp] theorem fz118 : E.fz 118 = false := rfl
@[simp] theorem md119 : E.md 119 = [1000, 1002] := rfl
@[simp] theorem mv119 (t : Nat) : E.mv 119 t = false := rfl
@[simp] theorem fz119 : E.fz 119 = false := rfl
@[simp] theorem md120 : E.md 120 = [] := rfl
@[simp] theorem mv120 (t : Nat) : E.mv 120 t = false := rfl
@[simp] theorem fz120 : E.fz 120 = false := rfl
@[simp] theorem md121 : E.md 121 = [1000] := rfl
@[simp] theorem mv121 (t : Nat) : E.mv 121 t = false := rfl
@[simp] theorem fz121 : E.fz 121 = false := rfl
@[simp] theorem md122 : E.md 122 = [] := rfl
@[simp] theorem mv122 (t : Nat) : E.mv 122 t = (t == 5) := rfl
@[simp] theorem fz122 : E.fz 122 = false := rfl
@[simp] theorem md123 : E.md 123 = [0] := rfl
@[simp] theorem mv123 (t : Nat) : E.mv 123 t = false := rfl
@[simp] theorem fz123 : E.fz 123 = false := rfl
@[simp] theorem md124 : E.md 124 = [] := rfl
@[simp] theorem mv124 (t : Nat) : E.mv 124 t = false := rfl
@[simp] theorem fz124 : E.fz 124 = false := rfl
@[simp] theorem md125 : E.md 125 = [] := rfl
@[simp] theorem mv125 (t : Nat) : E.mv 125 t = false := rfl
@[simp] theorem fz125 : E.fz 125 = false := rfl
@[simp] theorem md126 : E.md 126 = [] := rfl
@[simp] theorem mv126 (t : Nat) : E.mv 126 t = (t == 3) := rfl
@[simp] theorem fz126 : E.fz 126 = false := rfl
@[simp] theorem md127 : E.md 127 = [] := rfl
@[simp] theorem mv127 (t : Nat) : E.mv 127 t = (t == 10 || t == 16) := rfl
@[simp] theorem fz127 : E.fz 127 = false := rfl
@[simp] theorem md128 : E.md 128 = [] := rfl
@[simp] theorem mv128 (t : Nat) : E.mv 128 t = (t == 5) := rfl
@[simp] theorem fz128 : E.fz 128 = false := rfl
@[simp] theorem md129 : E.md 129 = [] := rfl
@[simp] theorem mv129 (t : Nat) : E.mv 129 t = false := rfl
@[simp] theorem fz129 : E.fz 129 = false := rfl
@[simp] theorem md130 : E.md 130 = [] := rfl
@[simp] theorem mv130 (t : Nat) : E.mv 130 t = false := rfl
@[simp] theorem fz130 : E.fz 130 = false := rfl
@[simp] theorem md131 : E.md 131 = [] := rfl
@[simp] theorem mv131 (t : Nat) : E.mv 131 t = false := rfl
@[simp] theorem fz131 : E.fz 131 = false := rfl
@[simp] theorem md132 : E.md 132 = [] := rfl
@[simp] theorem mv132 (t : Nat) : E.mv 132 t = false := rfl
@[simp] theorem fz132 : E.fz 132 = false := rfl
@[simp] theorem md133 : E.md 133 = [] := rfl
@[simp] theorem mv133 (t : Nat) : E.mv 133 t = false := rfl
@[simp] theorem fz133 : E.fz 133 = false := rfl
@[simp] theorem md134 : E.md 134 = [] := rfl
@[simp] theorem mv134 (t : Nat) : E.mv 134 t = false := rfl
@[simp] theorem fz134 : E.fz 134 = false := rfl
@[simp] theorem md135 : E.md 135 = [] := rfl
@[simp] theorem mv135 (t : Nat) : E.mv 135 t = false := rfl
@[simp] theorem fz135 : E.fz 135 = false := rfl
@[simp] theorem md136 : E.md 136 = [] := rfl
@[simp] theorem mv136 (t : Nat) : E.mv 136 t = false := rfl
@[simp] theorem fz136 : E.fz 136 = false := rfl
@[simp] theorem md137 : E.md 137 = [] := rfl
@[simp] theorem mv137 (t : Nat) : E.mv 137 t = (t == 1) := rfl
@[simp] theorem fz137 : E.fz 137 = false := rfl
@[simp] theorem md138 : E.md 138 = [] := rfl
@[simp] theorem mv138 (t : Nat) : E.mv 138 t = false := rfl
@[simp] theorem fz138 : E.fz 138 = false := rfl
@[simp] theorem md139 : E.md 139 = [0] := rfl
@[simp] theorem mv139 (t : Nat) : E.mv 139 t = (t == 3) := rfl
@[simp] theorem fz139 : E.fz 139 = false := rfl
@[simp] theorem md140 : E.md 140 = [] := rfl
@[simp] theorem mv140 (t : Nat) : E.mv 140 t = false := rfl
@[simp] theorem fz140 : E.fz 140 = false := rfl
@[simp] theorem md141 : E.md 141 = [] := rfl
@[simp] theorem mv141 (t : Nat) : E.mv 141 t = false := rfl
@[simp] theorem fz141 : E.fz 141 = false := rfl
@[simp] theorem md142 : E.md 142 = [] := rfl
@[simp] theorem mv142 (t : Nat) : E.mv 142 t = false := rfl
@[simp] theorem fz142 : E.fz 142 = false := rfl
@[simp] theorem md143 : E.md 143 = [] := rfl
@[simp] theorem mv143 (t : Nat) : E.mv 143 t = false := rfl
@[simp] theorem fz143 : E.fz 143 = false := rfl
@[simp] theorem md144 : E.md 144 = [] := rfl
@[simp] theorem mv144 (t : Nat) : E.mv 144 t = false := rfl
@[simp] theorem fz144 : E.fz 144 = false := rfl
@[simp] theorem md145 : E.md 145 = [] := rfl
@[simp] theorem mv145 (t : Nat) : E.mv 145 t = false := rfl
@[simp] theorem fz145 : E.fz 145 = false := rfl
@[simp] theorem md146 : E.md 146 = [] := rfl
@[simp] theorem mv146 (t : Nat) : E.mv 146 t = false := rfl
@[simp] theorem fz146 : E.fz 146 = false := rfl
@[simp] theorem md147 : E.md 147 = [] := rfl
@[simp] theorem mv147 (t : Nat) : E.mv 147 t = false := rfl
@[simp] theorem fz147 : E.fz 147 = false := rfl
@[simp] theorem md148 : E.md 148 = [] := rfl
@[simp] theorem mv148 (t : Nat) : E.mv 148 t = false := rfl
@[simp] theorem fz148 : E.fz 148 = false := rfl
@[simp] theorem md149 : E.md 149 = [] := rfl
@[simp] theorem mv149 (t : Nat) : E.mv 149 t = false := rfl
@[simp] theorem fz149 : E.fz 149 = false := rfl
@[simp] theorem md150 : E.md 150 = [] := rfl
@[simp] theorem mv150 (t : Nat) : E.mv 150 t = false := rfl
@[simp] theorem fz150 : E.fz 150 = false := rfl
@[simp] theorem md151 : E.md 151 = [] := rfl
@[simp] theorem mv151 (t : Nat) : E.mv 151 t = (t == 6 || t == 9 || t == 11) := rfl
@[simp] theorem fz151 : E.fz 151 = false := rfl
@[simp] theorem md152 : E.md 152 = [] := rfl
@[simp] theorem mv152 (t : Nat) : E.mv 152 t = (t == 6 || t == 9) := rfl
@[simp] theorem fz152 : E.fz 152 = false := rfl
@[simp] theorem md153 : E.md 153 = [] := rfl
@[simp] theorem mv153 (t : Nat) : E.mv 153 t = (t == 8) := rfl
@[simp] theorem fz153 : E.fz 153 = false := rfl
@[simp] theorem md154 : E.md 154 = [] := rfl
@[simp] theorem mv154 (t : Nat) : E.mv 154 t = false := rfl
@[simp] theorem fz154 : E.fz 154 = false := rfl
@[simp] theorem md155 : E.md 155 = [] := rfl
@[simp] theorem mv155 (t : Nat) : E.mv 155 t = false := rfl
@[simp] theorem fz155 : E.fz 155 = false := rfl
@[simp] theorem md156 : E.md 156 = [] := rfl
@[simp] theorem mv156 (t : Nat) : E.mv 156 t = false := rfl
@[simp] theorem fz156 : E.fz 156 = false := rfl
@[simp] theorem md157 : E.md 157 = [] := rfl
@[simp] theorem mv157 (t : Nat) : E.mv 157 t = false := rfl
@[simp] theorem fz157 : E.fz 157 = false := rfl
@[simp] theorem md158 : E.md 158 = [] := rfl
@[simp] theorem mv158 (t : Nat) : E.mv 158 t = false := rfl
@[simp] theorem fz158 : E.fz 158 = false := rfl
@[simp] theorem md159 : E.md 159 = [] := rfl
@[simp] theorem mv159 (t : Nat) : E.mv 159 t = false := rfl
@[simp] theorem fz159 : E.fz 159 = false := rfl
@[simp] theorem md160 : E.md 160 = [] := rfl
@[simp] theorem mv160 (t : Nat) : E.mv 160 t = false := rfl
@[simp] theorem fz160 : E.fz 160 = false := rfl
@[simp] theorem md161 : E.md 161 = [] := rfl
@[simp] theorem mv161 (t : Nat) : E.mv 161 t = false := rfl
@[simp] theorem fz161 : E.fz 161 = false := rfl
@[simp] theorem md162 : E.md 162 = [] := rfl
@[simp] theorem mv162 (t : Nat) : E.mv 162 t = false := rfl
@[simp] theorem fz162 : E.fz 162 = false := rfl
@[simp] theorem md163 : E.md 163 = [] := rfl
@[simp] theorem mv163 (t : Nat) : E.mv 163 t = false := rfl
@[simp] theorem fz163 : E.fz 163 = false := rfl
@[simp] theorem md164 : E.md 164 = [] := rfl
@[simp] theorem mv164 (t : Nat) : E.mv 164 t = false := rfl
@[simp] theorem fz164 : E.fz 164 = false := rfl
@[simp] theorem md165 : E.md 165 = [] := rfl
@[simp] theorem mv165 (t : Nat) : E.mv 165 t = false := rfl
@[simp] theorem fz165 : E.fz 165 = false := rfl
@[simp] theorem md166 : E.md 166 = [] := rfl
@[simp] theorem mv166 (t : Nat) : E.mv 166 t = false := rfl
@[simp] theorem fz166 : E.fz 166 = false := rfl
@[simp] theorem md167 : E.md 167 = [] := rfl
@[simp] theorem mv167 (t : Nat) : E.mv 167 t = false := rfl
@[simp] theorem fz167 : E.fz 167 = false := rfl
@[simp] theorem md168 : E.md 168 = [] := rfl
@[simp] theorem mv168 (t : Nat) : E.mv 168 t = false := rfl
@[simp] theorem fz168 : E.fz 168 = false := rfl
@[simp] theorem md169 : E.md 169 = [] := rfl
@[simp] theorem mv169 (t : Nat) : E.mv 169 t = false := rfl
@[simp] theorem fz169 : E.fz 169 = false := rfl
@[simp] theorem md170 : E.md 170 = [] := rfl
@[simp] theorem mv170 (t : Nat) : E.mv 170 t = false := rfl
@[simp] theorem fz170 : E.fz 170 = false := rfl
@[simp] theorem md171 : E.md 171 = [] := rfl
@[simp] theorem mv171 (t : Nat) : E.mv 171 t = false := rfl
@[simp] theorem fz171 : E.fz 171 = false := rfl
@[simp] theorem md172 : E.md 172 = [] := rfl
@[simp] theorem mv172 (t : Nat) : E.mv 172 t = false := rfl
@[simp] theorem fz172 : E.fz 172 = false := rfl
@[simp] theorem md173 : E.md 173 = [] := rfl
@[simp] theorem mv173 (t : Nat) : E.mv 173 t = false := rfl
@[simp] theorem fz173 : E.fz 173 = false := rfl
@[simp] theorem md174 : E.md 174 = [] := rfl
@[simp] theorem mv174 (t : Nat) : E.mv 174 t = false := rfl
@[simp] theorem fz174 : E.fz 174 = false := rfl
@[simp] theorem md175 : E.md 175 = [] := rfl
@[simp] theorem mv175 (t : Nat) : E.mv 175 t = false := rfl
@[simp] theorem fz175 : E.fz 175 = false := rfl
@[simp] theorem md176 : E.md 176 = [] := rfl
@[simp] theorem mv176 (t : Nat) : E.mv 176 t = false := rfl
@[simp] theorem fz176 : E.fz 176 = false := rfl
@[simp] theorem md177 : E.md 177 = [] := rfl
@[simp] theorem mv177 (t : Nat) : E.mv 177 t = false := rfl
@[simp] theorem fz177 : E.fz 177 = false := rfl
@[simp] theorem md178 : E.md 178 = [] := rfl
@[simp] theorem mv178 (t : Nat) : E.mv 178 t = false := rfl
@[simp] theorem fz178 : E.fz 178 = false := rfl
@[simp] theorem md179 : E.md 179 = [] := rfl
@[simp] theorem mv179 (t : Nat) : E.mv 179 t = false := rfl
@[simp] theorem fz179 : E.fz 179 = false := rfl
@[simp] theorem md180 : E.md 180 = [] := rfl
@[simp] theorem mv180 (t : Nat) : E.mv 180 t = false := rfl
@[simp] theorem fz180 : E.fz 180 = false := rfl
@[simp] theorem md181 : E.md 181 = [] := rfl
@[simp] theorem mv181 (t : Nat) : E.mv 181 t = false := rfl
@[simp] theorem fz181 : E.fz 181 = false := rfl
@[simp] theorem md182 : E.md 182 = [] := rfl
@[simp] theorem mv182 (t : Nat) : E.mv 182 t = false := rfl
@[simp] theorem fz182 : E.fz 182 = false := rfl
@[simp] theorem md183 : E.md 183 = [] := rfl
@[simp] theorem mv183 (t : Nat) : E.mv 183 t = false := rfl
@[simp] theorem fz183 : E.fz 183 = false := rfl
@[simp] theorem md184 : E.md 184 = [] := rfl
@[simp] theorem mv184 (t : Nat) : E.mv 184 t = false := rfl
@[simp] theorem fz184 : E.fz 184 = false := rfl
@[simp] theorem md185 : E.md 185 = [] := rfl
@[simp] theorem mv185 (t : Nat) : E.mv 185 t = false := rfl
@[simp] theorem fz185 : E.fz 185 = false := rfl
@[simp] theorem md186 : E.md 186 = [] := rfl
@[simp] theorem mv186 (t : Nat) : E.mv 186 t = false := rfl
@[simp] theorem fz186 : E.fz 186 = false := rfl
@[simp] theorem md187 : E.md 187 = [] := rfl
@[simp] theorem mv187 (t : Nat) : E.mv 187 t = false := rfl
@[simp] theorem fz187 : E.fz 187 = false := rfl
@[simp] theorem md188 : E.md 188 = [] := rfl
@[simp] theorem mv188 (t : Nat) : E.mv 188 t = false := rfl
@[simp] theorem fz188 : E.fz 188 = false := rfl
@[simp] theorem md189 : E.md 189 = [] := rfl
@[simp] theorem mv189 (t : Nat) : E.mv 189 t = false := rfl
@[simp] theorem fz189 : E.fz 189 = false := rfl
@[simp] theorem md190 : E.md 190 = [] := rfl
@[simp] theorem mv190 (t : Nat) : E.mv 190 t = false := rfl
@[simp] theorem fz190 : E.fz 190 = false := rfl
@[simp] theorem md191 : E.md 191 = [] := rfl
@[simp] theorem mv191 (t : Nat) : E.mv 191 t = false := rfl
@[simp] theorem fz191 : E.fz 191 = false := rfl
@[simp] theorem md192 : E.md 192 = [] := rfl
@[simp] theorem mv192 (t : Nat) : E.mv 192 t = false := rfl
@[simp] theorem fz192 : E.fz 192 = false := rfl
theorem ext175 : E.ext 175 = some extIndexByte := rfl
theorem ext123 : E.ext 123 = some extSort := rfl
theorem ext97 : E.ext 97 = some (extDelete 3) := rfl
theorem ext121 : E.ext 121 = some (extDelete 7) := rfl
theorem ext119 : E.ext 119 = some (extInsert 7 27) := rfl
theorem extOk : ExtOk E := fun f g args res h hg => by
  simp only [E, extT] at h
  by_cases h175 : f = 175
  · subst h175
    obtain rfl := Option.some.inj h
    exact ext_indexByte (P := Try.prog) Try.func175 rfl rfl (by kernel_rfl) (by kernel_rfl) hg
  rw [if_neg h175] at h
  by_cases h123 : f = 123
  · subst h123
    obtain rfl := Option.some.inj h
    exact ext_sort sortLays hg
  rw [if_neg h123] at h
  by_cases h97 : f = 97
  · subst h97
    obtain rfl := Option.some.inj h
    exact ext_delete' lays97 (by kernel_rfl) hg
  rw [if_neg h97] at h
  by_cases h121 : f = 121
  · subst h121
    obtain rfl := Option.some.inj h
    exact ext_delete' lays121 (by kernel_rfl) hg
  rw [if_neg h121] at h
  by_cases h119 : f = 119
  · subst h119
    obtain rfl := Option.some.inj h
    exact ext_insert' lays119 (by kernel_rfl) (by decide) hg
  rw [if_neg h119] at h
  cases h
end Go.Proofs.Ytoeadcefgpkdcaa
