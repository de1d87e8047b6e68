/-
  Facts on the types of the program, each closed by the kernel. Printed by a program of the prover (facts.py).
-/
import Derived.Test.YtjlibljfpkmpfaaDoorSim
import Derived.Test.YtjlibljfpkmpfaaDoorProg
import Derived.KernelRfl
namespace Go.Enc
open Go.Proofs
namespace Facts
@[go_sem] theorem f0 : Tryd.prog.underlying 100 = some (.int .i32) := by kernel_rfl
@[go_sem] theorem f1 : Tryd.prog.underlying 102 = some (.float .f64) := by kernel_rfl
@[go_sem] theorem f2 : Tryd.prog.underlying 165 = some (.pointer 187) := by kernel_rfl
@[go_sem] theorem f3 : Tryd.prog.underlying 198 = some (.pointer 33) := by kernel_rfl
@[go_sem] theorem f4 : Tryd.prog.underlying 2 = some (.int .i64) := by kernel_rfl
@[go_sem] theorem f5 : Tryd.prog.underlying 21 = some (.int .i32) := by kernel_rfl
@[go_sem] theorem f6 : Tryd.prog.underlying 25 = some (.int .u64) := by kernel_rfl
@[go_sem] theorem f7 : Tryd.prog.underlying 3 = some (.int .i64) := by kernel_rfl
@[go_sem] theorem f8 : Tryd.prog.underlying 4 = some (.bool) := by kernel_rfl
@[go_sem] theorem f9 : Tryd.prog.underlying 51 = some (.pointer 55) := by kernel_rfl
@[go_sem] theorem f10 : Tryd.prog.underlying 53 = some (.pointer 51) := by kernel_rfl
@[go_sem] theorem f11 : Tryd.prog.underlying 65 = some (.float .f64) := by kernel_rfl
@[go_sem] theorem f12 : Tryd.prog.underlying 9 = some (.string) := by kernel_rfl
@[go_sem] theorem i13 : nilFits Tryd.prog 20 (.const .nilIface) = true := by kernel_rfl
@[go_sem] theorem u13 (h : Nat → Option Obj) (x : T) : isNilT Tryd.prog h 20 x = isNilI x := isNilT_i (by kernel_rfl)
@[go_sem] theorem i14 : nilFits Tryd.prog 33 (.const .nilIface) = true := by kernel_rfl
@[go_sem] theorem u14 (h : Nat → Option Obj) (x : T) : isNilT Tryd.prog h 33 x = isNilI x := isNilT_i (by kernel_rfl)
@[go_sem] theorem i15 : nilFits Tryd.prog 62 (.const .nilFunc) = true := by kernel_rfl
@[go_sem] theorem u15 (h : Nat → Option Obj) (x : T) : isNilT Tryd.prog h 62 x = isNilF x := isNilT_f (by kernel_rfl)
@[go_sem] theorem f16 : agT Tryd.prog 112 = some true := by kernel_rfl
@[go_sem] theorem f17 : agT Tryd.prog 114 = some true := by kernel_rfl
@[go_sem] theorem f18 : agT Tryd.prog 25 = some false := by kernel_rfl
@[go_sem] theorem f19 : agT Tryd.prog 27 = some true := by kernel_rfl
@[go_sem] theorem f20 : agT Tryd.prog 3 = some false := by kernel_rfl
@[go_sem] theorem f21 : agT Tryd.prog 30 = some true := by kernel_rfl
@[go_sem] theorem f22 : agT Tryd.prog 33 = some false := by kernel_rfl
@[go_sem] theorem f23 : agT Tryd.prog 39 = some false := by kernel_rfl
@[go_sem] theorem f24 : agT Tryd.prog 4 = some false := by kernel_rfl
@[go_sem] theorem f25 : agT Tryd.prog 40 = some true := by kernel_rfl
@[go_sem] theorem f26 : agT Tryd.prog 43 = some false := by kernel_rfl
@[go_sem] theorem f27 : agT Tryd.prog 51 = some false := by kernel_rfl
@[go_sem] theorem f28 : agT Tryd.prog 60 = some false := by kernel_rfl
@[go_sem] theorem f29 : agT Tryd.prog 65 = some false := by kernel_rfl
@[go_sem] theorem f30 : agT Tryd.prog 67 = some true := by kernel_rfl
@[go_sem] theorem f31 : agT Tryd.prog 76 = some false := by kernel_rfl
@[go_sem] theorem f32 : agT Tryd.prog 77 = some false := by kernel_rfl
@[go_sem] theorem f33 : agT Tryd.prog 83 = some true := by kernel_rfl
@[go_sem] theorem f34 : agT Tryd.prog 86 = some false := by kernel_rfl
@[go_sem] theorem f35 : agT Tryd.prog 9 = some false := by kernel_rfl
@[go_sem] theorem f36 : arT Tryd.prog 154 = some 2 := by kernel_rfl
@[go_sem] theorem f37 : elT Tryd.prog 23 = some 9 := by kernel_rfl
@[go_sem] theorem f38 : elT Tryd.prog 28 = some 1 := by kernel_rfl
@[go_sem] theorem f39 : elT Tryd.prog 34 = some 1 := by kernel_rfl
@[go_sem] theorem f40 : elT Tryd.prog 39 = some 1 := by kernel_rfl
@[go_sem] theorem f41 : elT Tryd.prog 43 = some 2 := by kernel_rfl
@[go_sem] theorem f42 : elT Tryd.prog 60 = some 1 := by kernel_rfl
@[go_sem] theorem f43 : elT Tryd.prog 76 = some 1 := by kernel_rfl
@[go_sem] theorem f44 : elT Tryd.prog 77 = some 2 := by kernel_rfl
@[go_sem] theorem f45 : eq2T Tryd.prog 27 = some (true, true) := by kernel_rfl
@[go_sem] theorem f46 : eq2T Tryd.prog 67 = some (false, false) := by kernel_rfl
@[go_sem] theorem f47 : fldT Tryd.prog 112 0 = some 0 := by kernel_rfl
@[go_sem] theorem f48 : fldT Tryd.prog 112 1 = some 1 := by kernel_rfl
@[go_sem] theorem f49 : fldT Tryd.prog 112 2 = some 2 := by kernel_rfl
@[go_sem] theorem f50 : fldT Tryd.prog 114 0 = some 0 := by kernel_rfl
@[go_sem] theorem f51 : fldT Tryd.prog 114 1 = some 3 := by kernel_rfl
@[go_sem] theorem f52 : fldT Tryd.prog 125 0 = some 0 := by kernel_rfl
@[go_sem] theorem f53 : fldT Tryd.prog 125 1 = some 1 := by kernel_rfl
@[go_sem] theorem f54 : fldT Tryd.prog 27 0 = some 0 := by kernel_rfl
@[go_sem] theorem f55 : fldT Tryd.prog 27 1 = some 1 := by kernel_rfl
@[go_sem] theorem f56 : fldT Tryd.prog 30 1 = some 1 := by kernel_rfl
@[go_sem] theorem f57 : fldT Tryd.prog 30 2 = some 2 := by kernel_rfl
@[go_sem] theorem f58 : fldT Tryd.prog 40 0 = some 0 := by kernel_rfl
@[go_sem] theorem f59 : fldT Tryd.prog 40 1 = some 1 := by kernel_rfl
@[go_sem] theorem f60 : fldT Tryd.prog 55 0 = some 0 := by kernel_rfl
@[go_sem] theorem f61 : fldT Tryd.prog 55 1 = some 1 := by kernel_rfl
@[go_sem] theorem f62 : fldT Tryd.prog 67 0 = some 0 := by kernel_rfl
@[go_sem] theorem f63 : fldT Tryd.prog 67 1 = some 1 := by kernel_rfl
@[go_sem] theorem f64 : placesT Tryd.prog 112 = some [(0, 1), (1, 1), (2, 1)] := by kernel_rfl
@[go_sem] theorem f65 : placesT Tryd.prog 114 = some [(0, 3), (3, 3)] := by kernel_rfl
@[go_sem] theorem f66 : placesT Tryd.prog 125 = some [(0, 1), (1, 1)] := by kernel_rfl
@[go_sem] theorem f67 : placesT Tryd.prog 154 = some [(0, 1), (1, 1)] := by kernel_rfl
@[go_sem] theorem f68 : placesT Tryd.prog 187 = some [(0, 1)] := by kernel_rfl
@[go_sem] theorem f69 : placesT Tryd.prog 27 = some [(0, 1), (1, 1)] := by kernel_rfl
@[go_sem] theorem f70 : placesT Tryd.prog 40 = some [(0, 1), (1, 1)] := by kernel_rfl
@[go_sem] theorem f71 : placesT Tryd.prog 55 = some [(0, 1), (1, 1)] := by kernel_rfl
@[go_sem] theorem f72 : placesT Tryd.prog 67 = some [(0, 1), (1, 1)] := by kernel_rfl
@[go_sem] theorem f73 : slT Tryd.prog 28 = some (25, 1, 8, [.int .u64 0]) := by kernel_rfl
@[go_sem] theorem f74 : slT Tryd.prog 34 = some (33, 1, 16, [.nilIface]) := by kernel_rfl
@[go_sem] theorem f75 : slT Tryd.prog 39 = some (3, 1, 8, [.int .i64 0]) := by kernel_rfl
@[go_sem] theorem f76 : slT Tryd.prog 43 = some (40, 2, 16, [.int .u64 0, .int .u64 0]) := by kernel_rfl
@[go_sem] theorem f77 : slT Tryd.prog 60 = some (65, 1, 8, [.float .f64 0]) := by kernel_rfl
@[go_sem] theorem f78 : slT Tryd.prog 76 = some (77, 1, 24, [.slice none 0 0]) := by kernel_rfl
@[go_sem] theorem f79 : slT Tryd.prog 77 = some (67, 2, 16, [.float .f64 0, .float .f64 0]) := by kernel_rfl
@[go_sem] theorem f80 : szT Tryd.prog 112 = some 3 := by kernel_rfl
@[go_sem] theorem f81 : szT Tryd.prog 114 = some 6 := by kernel_rfl
@[go_sem] theorem f82 : szT Tryd.prog 25 = some 1 := by kernel_rfl
@[go_sem] theorem f83 : szT Tryd.prog 27 = some 2 := by kernel_rfl
@[go_sem] theorem f84 : szT Tryd.prog 3 = some 1 := by kernel_rfl
@[go_sem] theorem f85 : szT Tryd.prog 30 = some 9 := by kernel_rfl
@[go_sem] theorem f86 : szT Tryd.prog 33 = some 1 := by kernel_rfl
@[go_sem] theorem f87 : szT Tryd.prog 39 = some 1 := by kernel_rfl
@[go_sem] theorem f88 : szT Tryd.prog 4 = some 1 := by kernel_rfl
@[go_sem] theorem f89 : szT Tryd.prog 40 = some 2 := by kernel_rfl
@[go_sem] theorem f90 : szT Tryd.prog 43 = some 1 := by kernel_rfl
@[go_sem] theorem f91 : szT Tryd.prog 51 = some 1 := by kernel_rfl
@[go_sem] theorem f92 : szT Tryd.prog 60 = some 1 := by kernel_rfl
@[go_sem] theorem f93 : szT Tryd.prog 65 = some 1 := by kernel_rfl
@[go_sem] theorem f94 : szT Tryd.prog 67 = some 2 := by kernel_rfl
@[go_sem] theorem f95 : szT Tryd.prog 76 = some 1 := by kernel_rfl
@[go_sem] theorem f96 : szT Tryd.prog 77 = some 1 := by kernel_rfl
@[go_sem] theorem f97 : szT Tryd.prog 83 = some 3 := by kernel_rfl
@[go_sem] theorem f98 : szT Tryd.prog 86 = some 1 := by kernel_rfl
@[go_sem] theorem f99 : szT Tryd.prog 9 = some 1 := by kernel_rfl
@[go_sem] theorem f100 : zeroT Tryd.prog 112 = some [.d (.v (.bool false)), .d (.v (.slice none 0 0)), .d (.v (.int .i64 0))] := by kernel_rfl
@[go_sem] theorem f101 : zeroT Tryd.prog 114 = some [.d (.v (.bool false)), .d (.v (.slice none 0 0)), .d (.v (.int .i64 0)), .d (.v (.bool false)), .d (.v (.slice none 0 0)), .d (.v (.int .i64 0))] := by kernel_rfl
@[go_sem] theorem f102 : zeroT Tryd.prog 125 = some [.d (.v (.slice none 0 0)), .d (.v (.nilIface))] := by kernel_rfl
@[go_sem] theorem f103 : zeroT Tryd.prog 154 = some [.d (.v (.float .f64 0)), .d (.v (.float .f64 0))] := by kernel_rfl
@[go_sem] theorem f104 : zeroT Tryd.prog 187 = some [.d (.v (.string ⟨#[]⟩))] := by kernel_rfl
@[go_sem] theorem f105 : zeroT Tryd.prog 27 = some [.d (.v (.int .u64 0)), .d (.v (.int .u64 0))] := by kernel_rfl
@[go_sem] theorem f106 : zeroT Tryd.prog 40 = some [.d (.v (.int .u64 0)), .d (.v (.int .u64 0))] := by kernel_rfl
@[go_sem] theorem f107 : zeroT Tryd.prog 43 = some [.d (.v (.slice none 0 0))] := by kernel_rfl
@[go_sem] theorem f108 : zeroT Tryd.prog 51 = some [.d (.v (.pointer none))] := by kernel_rfl
@[go_sem] theorem f109 : zeroT Tryd.prog 55 = some [.d (.v (.string ⟨#[]⟩)), .d (.v (.nilIface))] := by kernel_rfl
@[go_sem] theorem f110 : zeroT Tryd.prog 60 = some [.d (.v (.slice none 0 0))] := by kernel_rfl
@[go_sem] theorem f111 : zeroT Tryd.prog 67 = some [.d (.v (.float .f64 0)), .d (.v (.float .f64 0))] := by kernel_rfl
@[go_sem] theorem f112 : zeroT Tryd.prog 83 = some [.d (.v (.pointer none)), .d (.v (.pointer none)), .d (.v (.int .u64 0))] := by kernel_rfl
end Facts
end Go.Enc
