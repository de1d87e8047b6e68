/-
  Facts on the types of the program, each closed by the kernel. Printed by a program of the prover (facts.py).
-/
import Derived.Test.YtjlibljfpkmpfaaGreatDoorSa06
import Derived.Test.YtjlibljfpkmpfaaGreatDoorProg
import Derived.KernelRfl
set_option maxRecDepth 100000
set_option linter.unusedSimpArgs false
set_option linter.unusedVariables false
namespace Go.Enc
open Go.Proofs
namespace Facts
@[go_sem] theorem f0:Tryz.prog.underlying 100=some (.float .f64):=by kernel_rfl
@[go_sem] theorem f1:Tryz.prog.underlying 119=some (.pointer 123):=by kernel_rfl
@[go_sem] theorem f2:Tryz.prog.underlying 121=some (.pointer 119):=by kernel_rfl
@[go_sem] theorem f3:Tryz.prog.underlying 2=some (.int .i64):=by kernel_rfl
@[go_sem] theorem f4:Tryz.prog.underlying 21=some (.int .i32):=by kernel_rfl
@[go_sem] theorem f5:Tryz.prog.underlying 213=some (.pointer 235):=by kernel_rfl
@[go_sem] theorem f6:Tryz.prog.underlying 246=some (.pointer 61):=by kernel_rfl
@[go_sem] theorem f7:Tryz.prog.underlying 25=some (.int .u64):=by kernel_rfl
@[go_sem] theorem f8:Tryz.prog.underlying 3=some (.int .i64):=by kernel_rfl
@[go_sem] theorem f9:Tryz.prog.underlying 4=some (.bool):=by kernel_rfl
@[go_sem] theorem f10:Tryz.prog.underlying 53=some (.slice 27):=by kernel_rfl
@[go_sem] theorem i10:jT Tryz.prog 53 (.const (.slice none 0 0))=true:=by kernel_rfl
@[go_sem] theorem u10 (h:Nat->Option Obj)(x:T):jy Tryz.prog h 53 x=V6 h x:=zcr f10
@[go_sem] theorem f11:Tryz.prog.underlying 57=some (.float .f64):=by kernel_rfl
@[go_sem] theorem f12:Tryz.prog.underlying 9=some (.string):=by kernel_rfl
@[go_sem] theorem f13:Tryz.prog.underlying 98=some (.int .i32):=by kernel_rfl
@[go_sem] theorem i14:jT Tryz.prog 107 (.const .nilFunc)=true:=by kernel_rfl
@[go_sem] theorem u14 (h:Nat->Option Obj)(x:T):jy Tryz.prog h 107 x=V7 x:=zcs (by kernel_rfl)
@[go_sem] theorem i15:jT Tryz.prog 20 (.const .nilIface)=true:=by kernel_rfl
@[go_sem] theorem u15 (h:Nat->Option Obj)(x:T):jy Tryz.prog h 20 x=QH x:=Yz (by kernel_rfl)
@[go_sem] theorem i16:jT Tryz.prog 61 (.const .nilIface)=true:=by kernel_rfl
@[go_sem] theorem u16 (h:Nat->Option Obj)(x:T):jy Tryz.prog h 61 x=QH x:=Yz (by kernel_rfl)
@[go_sem] theorem f17:agT Tryz.prog 103=some false:=by kernel_rfl
@[go_sem] theorem f18:agT Tryz.prog 119=some false:=by kernel_rfl
@[go_sem] theorem f19:agT Tryz.prog 145=some false:=by kernel_rfl
@[go_sem] theorem f20:agT Tryz.prog 146=some false:=by kernel_rfl
@[go_sem] theorem f21:agT Tryz.prog 148=some true:=by kernel_rfl
@[go_sem] theorem f22:agT Tryz.prog 153=some false:=by kernel_rfl
@[go_sem] theorem f23:agT Tryz.prog 154=some false:=by kernel_rfl
@[go_sem] theorem f24:agT Tryz.prog 166=some true:=by kernel_rfl
@[go_sem] theorem f25:agT Tryz.prog 169=some false:=by kernel_rfl
@[go_sem] theorem f26:agT Tryz.prog 25=some false:=by kernel_rfl
@[go_sem] theorem f27:agT Tryz.prog 27=some true:=by kernel_rfl
@[go_sem] theorem f28:agT Tryz.prog 28=some false:=by kernel_rfl
@[go_sem] theorem f29:agT Tryz.prog 3=some false:=by kernel_rfl
@[go_sem] theorem f30:agT Tryz.prog 30=some true:=by kernel_rfl
@[go_sem] theorem f31:agT Tryz.prog 32=some true:=by kernel_rfl
@[go_sem] theorem f32:agT Tryz.prog 4=some false:=by kernel_rfl
@[go_sem] theorem f33:agT Tryz.prog 50=some false:=by kernel_rfl
@[go_sem] theorem f34:agT Tryz.prog 57=some false:=by kernel_rfl
@[go_sem] theorem f35:agT Tryz.prog 59=some true:=by kernel_rfl
@[go_sem] theorem f36:agT Tryz.prog 61=some false:=by kernel_rfl
@[go_sem] theorem f37:agT Tryz.prog 68=some false:=by kernel_rfl
@[go_sem] theorem f38:agT Tryz.prog 70=some true:=by kernel_rfl
@[go_sem] theorem f39:agT Tryz.prog 81=some true:=by kernel_rfl
@[go_sem] theorem f40:agT Tryz.prog 86=some false:=by kernel_rfl
@[go_sem] theorem f41:agT Tryz.prog 9=some false:=by kernel_rfl
@[go_sem] theorem f42:arT Tryz.prog 179=some 2:=by kernel_rfl
@[go_sem] theorem f43:elT Tryz.prog 103=some 1:=by kernel_rfl
@[go_sem] theorem f44:elT Tryz.prog 125=some 1:=by kernel_rfl
@[go_sem] theorem f45:elT Tryz.prog 145=some 2:=by kernel_rfl
@[go_sem] theorem f46:elT Tryz.prog 153=some 1:=by kernel_rfl
@[go_sem] theorem f47:elT Tryz.prog 154=some 2:=by kernel_rfl
@[go_sem] theorem f48:elT Tryz.prog 195=some 1:=by kernel_rfl
@[go_sem] theorem f49:elT Tryz.prog 22=some 9:=by kernel_rfl
@[go_sem] theorem f50:elT Tryz.prog 28=some 1:=by kernel_rfl
@[go_sem] theorem f51:elT Tryz.prog 50=some 2:=by kernel_rfl
@[go_sem] theorem f52:elT Tryz.prog 53=some 2:=by kernel_rfl
@[go_sem] theorem f53:elT Tryz.prog 68=some 1:=by kernel_rfl
@[go_sem] theorem f54:elT Tryz.prog 86=some 3:=by kernel_rfl
@[go_sem] theorem f55:elT Tryz.prog 92=some 1:=by kernel_rfl
@[go_sem] theorem f56:eq2T Tryz.prog 27=some (true,true):=by kernel_rfl
@[go_sem] theorem f57:eq2T Tryz.prog 59=some (false,false):=by kernel_rfl
@[go_sem] theorem f58:fldT Tryz.prog 123 0=some 0:=by kernel_rfl
@[go_sem] theorem f59:fldT Tryz.prog 123 1=some 1:=by kernel_rfl
@[go_sem] theorem f60:fldT Tryz.prog 148 0=some 0:=by kernel_rfl
@[go_sem] theorem f61:fldT Tryz.prog 148 1=some 1:=by kernel_rfl
@[go_sem] theorem f62:fldT Tryz.prog 190 0=some 0:=by kernel_rfl
@[go_sem] theorem f63:fldT Tryz.prog 190 1=some 1:=by kernel_rfl
@[go_sem] theorem f64:fldT Tryz.prog 27 0=some 0:=by kernel_rfl
@[go_sem] theorem f65:fldT Tryz.prog 27 1=some 1:=by kernel_rfl
@[go_sem] theorem f66:fldT Tryz.prog 30 0=some 0:=by kernel_rfl
@[go_sem] theorem f67:fldT Tryz.prog 30 1=some 1:=by kernel_rfl
@[go_sem] theorem f68:fldT Tryz.prog 30 2=some 2:=by kernel_rfl
@[go_sem] theorem f69:fldT Tryz.prog 30 3=some 3:=by kernel_rfl
@[go_sem] theorem f70:fldT Tryz.prog 30 4=some 4:=by kernel_rfl
@[go_sem] theorem f71:fldT Tryz.prog 30 5=some 6:=by kernel_rfl
@[go_sem] theorem f72:fldT Tryz.prog 30 6=some 8:=by kernel_rfl
@[go_sem] theorem f73:fldT Tryz.prog 32 0=some 0:=by kernel_rfl
@[go_sem] theorem f74:fldT Tryz.prog 32 1=some 1:=by kernel_rfl
@[go_sem] theorem f75:fldT Tryz.prog 59 0=some 0:=by kernel_rfl
@[go_sem] theorem f76:fldT Tryz.prog 59 1=some 1:=by kernel_rfl
@[go_sem] theorem f77:fldT Tryz.prog 70 0=some 0:=by kernel_rfl
@[go_sem] theorem f78:fldT Tryz.prog 70 1=some 1:=by kernel_rfl
@[go_sem] theorem f79:fldT Tryz.prog 70 2=some 2:=by kernel_rfl
@[go_sem] theorem f80:fldT Tryz.prog 81 0=some 0:=by kernel_rfl
@[go_sem] theorem f81:fldT Tryz.prog 81 1=some 3:=by kernel_rfl
@[go_sem] theorem f82:kV Tryz.prog 123=some [(0,1),(1,1)]:=by kernel_rfl
@[go_sem] theorem f83:kV Tryz.prog 148=some [(0,1),(1,1)]:=by kernel_rfl
@[go_sem] theorem f84:kV Tryz.prog 179=some [(0,1),(1,1)]:=by kernel_rfl
@[go_sem] theorem f85:kV Tryz.prog 190=some [(0,1),(1,1)]:=by kernel_rfl
@[go_sem] theorem f86:kV Tryz.prog 235=some [(0,1)]:=by kernel_rfl
@[go_sem] theorem f87:kV Tryz.prog 27=some [(0,1),(1,1)]:=by kernel_rfl
@[go_sem] theorem f88:kV Tryz.prog 32=some [(0,1),(1,1)]:=by kernel_rfl
@[go_sem] theorem f89:kV Tryz.prog 59=some [(0,1),(1,1)]:=by kernel_rfl
@[go_sem] theorem f90:kV Tryz.prog 70=some [(0,1),(1,1),(2,1)]:=by kernel_rfl
@[go_sem] theorem f91:kV Tryz.prog 81=some [(0,3),(3,3)]:=by kernel_rfl
@[go_sem] theorem f92:slT Tryz.prog 103=some (57,1,8,[.float .f64 0]):=by kernel_rfl
@[go_sem] theorem f93:slT Tryz.prog 125=some (61,1,16,[.nilIface]):=by kernel_rfl
@[go_sem] theorem f94:slT Tryz.prog 145=some (148,2,24,[.string ⟨#[]⟩,.nilFunc]):=by kernel_rfl
@[go_sem] theorem f95:slT Tryz.prog 153=some (154,1,24,[.slice none 0 0]):=by kernel_rfl
@[go_sem] theorem f96:slT Tryz.prog 154=some (59,2,16,[.float .f64 0,.float .f64 0]):=by kernel_rfl
@[go_sem] theorem f97:slT Tryz.prog 195=some (86,1,24,[.slice none 0 0]):=by kernel_rfl
@[go_sem] theorem f98:slT Tryz.prog 28=some (25,1,8,[.int .u64 0]):=by kernel_rfl
@[go_sem] theorem f99:slT Tryz.prog 50=some (32,2,16,[.int .u64 0,.int .u64 0]):=by kernel_rfl
@[go_sem] theorem f100:slT Tryz.prog 53=some (27,2,16,[.int .u64 0,.int .u64 0]):=by kernel_rfl
@[go_sem] theorem f101:slT Tryz.prog 68=some (3,1,8,[.int .i64 0]):=by kernel_rfl
@[go_sem] theorem f102:slT Tryz.prog 86=some (70,3,40,[.bool false,.slice none 0 0,.int .i64 0]):=by kernel_rfl
@[go_sem] theorem f103:slT Tryz.prog 92=some (9,1,16,[.string ⟨#[]⟩]):=by kernel_rfl
@[go_sem] theorem f104:szT Tryz.prog 103=some 1:=by kernel_rfl
@[go_sem] theorem f105:szT Tryz.prog 119=some 1:=by kernel_rfl
@[go_sem] theorem f106:szT Tryz.prog 145=some 1:=by kernel_rfl
@[go_sem] theorem f107:szT Tryz.prog 146=some 1:=by kernel_rfl
@[go_sem] theorem f108:szT Tryz.prog 148=some 2:=by kernel_rfl
@[go_sem] theorem f109:szT Tryz.prog 153=some 1:=by kernel_rfl
@[go_sem] theorem f110:szT Tryz.prog 154=some 1:=by kernel_rfl
@[go_sem] theorem f111:szT Tryz.prog 166=some 3:=by kernel_rfl
@[go_sem] theorem f112:szT Tryz.prog 169=some 1:=by kernel_rfl
@[go_sem] theorem f113:szT Tryz.prog 25=some 1:=by kernel_rfl
@[go_sem] theorem f114:szT Tryz.prog 27=some 2:=by kernel_rfl
@[go_sem] theorem f115:szT Tryz.prog 28=some 1:=by kernel_rfl
@[go_sem] theorem f116:szT Tryz.prog 3=some 1:=by kernel_rfl
@[go_sem] theorem f117:szT Tryz.prog 30=some 9:=by kernel_rfl
@[go_sem] theorem f118:szT Tryz.prog 32=some 2:=by kernel_rfl
@[go_sem] theorem f119:szT Tryz.prog 4=some 1:=by kernel_rfl
@[go_sem] theorem f120:szT Tryz.prog 50=some 1:=by kernel_rfl
@[go_sem] theorem f121:szT Tryz.prog 57=some 1:=by kernel_rfl
@[go_sem] theorem f122:szT Tryz.prog 59=some 2:=by kernel_rfl
@[go_sem] theorem f123:szT Tryz.prog 61=some 1:=by kernel_rfl
@[go_sem] theorem f124:szT Tryz.prog 68=some 1:=by kernel_rfl
@[go_sem] theorem f125:szT Tryz.prog 70=some 3:=by kernel_rfl
@[go_sem] theorem f126:szT Tryz.prog 81=some 6:=by kernel_rfl
@[go_sem] theorem f127:szT Tryz.prog 86=some 1:=by kernel_rfl
@[go_sem] theorem f128:szT Tryz.prog 9=some 1:=by kernel_rfl
@[go_sem] theorem f129:kN Tryz.prog 103=some [.d (.v (.slice none 0 0))]:=by kernel_rfl
@[go_sem] theorem f130:kN Tryz.prog 119=some [.d (.v (.pointer none))]:=by kernel_rfl
@[go_sem] theorem f131:kN Tryz.prog 123=some [.d (.v (.string ⟨#[]⟩)),.d (.v (.nilIface))]:=by kernel_rfl
@[go_sem] theorem f132:kN Tryz.prog 148=some [.d (.v (.string ⟨#[]⟩)),.d (.v (.nilFunc))]:=by kernel_rfl
@[go_sem] theorem f133:kN Tryz.prog 166=some [.d (.v (.pointer none)),.d (.v (.pointer none)),.d (.v (.int .u64 0))]:=by kernel_rfl
@[go_sem] theorem f134:kN Tryz.prog 179=some [.d (.v (.float .f64 0)),.d (.v (.float .f64 0))]:=by kernel_rfl
@[go_sem] theorem f135:kN Tryz.prog 190=some [.d (.v (.slice none 0 0)),.d (.v (.nilIface))]:=by kernel_rfl
@[go_sem] theorem f136:kN Tryz.prog 235=some [.d (.v (.string ⟨#[]⟩))]:=by kernel_rfl
@[go_sem] theorem f137:kN Tryz.prog 27=some [.d (.v (.int .u64 0)),.d (.v (.int .u64 0))]:=by kernel_rfl
@[go_sem] theorem f138:kN Tryz.prog 30=some [.d (.v (.int .i64 0)),.d (.v (.int .i64 0)),.d (.v (.int .i64 0)),.d (.v (.string ⟨#[]⟩)),.d (.v (.int .u64 0)),.d (.v (.int .u64 0)),.d (.v (.int .u64 0)),.d (.v (.int .u64 0)),.d (.v (.slice none 0 0))]:=by kernel_rfl
@[go_sem] theorem f139:kN Tryz.prog 32=some [.d (.v (.int .u64 0)),.d (.v (.int .u64 0))]:=by kernel_rfl
@[go_sem] theorem f140:kN Tryz.prog 50=some [.d (.v (.slice none 0 0))]:=by kernel_rfl
@[go_sem] theorem f141:kN Tryz.prog 59=some [.d (.v (.float .f64 0)),.d (.v (.float .f64 0))]:=by kernel_rfl
@[go_sem] theorem f142:kN Tryz.prog 70=some [.d (.v (.bool false)),.d (.v (.slice none 0 0)),.d (.v (.int .i64 0))]:=by kernel_rfl
@[go_sem] theorem f143:kN Tryz.prog 81=some [.d (.v (.bool false)),.d (.v (.slice none 0 0)),.d (.v (.int .i64 0)),.d (.v (.bool false)),.d (.v (.slice none 0 0)),.d (.v (.int .i64 0))]:=by kernel_rfl
end Facts
end Go.Enc
namespace Go.Enc
abbrev DQz:=DCall Go.Proofs.Tryz.prog
end Go.Enc
