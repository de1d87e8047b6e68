/-
  The errors: errors.As at the law's own target, by its contracts. (Turned from the worked text ToyasAs.)
-/
import Derived.Test.YtjlibljfpkmpfaaGreatDoorProg
import Derived.WalkKit
import Derived.LaidEql
import Derived.Stop.Asserts
import Derived.RowKitTokens
set_option maxRecDepth 100000
set_option linter.unusedSimpArgs false
set_option linter.unusedVariables false
namespace Go.Proofs.YtjlibljfpkmpfaaGreatDoor
open Go.RowKit Go.Extern.Stop Go.Stop Go.Extern
/-! ### CLOSED FACTS ON THE MODEL's ENTRIES FOR internal/reflectlite,at this program's types: 25: *p.E · 27: **p.E · 23: error · 45: reflectlite's rtype · 1: how many package-level variables the dump has -/
theorem Tryz.er_valueOfPP (t:Addr)(w:World):(ReflectliteValue.unpack (.iface 121 (.pointer (some t)))).run Tryz.prog w
  = .ok (.agg #[.pointer (some ⟨12,121,none⟩),.pointer (some ⟨w.heap.size,0,none⟩),.int .u64 150]) (w.alloc (.cells #[.pointer (some t)] 121)):=by kernel_rfl
theorem Tryz.er_typePP (a:Addr)(w:World):(ReflectliteValue.methodAny (ReflectliteValue.valueError "reflectlite.Value.Type" 0) (fun t _ _ _=>ReflectliteType.toType t) #[.agg #[.pointer (some ⟨12,121,none⟩),.pointer (some a),.int .u64 150]]).run Tryz.prog w
  = .ok (.iface 199 (.agg #[.pointer (some ⟨12,121,none⟩)])) w:=by kernel_rfl
theorem Tryz.er_methodKind (h:Value)(w:World):(Go.method 347 199 (.agg #[h]) "Kind").run Tryz.prog w = .ok (162,h) w:=by kernel_rfl
theorem Tryz.er_kindPP (w:World):((ReflectliteType.abiMethod fun t=>(fun a:Nat=>Value.int IntKind.u8 (a:Int)) <$> Rtype.kind t) #[.pointer (some ⟨12,121,none⟩)]).run Tryz.prog w = .ok (.int .u8 22) w:=by kernel_rfl
theorem Tryz.er_kindPE (w:World):((ReflectliteType.abiMethod fun t=>(fun a:Nat=>Value.int IntKind.u8 (a:Int)) <$> Rtype.kind t) #[.pointer (some ⟨12,119,none⟩)]).run Tryz.prog w = .ok (.int .u8 22) w:=by kernel_rfl
/-! ### THE ENTRIES THAT READ OR WRITE MEMORY: laws with a premise on the cell (after Derived/Lib/ReflectliteSlice.lean's manner: each unfolding a lemma of its own,by rfl) -/
theorem rlm (z:Sem Value)(f:TypeId->Addr->Nat->Nat->Sem Value)(v:Value) :
  ReflectliteValue.method z f #[v]=(do match <-ReflectliteValue.parts v with|none=>z|some (t,a,fl)=>f t a fl (fl % 32)):=rfl
theorem Tryz.er_partsPP (a:Addr)(w:World):(ReflectliteValue.parts (.agg #[.pointer (some ⟨12,121,none⟩),.pointer (some a),.int .u64 150])).run Tryz.prog w = .ok (some (121,a,150)) w:=by kernel_rfl
theorem Tryz.er_isNilPP (a p:Addr)(W:World)(ha:W.cell? a=some (.pointer (some p))) :
  (ReflectliteValue.method (ReflectliteValue.valueError "reflectlite.Value.IsNil" 0) ReflectliteValue.isNil #[.agg #[.pointer (some ⟨12,121,none⟩),.pointer (some a),.int .u64 150]]).run Tryz.prog W = .ok (.bool false) W:=by
 rw[rlm];simp only[Sem.run_bind,Tryz.er_partsPP,Result.andThen];simp[ReflectliteValue.isNil,loadVar,isAgg,underlying,Tryz.underlying121,ha,Result.andThen]
theorem Tryz.er_methodElem (h:Value)(w:World):(Go.method 347 199 (.agg #[h]) "Elem").run Tryz.prog w = .ok (172,.agg #[h]) w:=by kernel_rfl
theorem Tryz.er_methodImplements (h:Value)(w:World):(Go.method 347 199 (.agg #[h]) "Implements").run Tryz.prog w = .ok (173,.agg #[h]) w:=by kernel_rfl
theorem Tryz.er_methodAssignableTo (h:Value)(w:World):(Go.method 347 199 (.agg #[h]) "AssignableTo").run Tryz.prog w = .ok (170,.agg #[h]) w:=by kernel_rfl
theorem Tryz.er_elemPP (w:World):(ReflectliteType.method ReflectliteType.elem #[.agg #[.pointer (some ⟨12,121,none⟩)]]).run Tryz.prog w = .ok (.iface 199 (.agg #[.pointer (some ⟨12,119,none⟩)])) w:=by kernel_rfl
theorem Tryz.er_implementsPE (w:World):(ReflectliteType.relation "Implements" ReflectliteType.implements_ #[.agg #[.pointer (some ⟨12,119,none⟩)],.iface 199 (.agg #[.pointer (some ⟨12,61,none⟩)])]).run Tryz.prog w = .ok (.bool true) w:=by kernel_rfl
theorem Tryz.er_typeOfPE (v:Value)(w:World):(ReflectliteType.typeOf #[.iface 119 v]).run Tryz.prog w = .ok (.iface 199 (.agg #[.pointer (some ⟨12,119,none⟩)])) w:=by kernel_rfl
theorem Tryz.er_assignablePE (w:World):(ReflectliteType.relation "AssignableTo" ReflectliteType.assignableTo #[.agg #[.pointer (some ⟨12,119,none⟩)],.iface 199 (.agg #[.pointer (some ⟨12,119,none⟩)])]).run Tryz.prog w = .ok (.bool true) w:=by kernel_rfl
theorem Tryz.er_valueOfPE (e:Addr)(w:World):(ReflectliteValue.unpack (.iface 119 (.pointer (some e)))).run Tryz.prog w
  = .ok (.agg #[.pointer (some ⟨12,119,none⟩),.pointer (some ⟨w.heap.size,0,none⟩),.int .u64 150]) (w.alloc (.cells #[.pointer (some e)] 119)):=by kernel_rfl
theorem Tryz.er_elemOfPP (w:World):(Rtype.elem? 121).run Tryz.prog w = .ok (some 119) w:=by kernel_rfl
theorem Tryz.er_mkPE (p:Addr)(w:World):(ReflectliteValue.mk 119 p ReflectliteValue.flagAddr).run Tryz.prog w = .ok (.agg #[.pointer (some ⟨12,119,none⟩),.pointer (some p),.int .u64 406]) w:=by kernel_rfl
theorem Tryz.er_elemVPP (a p:Addr)(W:World)(ha:W.cell? a=some (.pointer (some p))) :
  (ReflectliteValue.method (ReflectliteValue.valueError "reflectlite.Value.Elem" 0) ReflectliteValue.elem #[.agg #[.pointer (some ⟨12,121,none⟩),.pointer (some a),.int .u64 150]]).run Tryz.prog W
   = .ok (.agg #[.pointer (some ⟨12,119,none⟩),.pointer (some p),.int .u64 406]) W:=by
 rw[rlm];simp only[Sem.run_bind,Tryz.er_partsPP,Result.andThen];simp[ReflectliteValue.elem,loadVar,isAgg,underlying,Tryz.underlying121,ha,Result.andThen,Tryz.er_elemOfPP,Tryz.er_mkPE]
theorem rls (v x:Value):ReflectliteValue.set #[v,x]=(do
  let (some (dst,a,fl),some (src,b,_)):=(<-ReflectliteValue.parts v,<-ReflectliteValue.parts x)
   |unsupported (.noEntry "extern/(internal/reflectlite.Value).Set.zeroValue")
  if fl/ReflectliteValue.flagAddr % 2==0 then unsupported (.noEntry "extern/(internal/reflectlite.Value).Set.unaddressable")
  let val <-loadVar src b
  if <-Rtype.directlyAssignable dst src then storeVar dst a val
  else if <-Rtype.implements dst src then
   if (<-Rtype.kind src)==20 then
    match val with
    |.nilIface=>unsupported (.noEntry "extern/reflectlite: a nil value of one interface type handed on as a value of another")
    |_=>storeVar dst a val
   else storeVar dst a (.iface src val)
  else panicString ("reflectlite.Set: value of type " ++ (<-Rtype.spelt src) ++ " is not assignable to type " ++ (<-Rtype.spelt dst))
  pure (.tuple #[])):=rfl
theorem Tryz.er_partsPEa (a:Addr)(w:World):(ReflectliteValue.parts (.agg #[.pointer (some ⟨12,119,none⟩),.pointer (some a),.int .u64 406])).run Tryz.prog w = .ok (some (119,a,406)) w:=by kernel_rfl
theorem Tryz.er_partsPE (a:Addr)(w:World):(ReflectliteValue.parts (.agg #[.pointer (some ⟨12,119,none⟩),.pointer (some a),.int .u64 150])).run Tryz.prog w = .ok (some (119,a,150)) w:=by kernel_rfl
theorem Tryz.er_directPE (w:World):(Rtype.directlyAssignable 119 119).run Tryz.prog w = .ok true w:=by kernel_rfl
theorem Tryz.er_setPE (ta b e:Addr)(old:Value)(W:World)(hb:W.cell? b=some (.pointer (some e)))(ht:W.cell? ta=some old)(hf:W.frozen? ta=false) :
  (ReflectliteValue.set #[.agg #[.pointer (some ⟨12,119,none⟩),.pointer (some ta),.int .u64 406],.agg #[.pointer (some ⟨12,119,none⟩),.pointer (some b),.int .u64 150]]).run Tryz.prog W
   = .ok (.tuple #[]) (W.setCell ta (.pointer (some e))):=by
 rw[rls];simp only[Sem.run_bind,Tryz.er_partsPEa,Tryz.er_partsPE,Result.andThen];simp[ReflectliteValue.flagAddr,loadVar,isAgg,underlying,Tryz.underlying119,hb,Result.andThen,Tryz.er_directPE,storeVar,Value.cells,storeCells,Addr.add];rw[run_store Tryz.prog W ta _ _ (by rfl)];simp[ht,hf]
set_option maxHeartbeats 4000000 in
theorem zaZ (e t:Addr)(old:Value)(w:World)(hg:w.cell? ⟨11,0,none⟩=some (.iface 199 (.agg #[.pointer (some ⟨12,61,none⟩)])))(ht0:w.cell? t=some old)(hf0:w.frozen? t=false) :
  Calls Tryz.prog 78 #[.iface 119 (.pointer (some e)),.iface 121 (.pointer (some t))] w fun ev w'=>ev = .returned (.bool true)/\w'=((((w.alloc (.cells #[.pointer (some t)] 121)).alloc (.cells #[.pointer (some ⟨12,121,none⟩),.pointer (some ⟨w.heap.size,0,none⟩),.int .u64 150] 166)).alloc (.cells #[.pointer (some ⟨12,121,none⟩),.pointer (some ⟨w.heap.size,0,none⟩),.int .u64 150] 166)).alloc (.cells #[.pointer (some e)] 119)).setCell t (.pointer (some e)):=by
 have h6:=@run_callFunc_extern Tryz.prog 115 _ (fun args=>ReflectliteValue.unpack (args.getD 0 (.tuple #[]))) Tryz.func115 (by kernel_rfl) (by kernel_rfl) (by kernel_rfl) (by kernel_rfl);have h7:=@run_callFunc_extern Tryz.prog 116 _ (ReflectliteValue.methodAny (ReflectliteValue.valueError "reflectlite.Value.Type" 0) (fun t _ _ _=>ReflectliteType.toType t)) Tryz.func116 (by kernel_rfl) (by kernel_rfl) (by kernel_rfl) (by kernel_rfl);have h8:=@run_callFunc_extern Tryz.prog 117 _ (ReflectliteValue.method (ReflectliteValue.valueError "reflectlite.Value.IsNil" 0) ReflectliteValue.isNil) Tryz.func117 (by kernel_rfl) (by kernel_rfl) (by kernel_rfl) (by kernel_rfl);have h27:=@run_callFunc_extern Tryz.prog 162 _ (ReflectliteType.abiMethod fun t=>do pure (.int .u8 (<-Rtype.kind t))) Tryz.func162 (by kernel_rfl) (by kernel_rfl) (by kernel_rfl) (by kernel_rfl);have h37:=@run_callFunc_extern Tryz.prog 172 _ (ReflectliteType.method ReflectliteType.elem) Tryz.func172 (by kernel_rfl) (by kernel_rfl) (by kernel_rfl) (by kernel_rfl);have h38:=@run_callFunc_extern Tryz.prog 173 _ (ReflectliteType.relation "Implements" ReflectliteType.implements_) Tryz.func173 (by kernel_rfl) (by kernel_rfl) (by kernel_rfl) (by kernel_rfl);have h10:=@run_callFunc_extern Tryz.prog 119 _ ReflectliteType.typeOf Tryz.func119 (by kernel_rfl) (by kernel_rfl) (by kernel_rfl) (by kernel_rfl);have h35:=@run_callFunc_extern Tryz.prog 170 _ (ReflectliteType.relation "AssignableTo" ReflectliteType.assignableTo) Tryz.func170 (by kernel_rfl) (by kernel_rfl) (by kernel_rfl) (by kernel_rfl);have h11:=@run_callFunc_extern Tryz.prog 142 _ (ReflectliteValue.method (ReflectliteValue.valueError "reflectlite.Value.Elem" 0) ReflectliteValue.elem) Tryz.func142 (by kernel_rfl) (by kernel_rfl) (by kernel_rfl) (by kernel_rfl);have h12:=@run_callFunc_extern Tryz.prog 143 _ ReflectliteValue.set Tryz.func143 (by kernel_rfl) (by kernel_rfl) (by kernel_rfl) (by kernel_rfl);have tO:=Tryz.er_typeOfPE;have mA:=Tryz.er_methodAssignableTo;have a25:=Tryz.er_assignablePE;have v25:=Tryz.er_valueOfPE;have f6:=Tryz.er_valueOfPP;have f7:=Tryz.er_typePP;have mK:=Tryz.er_methodKind;have mE:=Tryz.er_methodElem;have mI:=Tryz.er_methodImplements;have k27:=Tryz.er_kindPP;have k25:=Tryz.er_kindPE;have e27:=Tryz.er_elemPP;have i25:=Tryz.er_implementsPE;have n8:=Tryz.er_isNilPP ⟨w.heap.size,0,none⟩ t ((w.alloc (.cells #[.pointer (some t)] 121)).alloc (.cells #[.pointer (some ⟨12,121,none⟩),.pointer (some ⟨w.heap.size,0,none⟩),.int .u64 150] 166)) (by simp);have hlt:11<w.heap.size:=by
  rcases Nat.lt_or_ge 11 w.heap.size with h|h
  ·exact h
  ·simp[World.cell?,Array.getElem?_eq_none h] at hg
 have hg2:((w.alloc (.cells #[.pointer (some t)] 121)).alloc (.cells #[.pointer (some ⟨12,121,none⟩),.pointer (some ⟨w.heap.size,0,none⟩),.int .u64 150] 166)).cell? ⟨11,0,none⟩=some (.iface 199 (.agg #[.pointer (some ⟨12,61,none⟩)])):=by
  rw[World.cell?_alloc_lt _ _ ⟨11,0,none⟩ (by simp;omega),World.cell?_alloc_lt _ _ ⟨11,0,none⟩ hlt];exact hg
 have htl:t.block<w.heap.size:=by
  rcases Nat.lt_or_ge t.block w.heap.size with h|h
  ·exact h
  ·simp[World.cell?,Array.getElem?_eq_none h] at ht0
 have el:=Tryz.er_elemVPP ⟨w.heap.size,0,none⟩ t (((w.alloc (.cells #[.pointer (some t)] 121)).alloc (.cells #[.pointer (some ⟨12,121,none⟩),.pointer (some ⟨w.heap.size,0,none⟩),.int .u64 150] 166)).alloc (.cells #[.pointer (some ⟨12,121,none⟩),.pointer (some ⟨w.heap.size,0,none⟩),.int .u64 150] 166)) (by rw[World.cell?_alloc_lt _ _ ⟨w.heap.size,0,none⟩ (by simp;omega)];simp);have st:=Tryz.er_setPE t ⟨w.heap.size+1+1+1,0,none⟩ e old ((((w.alloc (.cells #[.pointer (some t)] 121)).alloc (.cells #[.pointer (some ⟨12,121,none⟩),.pointer (some ⟨w.heap.size,0,none⟩),.int .u64 150] 166)).alloc (.cells #[.pointer (some ⟨12,121,none⟩),.pointer (some ⟨w.heap.size,0,none⟩),.int .u64 150] 166)).alloc (.cells #[.pointer (some e)] 119))
  (by rw[World.cell?_alloc_at _ _ _ _ (by simp)];rfl)
  (by rw[World.cell?_alloc_lt _ _ t (by simp;omega),World.cell?_alloc_lt _ _ t (by simp;omega),World.cell?_alloc_lt _ _ t (by simp;omega),World.cell?_alloc_lt _ _ t htl];exact ht0)
  (by rw[World.frozen?_alloc_old _ _ t (by simp;omega),World.frozen?_alloc_old _ _ t (by simp;omega),World.frozen?_alloc_old _ _ t (by simp;omega),World.frozen?_alloc_old _ _ t (Nat.ne_of_lt htl)];exact hf0)
 go_enter Tryz.func78,Tryz.ntmps78
 go_wp2
 refine wp_loop_rounds 1 ?_;rw[rounds_succ]
 go_wp2
 go_ret
 exact⟨rfl,rfl⟩
/-! ### CLOSED FACTS: what 'reflectlite.TypeOf(target).Comparable()' gives at such a target -/
theorem Tryz.er_isTypeOf (v:Value)(w:World):(Extern.ReflectliteType.typeOf #[.iface 213 v]).run Tryz.prog w = .ok (.iface 199 (.agg #[.pointer (some ⟨12,213,none⟩)])) w:=by kernel_rfl
theorem Tryz.er_isComparable (w:World):((Extern.ReflectliteType.method fun t=>do Rtype.noPackHeld "Comparable" t;(fun a=>Value.bool a.comparable) <$> typeInfo t) #[.agg #[.pointer (some ⟨12,213,none⟩)]]).run Tryz.prog w = .ok (.bool true) w:=by kernel_rfl
theorem Tryz.er_isMethodComparable (v:Value)(w:World):(Go.method 347 199 v "Comparable").run Tryz.prog w = .ok (171,v) w:=by kernel_rfl
theorem Tryz.er_isComp:(Tryz.prog.info? 213).map (·.comparable)=some true:=by kernel_rfl
theorem Tryz.er_isSize:(Tryz.prog.info? 235).map (·.size)=some 1:=by kernel_rfl
/-! ### CLOSED FACTS ON THE METHOD SETS: what errors.is's assertions find -/
theorem Tryz.er_noIsE (v:Value)(xT:TypeId)(w:World):(Instr.typeAssert (.iface 213 v) xT 209 true).run Tryz.prog w = .ok (.tuple #[.nilIface,.bool false]) w:=run_typeAssert_lacksB Tryz.underlying209 (by kernel_rfl) (by kernel_rfl) v xT w
theorem Tryz.er_noUnwrapE (v:Value)(xT:TypeId)(w:World):(Instr.typeAssert (.iface 213 v) xT 206 true).run Tryz.prog w = .ok (.tuple #[.nilIface,.bool false]) w:=run_typeAssert_lacksB Tryz.underlying206 (by kernel_rfl) (by kernel_rfl) v xT w
theorem Tryz.er_noUnwrapsE (v:Value)(xT:TypeId)(w:World):(Instr.typeAssert (.iface 213 v) xT 207 true).run Tryz.prog w = .ok (.tuple #[.nilIface,.bool false]) w:=run_typeAssert_lacksB Tryz.underlying207 (by kernel_rfl) (by kernel_rfl) v xT w
theorem Tryz.er_noIsW (v:Value)(xT:TypeId)(w:World):(Instr.typeAssert (.iface 119 v) xT 209 true).run Tryz.prog w = .ok (.tuple #[.nilIface,.bool false]) w:=run_typeAssert_lacksB Tryz.underlying209 (by kernel_rfl) (by kernel_rfl) v xT w
theorem Tryz.er_hasUnwrapW (v:Value)(xT:TypeId)(w:World):(Instr.typeAssert (.iface 119 v) xT 206 true).run Tryz.prog w = .ok (.tuple #[.iface 119 v,.bool true]) w:=run_typeAssert_hasB Tryz.underlying206 (by kernel_rfl) v xT w
theorem Tryz.er_methodUnwrap (v:Value)(w:World):(Go.method 347 119 v "Unwrap").run Tryz.prog w = .ok (79,v) w:=by kernel_rfl
theorem H6 (a:Addr)(w:World) :
  Calls Tryz.prog 80 #[.iface 213 (.pointer (some a)),.iface 213 (.pointer (some a))] w fun e w'=>e = .returned (.bool true)/\w'=w:=by
 obtain⟨i,hi,hcmp⟩:=Option.map_eq_some_iff.1 Tryz.er_isComp;obtain⟨j,hj,hjs⟩:=Option.map_eq_some_iff.1 Tryz.er_isSize;have h8:=@run_callFunc_extern Tryz.prog 119 _ Extern.ReflectliteType.typeOf Tryz.func119 (by kernel_rfl) (by kernel_rfl) (by kernel_rfl) (by kernel_rfl);have h32:=@run_callFunc_extern Tryz.prog 171 _ (Extern.ReflectliteType.method fun t=>do Rtype.noPackHeld "Comparable" t;pure (.bool (<-typeInfo t).comparable)) Tryz.func171 (by kernel_rfl) (by kernel_rfl) (by kernel_rfl) (by kernel_rfl);have tT:=Tryz.er_isTypeOf;have cT:=Tryz.er_isComparable;have mR:=Tryz.er_isMethodComparable;have heq:=run_eql_iface_ptr_same (P:=Tryz.prog) w a Tryz.underlying61 Tryz.underlying213 hi hcmp hj
 go_enter Tryz.func80,Tryz.ntmps80
 go_wp2
 refine wp_loop_rounds 1 ?_;rw[rounds_succ]
 go_wp2
 go_ret
 exact⟨rfl,rfl⟩
theorem YO (a b:Addr)(ca cb:Array Value)(ta tb:TypeId)(w:World)(hne:a≠b)(ha:w.heap[a.block]?=some (.cells ca ta (0,0)))(hb:w.heap[b.block]?=some (.cells cb tb (0,0))) :
  Calls Tryz.prog 80 #[.iface 213 (.pointer (some a)),.iface 213 (.pointer (some b))] w fun e w'=>e = .returned (.bool false)/\w'=w:=by
 obtain⟨i,hi,hcmp⟩:=Option.map_eq_some_iff.1 Tryz.er_isComp;obtain⟨j,hj,hjs⟩:=Option.map_eq_some_iff.1 Tryz.er_isSize;have h8:=@run_callFunc_extern Tryz.prog 119 _ Extern.ReflectliteType.typeOf Tryz.func119 (by kernel_rfl) (by kernel_rfl) (by kernel_rfl) (by kernel_rfl);have h32:=@run_callFunc_extern Tryz.prog 171 _ (Extern.ReflectliteType.method fun t=>do Rtype.noPackHeld "Comparable" t;pure (.bool (<-typeInfo t).comparable)) Tryz.func171 (by kernel_rfl) (by kernel_rfl) (by kernel_rfl) (by kernel_rfl);have tT:=Tryz.er_isTypeOf;have cT:=Tryz.er_isComparable;have mR:=Tryz.er_isMethodComparable;have nE:=Tryz.er_noIsE;have uE:=Tryz.er_noUnwrapE;have vE:=Tryz.er_noUnwrapsE;have nW:=Tryz.er_noIsW;have uW:=Tryz.er_hasUnwrapW;have mU:=Tryz.er_methodUnwrap;have heq:=run_eql_iface_ptr_other (P:=Tryz.prog) w Tryz.underlying61 Tryz.underlying213 hi hcmp hj (by rw[hjs];decide) hne ha hb
 go_enter Tryz.func80,Tryz.ntmps80
 go_wp2
 refine wp_loop_rounds 1 ?_;rw[rounds_succ]
 go_wp2
 go_ret
 exact⟨rfl,rfl⟩
theorem Kr (pb po:Nat)(b:Addr)(w:World)(h1:w.cell? ⟨pb,po+1,none⟩=some (.iface 213 (.pointer (some b)))) :
  Calls Tryz.prog 80 #[.iface 119 (.pointer (some ⟨pb,po,none⟩)),.iface 213 (.pointer (some b))] w fun e w'=>e = .returned (.bool true)/\w'=w:=by
 obtain⟨i,hi,hcmp⟩:=Option.map_eq_some_iff.1 Tryz.er_isComp;obtain⟨j,hj,hjs⟩:=Option.map_eq_some_iff.1 Tryz.er_isSize;have h8:=@run_callFunc_extern Tryz.prog 119 _ Extern.ReflectliteType.typeOf Tryz.func119 (by kernel_rfl) (by kernel_rfl) (by kernel_rfl) (by kernel_rfl);have h32:=@run_callFunc_extern Tryz.prog 171 _ (Extern.ReflectliteType.method fun t=>do Rtype.noPackHeld "Comparable" t;pure (.bool (<-typeInfo t).comparable)) Tryz.func171 (by kernel_rfl) (by kernel_rfl) (by kernel_rfl) (by kernel_rfl);have tT:=Tryz.er_isTypeOf;have cT:=Tryz.er_isComparable;have mR:=Tryz.er_isMethodComparable;have nE:=Tryz.er_noIsE;have uE:=Tryz.er_noUnwrapE;have vE:=Tryz.er_noUnwrapsE;have nW:=Tryz.er_noIsW;have uW:=Tryz.er_hasUnwrapW;have mU:=Tryz.er_methodUnwrap;have heq:=run_eql_iface_ptr_same (P:=Tryz.prog) w b Tryz.underlying61 Tryz.underlying213 hi hcmp hj;have hty:=run_eql_iface_types (P:=Tryz.prog) 119 213 (.pointer (some ⟨pb,po,none⟩)) (.pointer (some b)) Tryz.underlying61 (by decide) w
 go_enter Tryz.func80,Tryz.ntmps80
 go_wp2
 refine wp_loop_rounds 2 ?_;rw[rounds_succ]
 go_wp2
 rw[rounds_succ]
 go_wp2
 go_ret
 exact⟨rfl,rfl⟩
theorem JR (pb po:Nat)(b a:Addr)(ca cb:Array Value)(ta tb:TypeId)(w:World)(h1:w.cell? ⟨pb,po+1,none⟩=some (.iface 213 (.pointer (some a))))(hne:a≠b)(ha:w.heap[a.block]?=some (.cells ca ta (0,0)))(hb:w.heap[b.block]?=some (.cells cb tb (0,0))) :
  Calls Tryz.prog 80 #[.iface 119 (.pointer (some ⟨pb,po,none⟩)),.iface 213 (.pointer (some b))] w fun e w'=>e = .returned (.bool false)/\w'=w:=by
 obtain⟨i,hi,hcmp⟩:=Option.map_eq_some_iff.1 Tryz.er_isComp;obtain⟨j,hj,hjs⟩:=Option.map_eq_some_iff.1 Tryz.er_isSize;have h8:=@run_callFunc_extern Tryz.prog 119 _ Extern.ReflectliteType.typeOf Tryz.func119 (by kernel_rfl) (by kernel_rfl) (by kernel_rfl) (by kernel_rfl);have h32:=@run_callFunc_extern Tryz.prog 171 _ (Extern.ReflectliteType.method fun t=>do Rtype.noPackHeld "Comparable" t;pure (.bool (<-typeInfo t).comparable)) Tryz.func171 (by kernel_rfl) (by kernel_rfl) (by kernel_rfl) (by kernel_rfl);have tT:=Tryz.er_isTypeOf;have cT:=Tryz.er_isComparable;have mR:=Tryz.er_isMethodComparable;have nE:=Tryz.er_noIsE;have uE:=Tryz.er_noUnwrapE;have vE:=Tryz.er_noUnwrapsE;have nW:=Tryz.er_noIsW;have uW:=Tryz.er_hasUnwrapW;have mU:=Tryz.er_methodUnwrap;have heq:=run_eql_iface_ptr_other (P:=Tryz.prog) w Tryz.underlying61 Tryz.underlying213 hi hcmp hj (by rw[hjs];decide) hne ha hb;have hty:=run_eql_iface_types (P:=Tryz.prog) 119 213 (.pointer (some ⟨pb,po,none⟩)) (.pointer (some b)) Tryz.underlying61 (by decide) w
 go_enter Tryz.func80,Tryz.ntmps80
 go_wp2
 refine wp_loop_rounds 2 ?_;rw[rounds_succ]
 go_wp2
 rw[rounds_succ]
 go_wp2
 go_ret
 exact⟨rfl,rfl⟩
/-! ### errors.As at an error of errors.New's make: no hit -/
theorem Tryz.er_typeOfE (v:Value)(w:World):(ReflectliteType.typeOf #[.iface 213 v]).run Tryz.prog w = .ok (.iface 199 (.agg #[.pointer (some ⟨12,213,none⟩)])) w:=by kernel_rfl
theorem Tryz.er_assignableE (w:World):(ReflectliteType.relation "AssignableTo" ReflectliteType.assignableTo #[.agg #[.pointer (some ⟨12,213,none⟩)],.iface 199 (.agg #[.pointer (some ⟨12,119,none⟩)])]).run Tryz.prog w = .ok (.bool false) w:=by kernel_rfl
theorem Tryz.er_noAsE (v:Value)(xT:TypeId)(w:World):(Instr.typeAssert (.iface 213 v) xT 203 true).run Tryz.prog w = .ok (.tuple #[.nilIface,.bool false]) w:=run_typeAssert_lacksB Tryz.underlying203 (by kernel_rfl) (by kernel_rfl) v xT w
set_option maxHeartbeats 4000000 in
theorem H7 (e t:Addr)(old:Value)(w:World)(hg:w.cell? ⟨11,0,none⟩=some (.iface 199 (.agg #[.pointer (some ⟨12,61,none⟩)])))(ht0:w.cell? t=some old)(hf0:w.frozen? t=false) :
  Calls Tryz.prog 78 #[.iface 213 (.pointer (some e)),.iface 121 (.pointer (some t))] w fun ev w'=>ev = .returned (.bool false)/\w'=(((w.alloc (.cells #[.pointer (some t)] 121)).alloc (.cells #[.pointer (some ⟨12,121,none⟩),.pointer (some ⟨w.heap.size,0,none⟩),.int .u64 150] 166)).alloc (.cells #[.pointer (some ⟨12,121,none⟩),.pointer (some ⟨w.heap.size,0,none⟩),.int .u64 150] 166)):=by
 have h6:=@run_callFunc_extern Tryz.prog 115 _ (fun args=>ReflectliteValue.unpack (args.getD 0 (.tuple #[]))) Tryz.func115 (by kernel_rfl) (by kernel_rfl) (by kernel_rfl) (by kernel_rfl);have h7:=@run_callFunc_extern Tryz.prog 116 _ (ReflectliteValue.methodAny (ReflectliteValue.valueError "reflectlite.Value.Type" 0) (fun t _ _ _=>ReflectliteType.toType t)) Tryz.func116 (by kernel_rfl) (by kernel_rfl) (by kernel_rfl) (by kernel_rfl);have h8:=@run_callFunc_extern Tryz.prog 117 _ (ReflectliteValue.method (ReflectliteValue.valueError "reflectlite.Value.IsNil" 0) ReflectliteValue.isNil) Tryz.func117 (by kernel_rfl) (by kernel_rfl) (by kernel_rfl) (by kernel_rfl);have h27:=@run_callFunc_extern Tryz.prog 162 _ (ReflectliteType.abiMethod fun t=>do pure (.int .u8 (<-Rtype.kind t))) Tryz.func162 (by kernel_rfl) (by kernel_rfl) (by kernel_rfl) (by kernel_rfl);have h37:=@run_callFunc_extern Tryz.prog 172 _ (ReflectliteType.method ReflectliteType.elem) Tryz.func172 (by kernel_rfl) (by kernel_rfl) (by kernel_rfl) (by kernel_rfl);have h38:=@run_callFunc_extern Tryz.prog 173 _ (ReflectliteType.relation "Implements" ReflectliteType.implements_) Tryz.func173 (by kernel_rfl) (by kernel_rfl) (by kernel_rfl) (by kernel_rfl);have h10:=@run_callFunc_extern Tryz.prog 119 _ ReflectliteType.typeOf Tryz.func119 (by kernel_rfl) (by kernel_rfl) (by kernel_rfl) (by kernel_rfl);have h35:=@run_callFunc_extern Tryz.prog 170 _ (ReflectliteType.relation "AssignableTo" ReflectliteType.assignableTo) Tryz.func170 (by kernel_rfl) (by kernel_rfl) (by kernel_rfl) (by kernel_rfl);have h11:=@run_callFunc_extern Tryz.prog 142 _ (ReflectliteValue.method (ReflectliteValue.valueError "reflectlite.Value.Elem" 0) ReflectliteValue.elem) Tryz.func142 (by kernel_rfl) (by kernel_rfl) (by kernel_rfl) (by kernel_rfl);have h12:=@run_callFunc_extern Tryz.prog 143 _ ReflectliteValue.set Tryz.func143 (by kernel_rfl) (by kernel_rfl) (by kernel_rfl) (by kernel_rfl);have tO:=Tryz.er_typeOfE;have mA:=Tryz.er_methodAssignableTo;have a25:=Tryz.er_assignableE;have nAs:=Tryz.er_noAsE;have uE:=Tryz.er_noUnwrapE;have vE:=Tryz.er_noUnwrapsE;have v25:=Tryz.er_valueOfPE;have f6:=Tryz.er_valueOfPP;have f7:=Tryz.er_typePP;have mK:=Tryz.er_methodKind;have mE:=Tryz.er_methodElem;have mI:=Tryz.er_methodImplements;have k27:=Tryz.er_kindPP;have k25:=Tryz.er_kindPE;have e27:=Tryz.er_elemPP;have i25:=Tryz.er_implementsPE;have n8:=Tryz.er_isNilPP ⟨w.heap.size,0,none⟩ t ((w.alloc (.cells #[.pointer (some t)] 121)).alloc (.cells #[.pointer (some ⟨12,121,none⟩),.pointer (some ⟨w.heap.size,0,none⟩),.int .u64 150] 166)) (by simp);have hlt:11<w.heap.size:=by
  rcases Nat.lt_or_ge 11 w.heap.size with h|h
  ·exact h
  ·simp[World.cell?,Array.getElem?_eq_none h] at hg
 have hg2:((w.alloc (.cells #[.pointer (some t)] 121)).alloc (.cells #[.pointer (some ⟨12,121,none⟩),.pointer (some ⟨w.heap.size,0,none⟩),.int .u64 150] 166)).cell? ⟨11,0,none⟩=some (.iface 199 (.agg #[.pointer (some ⟨12,61,none⟩)])):=by
  rw[World.cell?_alloc_lt _ _ ⟨11,0,none⟩ (by simp;omega),World.cell?_alloc_lt _ _ ⟨11,0,none⟩ hlt];exact hg
 go_enter Tryz.func78,Tryz.ntmps78
 go_wp2
 refine wp_loop_rounds 1 ?_;rw[rounds_succ]
 go_wp2
 go_ret
 exact⟨rfl,rfl⟩
end Go.Proofs.YtjlibljfpkmpfaaGreatDoor
