/- api.Fault; stop; how check.File ends; told. -/
import Derived.Test.YtdaejggcjjdhkaaGreatDoorMkE
import Derived.Test.YtdaejggcjjdhkaaGreatDoorMkA
import Derived.Laws.Tables
import Derived.Laws.Cells
import Derived.Deep.RegionHeld3
import Derived.Deep.DeepCutAuto
import Derived.Below
import Derived.WalkLawsBesides
import Derived.Defers
import Derived.Recover
import Derived.FnLit
import Derived.Deep.CutBlock
set_option maxHeartbeats 4000000
set_option maxRecDepth 100000
namespace Go.Proofs.YtdaejggcjjdhkaaGreatDoor
open Go.RowKit Go.Extern.Stop Go.Stop Go.Extern

abbrev zx (no:Int) (line:Int) (at_:Int):Value:=.iface 72 (.agg #[.int .i64 no,.int .i64 line,.int .i64 at_])

namespace IsFault
theorem noIs (v:Value) (w:World):(Instr.typeAssert (.iface 72 v) 32 174 true).run Tryz.prog w=.ok (.tuple #[.nilIface,.bool false]) w:=run_typeAssert_lacksB Tryz.underlying174 (by kernel_rfl) (by kernel_rfl) v _ w
theorem hasUnwrap (v:Value) (w:World):(Instr.typeAssert (.iface 72 v) 32 159 true).run Tryz.prog w=.ok (.tuple #[.iface 72 v,.bool true]) w:=run_typeAssert_hasB Tryz.underlying159 (by kernel_rfl) v _ w
end IsFault

theorem yT (no:Int) (line:Int) (at_:Int) (w:World):Calls Tryz.prog 217 #[.agg #[.int .i64 no,.int .i64 line,.int .i64 at_]] w fun e w'=>e=.returned (Xi no)∧w'=w.alloc (.cells #[.int .i64 no,.int .i64 line,.int .i64 at_] 72):=by go_enter Tryz.func217,Tryz.ntmps217;go_wp2;go_ret;exact ⟨rfl,rfl⟩

theorem jP (no:Int) (line:Int) (at_:Int) (b:Int) (w:World):
  Calls Tryz.prog 54 #[zx no line at_,Xi b] w fun e w'=>e=.returned (.bool (no==b))∧Below w.heap.size w w':=by
 obtain ⟨i,hi,hcmp⟩:=Option.map_eq_some_iff.1 Is.info;have h8:=@run_callFunc_extern Tryz.prog 118 _ ReflectliteType.typeOf Tryz.func118 (by kernel_rfl) (by kernel_rfl) (by kernel_rfl) (by kernel_rfl);have h32:=@run_callFunc_extern Tryz.prog 223 _ Is.cmpFn Tryz.func223 (by kernel_rfl) (by kernel_rfl) (by kernel_rfl) (by kernel_rfl);have tT:=Is.typeOf;have cT:=Is.comparable;have n1:=Is.noIs;have n2:=Is.noUnwrap;have n3:=Is.noUnwraps;have n4:=IsFault.noIs;have n5:=IsFault.hasUnwrap;have heq:=fun W=>yU (P:=Tryz.prog) W no b Tryz.underlying32 Tryz.underlying70 hi hcmp;have hty:=run_eql_iface_types (P:=Tryz.prog) 72 70 (.agg #[.int .i64 no,.int .i64 line,.int .i64 at_]) (.int .i64 b) Tryz.underlying32 (by decide)
 by_cases hab:no=b
 · have hb:(no==b)=true:=by simp [hab]
   clear hab;go_enter Tryz.func54,Tryz.ntmps54;go_wp2_with (first | (go_at_call 217;refine (yT _ _ _ _).mono ?_;rintro e w' ⟨rfl,rfl⟩) | go_in);refine wp_loop_rounds 2 ?_;rw [rounds_succ];go_wp2_with (first | (go_at_call 217;refine (yT _ _ _ _).mono ?_;rintro e w' ⟨rfl,rfl⟩) | go_in);rw [rounds_succ];go_wp2;go_ret;exact ⟨by rw [hb];rfl,(Ja _ _).alloc (Jd _) _⟩
 · have hb:(no==b)=false:=by simp [hab]
   clear hab;go_enter Tryz.func54,Tryz.ntmps54;go_wp2_with (first | (go_at_call 217;refine (yT _ _ _ _).mono ?_;rintro e w' ⟨rfl,rfl⟩) | go_in);refine wp_loop_rounds 2 ?_;rw [rounds_succ];go_wp2_with (first | (go_at_call 217;refine (yT _ _ _ _).mono ?_;rintro e w' ⟨rfl,rfl⟩) | go_in);rw [rounds_succ];go_wp2;go_ret;exact ⟨by rw [hb];rfl,(Ja _ _).alloc (Jd _) _⟩

namespace AsFault
theorem typeOf (v:Value) (w:World):(ReflectliteType.typeOf #[.iface 72 v]).run Tryz.prog w=.ok (.iface 152 (.agg #[.pointer (some ⟨4,72,none⟩)])) w:=by kernel_rfl
theorem assign (w:World):(As.assignFn #[.agg #[.pointer (some ⟨4,72,none⟩)],.iface 152 (.agg #[.pointer (some ⟨4,72,none⟩)])]).run Tryz.prog w=.ok (.bool true) w:=by kernel_rfl
theorem valueOf (no line at_:Int) (w:World):(ReflectliteValue.unpack (.iface 72 (.agg #[.int .i64 no,.int .i64 line,.int .i64 at_]))).run Tryz.prog w
  = .ok (.agg #[.pointer (some ⟨4,72,none⟩),.pointer (some ⟨w.heap.size,0,none⟩),.int .u64 153]) (w.alloc (.cells #[.int .i64 no,.int .i64 line,.int .i64 at_] 72)):=by kernel_rfl
theorem V5 (w:World):(Rtype.elem? 75).run Tryz.prog w=.ok (some 72) w:=by kernel_rfl
theorem mk (p:Addr) (w:World):(ReflectliteValue.mk 72 p ReflectliteValue.flagAddr).run Tryz.prog w=.ok (.agg #[.pointer (some ⟨4,72,none⟩),.pointer (some p),.int .u64 409]) w:=by kernel_rfl
def elemVFn : Array Value → Sem Value := ReflectliteValue.method (ReflectliteValue.valueError "reflectlite.Value.Elem" 0) ReflectliteValue.elem
theorem elemV (a p:Addr) (W:World) (ha:W.cell? a=some (.pointer (some p))):
  (elemVFn #[.agg #[.pointer (some ⟨4,75,none⟩),.pointer (some a),.int .u64 150]]).run Tryz.prog W=.ok (.agg #[.pointer (some ⟨4,72,none⟩),.pointer (some p),.int .u64 409]) W:=by
 unfold elemVFn;rw [As.rlm];simp only [Sem.run_bind,As.partsP,Result.andThen];simp [ReflectliteValue.elem,loadVar,isAgg,underlying,Tryz.underlying75,ha,Result.andThen,V5,mk]
def setFn:Array Value→Sem Value:=ReflectliteValue.set
theorem rls (v x:Value):ReflectliteValue.set #[v,x]=(do
  let (some (dst,a,fl),some (src,b,_)):=(←ReflectliteValue.parts v,←ReflectliteValue.parts x)
   | unsupported (.noEntry "extern/(internal/reflectlite.Value).Set.zeroValue")
  if fl / ReflectliteValue.flagAddr % 2 == 0 then unsupported (.noEntry "extern/(internal/reflectlite.Value).Set.unaddressable")
  let val ←loadVar src b
  if ←Rtype.directlyAssignable dst src then storeVar dst a val
  else if ←Rtype.implements dst src then
   if (←Rtype.kind src)==20 then
    match val with
    | .nilIface => unsupported (.noEntry "extern/reflectlite: a nil value of one interface type handed on as a value of another")
    | _=>storeVar dst a val
   else storeVar dst a (.iface src val)
  else panicString ("reflectlite.Set: value of type " ++ (← Rtype.spelt src) ++ " is not assignable to type " ++ (← Rtype.spelt dst))
  pure (.tuple #[])):=rfl
theorem VH (a:Addr) (w:World):(ReflectliteValue.parts (.agg #[.pointer (some ⟨4,72,none⟩),.pointer (some a),.int .u64 409])).run Tryz.prog w=.ok (some (72,a,409)) w:=by kernel_rfl
theorem VI (a:Addr) (w:World):(ReflectliteValue.parts (.agg #[.pointer (some ⟨4,72,none⟩),.pointer (some a),.int .u64 153])).run Tryz.prog w=.ok (some (72,a,153)) w:=by kernel_rfl
theorem V6 (w:World):(Rtype.directlyAssignable 72 72).run Tryz.prog w=.ok true w:=by kernel_rfl
theorem setV (tb b:Nat) (a0 a1 a2:Value) (no line at_:Int) (W:World) (hb:Blk W b 72 #[.int .i64 no,.int .i64 line,.int .i64 at_]) (ht:Blk W tb 72 #[a0,a1,a2]):
  (setFn #[.agg #[.pointer (some ⟨4,72,none⟩),.pointer (some ⟨tb,0,none⟩),.int .u64 409],.agg #[.pointer (some ⟨4,72,none⟩),.pointer (some ⟨b,0,none⟩),.int .u64 153]]).run Tryz.prog W
   = .ok (.tuple #[]) (W.setRow tb #[.int .i64 no,.int .i64 line,.int .i64 at_]):=by
 have hl:(loadCells ⟨b,0,none⟩ 3).run Tryz.prog W=.ok #[.int .i64 no,.int .i64 line,.int .i64 at_] W:=
  run_loadCells_list (P:=Tryz.prog) (w:=W) ⟨b,0,none⟩ [.int .i64 no,.int .i64 line,.int .i64 at_] (fun j v hj=>by
   have hc:=hb.cell j;have ea:(⟨b,0,none⟩:Addr).add j=⟨b,j,none⟩:=by unfold Addr.add;split <;> simp_all
   rw [ea,hc];simpa using hj)
 have hs:(storeCells ⟨tb,0,none⟩ [.int .i64 no,.int .i64 line,.int .i64 at_] 0).run Tryz.prog W=.ok () (W.setRow tb #[.int .i64 no,.int .i64 line,.int .i64 at_]):=by have:=run_storeCells_from (P:=Tryz.prog) tb 72 [.int .i64 no,.int .i64 line,.int .i64 at_] 0 #[a0,a1,a2] W ht rfl (by simp [Value.oneCell']);simpa using this
 unfold setFn;rw [rls];simp only [Sem.run_bind,VH,VI,Result.andThen];simp [ReflectliteValue.flagAddr,loadVar,hl,Result.andThen,V6,storeVar,Value.cells,hs]
theorem xElem:∀ (args:Array Value) (w:World),Sem.run Tryz.prog (callFunc 134 args) w=(((elemVFn) args).run Tryz.prog w).andThen fun v w'=>Result.ok (Next.value v) w':=@run_callFunc_extern Tryz.prog 134 _ elemVFn Tryz.func134 (by kernel_rfl) (by kernel_rfl) (by kernel_rfl) (by kernel_rfl)
theorem xSet:∀ (args:Array Value) (w:World),Sem.run Tryz.prog (callFunc 135 args) w=(((setFn) args).run Tryz.prog w).andThen fun v w'=>Result.ok (Next.value v) w':=@run_callFunc_extern Tryz.prog 135 _ setFn Tryz.func135 (by kernel_rfl) (by kernel_rfl) (by kernel_rfl) (by kernel_rfl)
end AsFault
def Hit (w w':World) (tb:Nat) (no line at_:Int):Prop:=Blk w' tb 72 #[.int .i64 no,.int .i64 line,.int .i64 at_]∧w.grownBy w' (some tb)
theorem Hit.mk {w W:World} {tb:Nat} {no line at_:Int} {cs:Array Value} (hg:w.grownBy W none) (hb:Blk W tb 72 cs):Hit w (W.setRow tb #[.int .i64 no,.int .i64 line,.int .i64 at_]) tb no line at_:=by refine ⟨setRow_heap W tb _ _ _ _ hb,hg.os,hg.tape,hg.output,by rw [yB];exact hg.size,fun k hk hne=>?_⟩;rw [←hg.block k hk (by simp)];simp [World.setRow,Array.getElem?_modify,show tb≠k from fun e=>hne (by rw [e])]
theorem jm (no line at_:Int) (tb:Nat) (a0 a1 a2:Value) (w:World) (hg:ErrVar w) (ht:Blk w tb 72 #[a0,a1,a2]):
  Calls Tryz.prog 41 #[zx no line at_,.iface 75 (.pointer (some ⟨tb,0,none⟩))] w fun e w'=>e=.returned (.bool true)∧Hit w w' tb no line at_:=by
 have hlt:=hg.lt;unfold ErrVar at hg;have htl:=ht.lt;have h6:=As.x6;have h7:=As.x7;have h8:=As.x8;have h27:=As.x27;have h37:=As.x37;have h38:=As.x38;have h10:=As.x10;have h35:=As.x35;have h11:=AsFault.xElem;have h12:=AsFault.xSet;have tO:=AsFault.typeOf;have a25:=AsFault.assign;have v25:=AsFault.valueOf;have f6:=As.valueOfP;have f7:=As.typeP;have k27:=As.kindP;have k25:=As.kindF;have e27:=As.elemP;have i25:=As.implF;have n8:=As.isNilP ⟨w.heap.size,0,none⟩ ⟨tb,0,none⟩ ((w.alloc (.cells #[.pointer (some ⟨tb,0,none⟩)] 75)).alloc (.cells #[.pointer (some ⟨4,75,none⟩),.pointer (some ⟨w.heap.size,0,none⟩),.int .u64 150] 110)) (by simp);have hg2:((w.alloc (.cells #[.pointer (some ⟨tb,0,none⟩)] 75)).alloc (.cells #[.pointer (some ⟨4,75,none⟩),.pointer (some ⟨w.heap.size,0,none⟩),.int .u64 150] 110)).cell? ⟨0,0,none⟩=some (.iface 152 (.agg #[.pointer (some ⟨4,32,none⟩)])):=by rw [World.cell?_alloc_lt _ _ ⟨0,0,none⟩ (by first | (simp;done) | (simp;omega)),World.cell?_alloc_lt _ _ ⟨0,0,none⟩ hlt];exact hg
 have el:=AsFault.elemV ⟨w.heap.size,0,none⟩ ⟨tb,0,none⟩ (((w.alloc (.cells #[.pointer (some ⟨tb,0,none⟩)] 75)).alloc (.cells #[.pointer (some ⟨4,75,none⟩),.pointer (some ⟨w.heap.size,0,none⟩),.int .u64 150] 110)).alloc (.cells #[.pointer (some ⟨4,75,none⟩),.pointer (some ⟨w.heap.size,0,none⟩),.int .u64 150] 110)) (by rw [World.cell?_alloc_lt _ _ ⟨w.heap.size,0,none⟩ (by simp;omega)];simp);have hT:=(((ht.alloc (.cells #[.pointer (some ⟨tb,0,none⟩)] 75)).alloc (.cells #[.pointer (some ⟨4,75,none⟩),.pointer (some ⟨w.heap.size,0,none⟩),.int .u64 150] 110)).alloc (.cells #[.pointer (some ⟨4,75,none⟩),.pointer (some ⟨w.heap.size,0,none⟩),.int .u64 150] 110)).alloc (.cells #[.int .i64 no,.int .i64 line,.int .i64 at_] 72);have hS:=Blk.new (((w.alloc (.cells #[.pointer (some ⟨tb,0,none⟩)] 75)).alloc (.cells #[.pointer (some ⟨4,75,none⟩),.pointer (some ⟨w.heap.size,0,none⟩),.int .u64 150] 110)).alloc (.cells #[.pointer (some ⟨4,75,none⟩),.pointer (some ⟨w.heap.size,0,none⟩),.int .u64 150] 110)) 72 #[.int .i64 no,.int .i64 line,.int .i64 at_];have st:=AsFault.setV tb _ a0 a1 a2 no line at_ _ hS hT;simp only [Jb] at st
 have hfin:=hY (Hit.mk (w:=w) (no:=no) (line:=line) (at_:=at_) (zV ((((Ja w.heap.size w).alloc (Jd _) (.cells #[.pointer (some ⟨tb,0,none⟩)] 75)).alloc (by simp) (.cells #[.pointer (some ⟨4,75,none⟩),.pointer (some ⟨w.heap.size,0,none⟩),.int .u64 150] 110)).alloc (by simp;omega) (.cells #[.pointer (some ⟨4,75,none⟩),.pointer (some ⟨w.heap.size,0,none⟩),.int .u64 150] 110) |>.alloc (by simp;omega) (.cells #[.int .i64 no,.int .i64 line,.int .i64 at_] 72)) none) hT);clear hS hT ht;go_enter Tryz.func41,Tryz.ntmps41;go_wp2;refine wp_loop_rounds 1 ?_;rw [rounds_succ];go_wp2;go_ret;exact ⟨rfl,hfin.out⟩
end Go.Proofs.YtdaejggcjjdhkaaGreatDoor
namespace Go.Proofs.YtdaejggcjjdhkaaGreatDoor
open Go.RowKit

theorem W7 (no line at_:Int):UI (zx no line at_) no:=fun b w=>jP no line at_ b w
theorem Zd (no line at_:Int) (h1:1≤no) (h2:no≤32) (w:World):Calls Tryz.prog 23 #[zx no line at_] w fun e w'=>e=.returned (.int .i64 no)∧Below w.heap.size w w':=VM _ _ no (W7 no line at_) h1 h2 w
theorem Yw (no line at_:Int) (h1:1≤no) (h2:no≤32) (w:World) (hg:ErrVar w):
  Calls Tryz.prog 26 #[zx no line at_] w fun e w'=>e=.returned (.tuple #[.int .i64 line,.int .i64 at_,.bool true])∧Below w.heap.size w w':=by
 have t0:(no==no)=true:=by simp
 have hB0:=(Ja w.heap.size w).alloc (Jd _) (.cells #[.int .i64 0,.int .i64 0,.int .i64 0] 72);have hK0:=Blk.new w 72 #[.int .i64 0,.int .i64 0,.int .i64 0];have HG0:=hY (hg.below hB0 hg.lt);have HB0:=hY hB0;have HK0:=hY hK0;clear hg hB0 hK0;go_enter Tryz.func26,Tryz.ntmps26;go_wp2_with fail;refine (jm no line at_ w.heap.size _ _ _ _ HG0.out HK0.out).mono ?_;rintro e w1 ⟨rfl,hH,hG1⟩;have hlt:=hH.lt;have c0:w1.cell? ⟨w.heap.size,0,none⟩=some (.int .i64 no):=hH.cell 0;have c1:w1.cell? ⟨w.heap.size,1,none⟩=some (.int .i64 line):=hH.cell 1;have c2:w1.cell? ⟨w.heap.size,2,none⟩=some (.int .i64 at_):=hH.cell 2;have hB1:=HB0.out.grown hG1 HB0.out.size (fun k e=>by cases e;exact Jd _);clear hH hG1;go_upto_region 4 with fail;go_cut [2,3,4] (fun s2 s3 s4 wx=>s2=.int .i64 line∧s3=.int .i64 at_∧s4=.bool true∧Below w1.heap.size w1 wx)
 case first =>go_region_held3 (fun w'=>w'.cell? ⟨w.heap.size,0,none⟩=some (.int .i64 no)∧w'.cell? ⟨w.heap.size,1,none⟩=some (.int .i64 line)∧w'.cell? ⟨w.heap.size,2,none⟩=some (.int .i64 at_)) (exact ⟨c0,c1,c2⟩) ((go_at_call 23;refine (Zd no line at_ h1 h2 _).mono ?_;rintro e w9 ⟨rfl,hb0⟩;have c0:=(hb0.cell (p:=⟨w.heap.size,0,none⟩) hlt).trans c0;have c1:=(hb0.cell (p:=⟨w.heap.size,1,none⟩) hlt).trans c1;have c2:=(hb0.cell (p:=⟨w.heap.size,2,none⟩) hlt).trans c2;have BX:=za (by first | exact Ja w1.heap.size w1 | exact (Ja w1.heap.size w1).drew) hb0 (by first | exact Jd _ | rfl)));go_wp2_with fail;go_meet;exact ⟨rfl,rfl,rfl,BX⟩
 case rest =>obtain ⟨rfl,rfl,rfl,bx⟩:=hcut;go_wp2_with fail;go_ret3;exact ⟨rfl,za hB1 bx hB1.size⟩
theorem jl (no line at_:Int) (h1:1≤no) (h2:no≤32) (w:World) (hg:ErrVar w):
  Calls Tryz.prog 39 #[zx no line at_,.int .i64 no,.int .i64 line,.int .i64 at_] w fun e w'=>e=.returned (.bool true)∧Below w.heap.size w w':=by
 have t0:(no==0)=false:=by simp;omega
 have t1:(no==no)=true:=by simp
 have t2:(line==line)=true:=by simp
 have t3:(at_==at_)=true:=by simp
 go_enter Tryz.func39,Tryz.ntmps39;go_wp2_with fail;refine (Yw no line at_ h1 h2 _ hg).mono ?_;rintro e w1 ⟨rfl,b1⟩;go_wp2_with fail;refine (Zd no line at_ h1 h2 _).mono ?_;rintro e w2 ⟨rfl,b2⟩;go_wp2_with fail;go_ret;exact ⟨rfl,za b1 b2 b1.size⟩
theorem zar (line at_:Int) (w:World):
  Calls Tryz.prog 39 #[.nilIface,.int .i64 0,.int .i64 line,.int .i64 at_] w fun e w'=>e=.returned (.bool true)∧w=w':=by
 go_enter Tryz.func39,Tryz.ntmps39;go_wp2_with fail;go_ret;exact ⟨rfl,rfl⟩
end Go.Proofs.YtdaejggcjjdhkaaGreatDoor
namespace Go.Proofs.YtdaejggcjjdhkaaGreatDoor
open Go.RowKit Go.Extern.Stop Go.Stop Go.Extern

namespace AsNo
theorem valueOfP (t:Addr) (w:World):(ReflectliteValue.unpack (.iface 119 (.pointer (some t)))).run Tryz.prog w
  = .ok (.agg #[.pointer (some ⟨4,119,none⟩),.pointer (some ⟨w.heap.size,0,none⟩),.int .u64 150]) (w.alloc (.cells #[.pointer (some t)] 119)):=by kernel_rfl
theorem typeP (a:Addr) (w:World):(As.typeFn #[.agg #[.pointer (some ⟨4,119,none⟩),.pointer (some a),.int .u64 150]]).run Tryz.prog w
  = .ok (.iface 152 (.agg #[.pointer (some ⟨4,119,none⟩)])) w:=by kernel_rfl
theorem kindP (w:World):(As.kindFn #[.pointer (some ⟨4,119,none⟩)]).run Tryz.prog w=.ok (.int .u8 22) w:=by kernel_rfl
theorem kindE (w:World):(As.kindFn #[.pointer (some ⟨4,70,none⟩)]).run Tryz.prog w=.ok (.int .u8 2) w:=by kernel_rfl
theorem partsP (a:Addr) (w:World):(ReflectliteValue.parts (.agg #[.pointer (some ⟨4,119,none⟩),.pointer (some a),.int .u64 150])).run Tryz.prog w=.ok (some (119,a,150)) w:=by kernel_rfl
theorem isNilP (a p:Addr) (W:World) (ha:W.cell? a=some (.pointer (some p))):
  (As.nilFn #[.agg #[.pointer (some ⟨4,119,none⟩),.pointer (some a),.int .u64 150]]).run Tryz.prog W=.ok (.bool false) W:=by
 unfold As.nilFn;rw [As.rlm];simp only [Sem.run_bind,partsP,Result.andThen];simp [ReflectliteValue.isNil,loadVar,isAgg,underlying,Tryz.underlying119,ha,Result.andThen]
theorem elemP (w:World):(As.elemFn #[.agg #[.pointer (some ⟨4,119,none⟩)]]).run Tryz.prog w=.ok (.iface 152 (.agg #[.pointer (some ⟨4,70,none⟩)])) w:=by kernel_rfl
theorem implE (w:World):(As.implFn #[.agg #[.pointer (some ⟨4,70,none⟩)],.iface 152 (.agg #[.pointer (some ⟨4,32,none⟩)])]).run Tryz.prog w=.ok (.bool true) w:=by kernel_rfl
theorem assign (w:World):(As.assignFn #[.agg #[.pointer (some ⟨4,70,none⟩)],.iface 152 (.agg #[.pointer (some ⟨4,70,none⟩)])]).run Tryz.prog w=.ok (.bool true) w:=by kernel_rfl
theorem valueOf (n:Int) (w:World):(ReflectliteValue.unpack (.iface 70 (.int .i64 n))).run Tryz.prog w
  = .ok (.agg #[.pointer (some ⟨4,70,none⟩),.pointer (some ⟨w.heap.size,0,none⟩),.int .u64 130]) (w.alloc (.cells #[.int .i64 n] 70)):=by kernel_rfl
theorem V5 (w:World):(Rtype.elem? 119).run Tryz.prog w=.ok (some 70) w:=by kernel_rfl
theorem mk (p:Addr) (w:World):(ReflectliteValue.mk 70 p ReflectliteValue.flagAddr).run Tryz.prog w=.ok (.agg #[.pointer (some ⟨4,70,none⟩),.pointer (some p),.int .u64 386]) w:=by kernel_rfl
theorem elemV (a p:Addr) (W:World) (ha:W.cell? a=some (.pointer (some p))):
  (AsFault.elemVFn #[.agg #[.pointer (some ⟨4,119,none⟩),.pointer (some a),.int .u64 150]]).run Tryz.prog W=.ok (.agg #[.pointer (some ⟨4,70,none⟩),.pointer (some p),.int .u64 386]) W:=by
 unfold AsFault.elemVFn;rw [As.rlm];simp only [Sem.run_bind,partsP,Result.andThen];simp [ReflectliteValue.elem,loadVar,isAgg,underlying,Tryz.underlying119,ha,Result.andThen,V5,mk]
theorem VH (a:Addr) (w:World):(ReflectliteValue.parts (.agg #[.pointer (some ⟨4,70,none⟩),.pointer (some a),.int .u64 386])).run Tryz.prog w=.ok (some (70,a,386)) w:=by kernel_rfl
theorem VI (a:Addr) (w:World):(ReflectliteValue.parts (.agg #[.pointer (some ⟨4,70,none⟩),.pointer (some a),.int .u64 130])).run Tryz.prog w=.ok (some (70,a,130)) w:=by kernel_rfl
theorem V6 (w:World):(Rtype.directlyAssignable 70 70).run Tryz.prog w=.ok true w:=by kernel_rfl
theorem setV (tb b:Nat) (a0:Value) (n:Int) (W:World) (hb:Blk W b 70 #[.int .i64 n]) (ht:Blk W tb 70 #[a0]):
  (AsFault.setFn #[.agg #[.pointer (some ⟨4,70,none⟩),.pointer (some ⟨tb,0,none⟩),.int .u64 386],.agg #[.pointer (some ⟨4,70,none⟩),.pointer (some ⟨b,0,none⟩),.int .u64 130]]).run Tryz.prog W
   = .ok (.tuple #[]) (W.setRow tb #[.int .i64 n]):=by
 have hc:W.cell? ⟨b,0,none⟩=some (.int .i64 n):=hb.cell 0;have hl:(loadVar 70 ⟨b,0,none⟩).run Tryz.prog W=.ok (.int .i64 n) W:=by simp [loadVar,isAgg,underlying,Tryz.underlying70,hc,Result.andThen]
 have hs:(storeCells ⟨tb,0,none⟩ [.int .i64 n] 0).run Tryz.prog W=.ok () (W.setRow tb #[.int .i64 n]):=by have:=run_storeCells_from (P:=Tryz.prog) tb 70 [.int .i64 n] 0 #[a0] W ht rfl (by simp [Value.oneCell']);simpa using this
 unfold AsFault.setFn;rw [AsFault.rls];simp only [Sem.run_bind,VH,VI,Result.andThen];simp [ReflectliteValue.flagAddr,hl,Result.andThen,V6,storeVar,Value.cells,hs]
end AsNo
def HitN (w w':World) (tb:Nat) (n:Int):Prop:=Blk w' tb 70 #[.int .i64 n]∧w.grownBy w' (some tb)
theorem HitN.mk {w W:World} {tb:Nat} {n:Int} {a0:Value} (hg:w.grownBy W none) (hb:Blk W tb 70 #[a0]):HitN w (W.setRow tb #[.int .i64 n]) tb n:=by refine ⟨setRow_heap W tb _ _ _ _ hb,hg.os,hg.tape,hg.output,by rw [yB];exact hg.size,fun k hk hne=>?_⟩;rw [←hg.block k hk (by simp)];simp [World.setRow,Array.getElem?_modify,show tb≠k from fun e=>hne (by rw [e])]
theorem V8 (n:Int) (tb:Nat) (a0:Value) (w:World) (hg:ErrVar w) (ht:Blk w tb 70 #[a0]):
  Calls Tryz.prog 41 #[Xi n,.iface 119 (.pointer (some ⟨tb,0,none⟩))] w fun e w'=>e=.returned (.bool true)∧HitN w w' tb n:=by
 have hlt:=hg.lt;unfold ErrVar at hg;have htl:=ht.lt;have h6:=As.x6;have h7:=As.x7;have h8:=As.x8;have h27:=As.x27;have h37:=As.x37;have h38:=As.x38;have h10:=As.x10;have h35:=As.x35;have h11:=AsFault.xElem;have h12:=AsFault.xSet;have tO:=Is.typeOf;have a25:=AsNo.assign;have v25:=AsNo.valueOf;have f6:=AsNo.valueOfP;have f7:=AsNo.typeP;have k27:=AsNo.kindP;have k25:=AsNo.kindE;have e27:=AsNo.elemP;have i25:=AsNo.implE;have n8:=AsNo.isNilP ⟨w.heap.size,0,none⟩ ⟨tb,0,none⟩ ((w.alloc (.cells #[.pointer (some ⟨tb,0,none⟩)] 119)).alloc (.cells #[.pointer (some ⟨4,119,none⟩),.pointer (some ⟨w.heap.size,0,none⟩),.int .u64 150] 110)) (by simp);have hg2:((w.alloc (.cells #[.pointer (some ⟨tb,0,none⟩)] 119)).alloc (.cells #[.pointer (some ⟨4,119,none⟩),.pointer (some ⟨w.heap.size,0,none⟩),.int .u64 150] 110)).cell? ⟨0,0,none⟩=some (.iface 152 (.agg #[.pointer (some ⟨4,32,none⟩)])):=by rw [World.cell?_alloc_lt _ _ ⟨0,0,none⟩ (by first | (simp;done) | (simp;omega)),World.cell?_alloc_lt _ _ ⟨0,0,none⟩ hlt];exact hg
 have el:=AsNo.elemV ⟨w.heap.size,0,none⟩ ⟨tb,0,none⟩ (((w.alloc (.cells #[.pointer (some ⟨tb,0,none⟩)] 119)).alloc (.cells #[.pointer (some ⟨4,119,none⟩),.pointer (some ⟨w.heap.size,0,none⟩),.int .u64 150] 110)).alloc (.cells #[.pointer (some ⟨4,119,none⟩),.pointer (some ⟨w.heap.size,0,none⟩),.int .u64 150] 110)) (by rw [World.cell?_alloc_lt _ _ ⟨w.heap.size,0,none⟩ (by simp;omega)];simp);have hT:=(((ht.alloc (.cells #[.pointer (some ⟨tb,0,none⟩)] 119)).alloc (.cells #[.pointer (some ⟨4,119,none⟩),.pointer (some ⟨w.heap.size,0,none⟩),.int .u64 150] 110)).alloc (.cells #[.pointer (some ⟨4,119,none⟩),.pointer (some ⟨w.heap.size,0,none⟩),.int .u64 150] 110)).alloc (.cells #[.int .i64 n] 70);have hS:=Blk.new (((w.alloc (.cells #[.pointer (some ⟨tb,0,none⟩)] 119)).alloc (.cells #[.pointer (some ⟨4,119,none⟩),.pointer (some ⟨w.heap.size,0,none⟩),.int .u64 150] 110)).alloc (.cells #[.pointer (some ⟨4,119,none⟩),.pointer (some ⟨w.heap.size,0,none⟩),.int .u64 150] 110)) 70 #[.int .i64 n];have st:=AsNo.setV tb _ a0 n _ hS hT;simp only [Jb] at st
 have hfin:=hY (HitN.mk (w:=w) (n:=n) (zV ((((Ja w.heap.size w).alloc (Jd _) (.cells #[.pointer (some ⟨tb,0,none⟩)] 119)).alloc (by simp) (.cells #[.pointer (some ⟨4,119,none⟩),.pointer (some ⟨w.heap.size,0,none⟩),.int .u64 150] 110)).alloc (by simp;omega) (.cells #[.pointer (some ⟨4,119,none⟩),.pointer (some ⟨w.heap.size,0,none⟩),.int .u64 150] 110) |>.alloc (by simp;omega) (.cells #[.int .i64 n] 70)) none) hT);clear hS hT ht;go_enter Tryz.func41,Tryz.ntmps41;go_wp2;refine wp_loop_rounds 1 ?_;rw [rounds_succ];go_wp2;go_ret;exact ⟨rfl,hfin.out⟩
theorem zas (x:Value) (w:World):Calls Tryz.prog 41 #[.nilIface,x] w fun e w'=>e=.returned (.bool false)∧w=w':=by go_enter Tryz.func41,Tryz.ntmps41;go_wp2_with fail;go_ret;exact ⟨rfl,rfl⟩
end Go.Proofs.YtdaejggcjjdhkaaGreatDoor
namespace Go.Proofs.YtdaejggcjjdhkaaGreatDoor
open Go Go.RowKit Go.Extern.Stop Go.Stop Go.Extern
def XU (n line:Int):List PanicEntry:=[{ v:=zx n line 0,recovered:=false }]
theorem Qz (line:Int) (w:World):Calls Tryz.prog 42 #[.int .i64 line,.nilIface] w fun e w'=>e=.returned (.tuple #[])∧Below w.heap.size w w':=by have hB0:=hY ((Ja w.heap.size w).alloc (Jd _) (.cells #[.int .i64 0] 70));go_enter Tryz.func42,Tryz.ntmps42;go_wp2_with fail;refine (zas _ _).mono ?_;rintro e w1 ⟨rfl,rfl⟩;go_wp2_with fail;go_end0;exact ⟨rfl,hB0.out⟩
theorem yc (line n:Int) (w:World) (hv:ErrVar w):Calls Tryz.prog 42 #[.int .i64 line,Xi n] w fun e w'=>e=.panicked (XU n line)∧Below w.heap.size w w':=by have hB0:=hY ((Ja w.heap.size w).alloc (Jd _) (.cells #[.int .i64 0] 70));have hK0:=hY (Blk.new w 70 #[.int .i64 0]);have HV:=hY (hv.below hB0.out hv.lt);clear hv;go_enter Tryz.func42,Tryz.ntmps42;go_wp2_with fail;refine (V8 n w.heap.size _ _ HV.out hK0.out).mono ?_;rintro e w1 ⟨rfl,hH,hG⟩;have c0:w1.cell? ⟨w.heap.size,0,none⟩=some (.int .i64 n):=hH.cell 0;have hB:=hY (hB0.out.grown hG hB0.out.size (fun k e=>by cases e;exact Jd _));clear hG hH;go_wp2_with fail;exact ⟨rfl,rfl,hB.out⟩
theorem Ql (v:Value) (w:World):(Instr.typeAssert (.iface 72 v) 20 32 true).run Tryz.prog w=.ok (.tuple #[.iface 72 v,.bool true]) w:=run_typeAssert_hasB Tryz.underlying32 (by kernel_rfl) v _ w
theorem Xj (w:World) (a:Addr) (v:Value):w.grownBy (w.setCell a v) (some a.block):=⟨rfl,rfl,rfl,by simp [World.setCell],fun k _ hk=>by have:a.block≠k:=fun e=>hk (by rw [e]);simp [World.setCell,Array.getElem?_modify,this]⟩
def jr (K:World→Prop):Exit→Act→World→Prop
 | .normal,a,w | .ret,a,w=>a.defers=[]∧K w
 | _,_,_=>False
def zaa (eb:Nat) (n line:Int) (w w':World):Prop:=Blk w' eb 32 #[zx n line 0]∧w.grownBy w' (some eb)
theorem Vl (n line:Int) (eb:Nat) (x:Value) (w:World) (hv:ErrVar w) (he:Blk w eb 32 #[x]):
  CallsD Tryz.prog 40 #[.pointer (some ⟨eb,0,none⟩)] (.panicking [{ v:=zx n line 0,recovered:=false }]) w fun e u' w'=>e=.returned (.tuple #[])∧u'=.panicking [{ v:=zx n line 0,recovered:=true }]∧zaa eb n line w w':=by
 have hA:=Ql;have hlt:=he.lt;have HE:=hY he;have HV:=hY hv;clear he hv;refine callsD_of_wpS Tryz.func40 rfl fun c₀ cs hu=>?_;simp only [Tryz.ntmps40,List.size_toArray,Ji,Jp,Nat.reduceAdd,Nat.reduceSub,Array.replicate_succ,Array.replicate_zero,List.push_toArray,List.append_toArray,Kx,List.cons_append];apply wpS_seq;apply wpS_region;simp [wpOpsS,go_sem,recoverD,hu,Exit.thenS];refine wpS_of_wp (wp_mono (Q:=jr fun w'=>zaa eb n line w w') ?_ fun e a w' h=>?_)
 · have hB0:=hY ((Ja w.heap.size w).alloc (Jd _) (.cells #[.int .i64 0,.int .i64 0,.int .i64 0] 72));have hK0:=hY (Blk.new w 72 #[.int .i64 0,.int .i64 0,.int .i64 0]);have hE0:=hY (HE.out.alloc (.cells #[.int .i64 0,.int .i64 0,.int .i64 0] 72));have HV0:=hY (HV.out.below hB0.out HV.out.lt);clear hu;go_wp2_with fail;refine (jm n line 0 w.heap.size _ _ _ _ HV0.out hK0.out).mono ?_;rintro e w1 ⟨rfl,hH,hG⟩;have c0:w1.cell? ⟨w.heap.size,0,none⟩=some (.int .i64 n):=hH.cell 0;have c1:w1.cell? ⟨w.heap.size,1,none⟩=some (.int .i64 line):=hH.cell 1;have c2:w1.cell? ⟨w.heap.size,2,none⟩=some (.int .i64 0):=hH.cell 2;have hE1:Blk w1 eb 32 #[x]:=(hG.block eb (by simp;omega) (by simp;omega)).trans hE0.out;have e0:w1.cell? ⟨eb,0,none⟩=some x:=hE1.cell 0;have f0:=hE1.frozen 0;have HE1:=hY hE1;have HG1:=hY (hB0.out.grown hG hB0.out.size (fun k e=>by cases e;exact Jd _));clear hG hH hE1;go_wp2_with fail;refine ⟨rfl,?_,(zV HG1.out (some eb)).trans (Xj w1 ⟨eb,0,none⟩ _)⟩;have:=HE1.out.set_ 0 (zx n line 0);simpa using this
 · cases e with
   | normal =>obtain ⟨h1,h2⟩:=h;exact ⟨h1,_,rfl,_,results_none rfl _ _ _,rfl,rfl,h2⟩
   | ret =>obtain ⟨h1,h2⟩:=h;exact ⟨h1,_,rfl,_,results_none rfl _ _ _,rfl,rfl,h2⟩
   | _=>exact h.elim
theorem V7 (eb:Nat) (w:World):
  CallsD Tryz.prog 40 #[.pointer (some ⟨eb,0,none⟩)] .returning w fun e u' w'=>e=.returned (.tuple #[])∧u'=.returning∧w'=w:=by
 refine callsD_of_wpS Tryz.func40 rfl fun c₀ cs hu=>?_;simp only [Tryz.ntmps40,List.size_toArray,Ji,Jp,Nat.reduceAdd,Nat.reduceSub,Array.replicate_succ,Array.replicate_zero,List.push_toArray,List.append_toArray,Kx,List.cons_append];apply wpS_seq;apply wpS_region;simp [wpOpsS,go_sem,recoverD,hu,Exit.thenS];refine wpS_of_wp (wp_mono (Q:=jr fun w'=>w'=w) ?_ fun e a w' h=>?_)
 · clear hu;go_wp2_with fail;exact ⟨rfl,rfl⟩
 · cases e with
   | normal =>obtain ⟨h1,h2⟩:=h;exact ⟨h1,.returning,by rw [←hu],_,results_none rfl _ _ _,rfl,rfl,h2⟩
   | ret =>obtain ⟨h1,h2⟩:=h;exact ⟨h1,.returning,by rw [←hu],_,results_none rfl _ _ _,rfl,rfl,h2⟩
   | _=>exact h.elim
end Go.Proofs.YtdaejggcjjdhkaaGreatDoor
namespace Go.Proofs.YtdaejggcjjdhkaaGreatDoor
open Go Go.RowKit Go.Extern.Stop Go.Stop Go.Extern
def Zf:Option (Nat × Int)→Value
 | none=>.nilIface
 | some (n,l)=>zx (n:Int) l 0
theorem Vb {tmps:Array Value} {w:World} {g:Nat} {v:Value} (hp:tmps.getD 2 undef=.pointer (some ⟨g,0,none⟩)) (hc:w.cell? ⟨g,0,none⟩=some v):(results Tryz.f14 tmps).run Tryz.prog w=.ok v w:=by
 have hp':tmps[2]?.getD undef=.pointer (some ⟨g,0,none⟩):=by simpa using hp
 simp [results,hp',asAddr,go_sem,hc]
theorem Qc {tmps:Array Value} {eb:Nat} {n line:Int} {v:Value} {w2:World} {R:Ending→World→Prop} (hp:tmps.getD 2 undef=.pointer (some ⟨eb,0,none⟩)) (hV:ErrVar w2) (hK:Blk w2 eb 32 #[v])
  (h:∀ w3,w2.grownBy w3 (some eb)→R (.returned (zx n line 0)) w3):
  bodyPostD Tryz.prog Tryz.f14 R (.panic (XU n line)) { tmps:=tmps,defers:=[{ target:=.fn (.func 40) #[.pointer (some ⟨eb,0,none⟩)],args:=#[] }] } w2:=by
 refine leaves_cons (f:=40) (args:=#[.pointer (some ⟨eb,0,none⟩)]) (by simp) (by simp [go_sem]) ?_;refine (Vl n line eb v w2 hV hK).mono ?_;rintro e2 u2 w3 ⟨rfl,rfl,hE⟩;exact ⟨zx n line 0,Vb hp (hE.1.cell 0),h w3 hE.2⟩
theorem Q7 {tmps:Array Value} {eb:Nat} {v:Value} {w2:World} {R:Ending→World→Prop} (hp:tmps.getD 2 undef=.pointer (some ⟨eb,0,none⟩)) (hc:w2.cell? ⟨eb,0,none⟩=some v) (h:R (.returned v) w2):
  bodyPostD Tryz.prog Tryz.f14 R .ret { tmps:=tmps,defers:=[{ target:=.fn (.func 40) #[.pointer (some ⟨eb,0,none⟩)],args:=#[] }] } w2:=by
 refine leaves_cons (f:=40) (args:=#[.pointer (some ⟨eb,0,none⟩)]) (by simp) (by simp [go_sem]) ?_;refine (V7 eb w2).mono ?_;rintro e2 u2 w3 ⟨rfl,rfl,rfl⟩;exact ⟨v,Vb hp hc,h⟩
end Go.Proofs.YtdaejggcjjdhkaaGreatDoor
namespace Go.Proofs.YtdaejggcjjdhkaaGreatDoor
open Go Go.RowKit Go.Extern.Stop Go.Stop Go.Extern
def QQ:Option (Nat × Int)→Nat
 | none=>0
 | some (n,_)=>n
def jX (x:Option (Nat × Int)):Prop:=∀ n l,x=some (n,l)→1≤n∧n≤32
theorem Wy (line:Int) (w:World):Calls Tryz.prog 13 #[.nilIface,.int .i64 0,.int .i64 line] w fun e w'=>e=.returned (.bool true)∧Below w.heap.size w w':=by go_enter Tryz.func13,Tryz.ntmps13;go_wp2_with fail;refine (zar line 0 _).mono ?_;rintro e w1 ⟨rfl,rfl⟩;go_wp2_with fail;go_ret;exact ⟨rfl,Ja _ _⟩
theorem yj (n line:Int) (h1:1≤n) (h2:n≤32) (w:World) (hg:ErrVar w):Calls Tryz.prog 13 #[zx n line 0,.int .i64 n,.int .i64 line] w fun e w'=>e=.returned (.bool true)∧Below w.heap.size w w':=by have HG:=hY hg;clear hg;go_enter Tryz.func13,Tryz.ntmps13;go_wp2_with fail;refine (jl n line 0 h1 h2 _ HG.out).mono ?_;rintro e w1 ⟨rfl,b1⟩;go_wp2_with fail;go_ret;exact ⟨rfl,b1⟩
theorem XT (x:Option (Nat × Int)) (hx:jX x) (n:Nat) (hn:QQ x=n) (line:Int) (hl:∀ m l,x=some (m,l)→line=l) (w:World) (hg:ErrVar w):Calls Tryz.prog 13 #[Zf x,.int .i64 (n:Int),.int .i64 line] w fun e w'=>e=.returned (.bool true)∧Below w.heap.size w w':=by
 subst hn
 match x,hx,hl with
 | none,_,_=>exact Wy line w
 | some (m,l),hx,hl =>obtain rfl:=hl m l rfl;obtain ⟨h1,h2⟩:=hx m line rfl;exact yj m line (by omega) (by omega) w hg
theorem ZC (w:World) (hg:ErrVar w):Calls Tryz.prog 19 #[.iface 70 (.int .i64 31),.int .i64 31] w fun e w'=>e=.returned (.bool true)∧Below w.heap.size w w':=QN _ _ 31 (U6 31) (W6 31) (by decide) (by decide) 31 w hg
end Go.Proofs.YtdaejggcjjdhkaaGreatDoor
