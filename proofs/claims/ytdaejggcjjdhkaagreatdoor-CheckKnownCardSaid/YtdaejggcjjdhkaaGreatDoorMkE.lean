/- errors.Is, errors.As, Num, Plain. -/
import Derived.Test.YtdaejggcjjdhkaaGreatDoorProg
import Derived.WalkKit
import Derived.LaidEql
import Derived.Stop.Asserts
import Derived.RowKitTokens
import Derived.Lib.Hide
import Derived.Handy
import Derived.Below
import Derived.Test.YtdaejggcjjdhkaaGreatDoorSq
set_option maxHeartbeats 4000000
namespace Go.Proofs.YtdaejggcjjdhkaaGreatDoor
open Go.RowKit Go.Extern.Stop Go.Stop Go.Extern

section
variable {P:Program} (w:World)
theorem Zr (d:Nat) {ti tn:TypeId} {ms:Array (String × TypeId)} {i:TypeInfo} {k:IntKind} (a b:Int)
  (hi:P.underlying ti=some (.interface ms)) (hn:P.underlying tn=some (.int k)) (hinfo:P.info? tn=some i) (hcomp:i.comparable=true):
  (Op.equalIn (d+2) ti (.iface tn (.int k a)) (.iface tn (.int k b))).run P w=.ok (a==b) w:=by
 simp [Op.equalIn,run_underlying hi,run_underlying hn,typeInfo,hinfo,hcomp]
theorem yU {ti tn:TypeId} {ms:Array (String × TypeId)} {i:TypeInfo} {k:IntKind} (a b:Int)
  (hi:P.underlying ti=some (.interface ms)) (hn:P.underlying tn=some (.int k)) (hinfo:P.info? tn=some i) (hcomp:i.comparable=true):
  (binOp .eql ti (.iface tn (.int k a)) (.iface tn (.int k b))).run P w=.ok (.bool (a==b)) w:=by
 simp only [binOp];simp [Op.equal,Op.maxDepth,Zr w 9998 a b hi hn hinfo hcomp]
end

abbrev Xi (n:Int):Value:=.iface 70 (.int .i64 n)

namespace Is
theorem typeOf (v:Value) (w:World):(ReflectliteType.typeOf #[.iface 70 v]).run Tryz.prog w=.ok (.iface 152 (.agg #[.pointer (some ⟨4,70,none⟩)])) w:=by kernel_rfl
def cmpFn : Array Value → Sem Value := ReflectliteType.method fun t => do Rtype.noPackHeld "Comparable" t; pure (.bool (← typeInfo t).comparable)
theorem comparable (w:World):(cmpFn #[.agg #[.pointer (some ⟨4,70,none⟩)]]).run Tryz.prog w=.ok (.bool true) w:=by kernel_rfl
theorem info:(Tryz.prog.info? 70).map (·.comparable)=some true:=by kernel_rfl
theorem noIs (v:Value) (w:World):(Instr.typeAssert (.iface 70 v) 32 174 true).run Tryz.prog w=.ok (.tuple #[.nilIface,.bool false]) w:=run_typeAssert_lacksB Tryz.underlying174 (by kernel_rfl) (by kernel_rfl) v _ w
theorem noUnwrap (v:Value) (w:World):(Instr.typeAssert (.iface 70 v) 32 159 true).run Tryz.prog w=.ok (.tuple #[.nilIface,.bool false]) w:=run_typeAssert_lacksB Tryz.underlying159 (by kernel_rfl) (by kernel_rfl) v _ w
theorem noUnwraps (v:Value) (w:World):(Instr.typeAssert (.iface 70 v) 32 161 true).run Tryz.prog w=.ok (.tuple #[.nilIface,.bool false]) w:=run_typeAssert_lacksB Tryz.underlying161 (by kernel_rfl) (by kernel_rfl) v _ w
end Is

theorem Y8 (a b:Int) (w:World):
  Calls Tryz.prog 54 #[Xi a,Xi b] w fun e w'=>e=.returned (.bool (a==b))∧w=w':=by
 obtain ⟨i,hi,hcmp⟩:=Option.map_eq_some_iff.1 Is.info;have h8:=@run_callFunc_extern Tryz.prog 118 _ ReflectliteType.typeOf Tryz.func118 (by kernel_rfl) (by kernel_rfl) (by kernel_rfl) (by kernel_rfl);have h32:=@run_callFunc_extern Tryz.prog 223 _ Is.cmpFn Tryz.func223 (by kernel_rfl) (by kernel_rfl) (by kernel_rfl) (by kernel_rfl);have tT:=Is.typeOf;have cT:=Is.comparable;have n1:=Is.noIs;have n2:=Is.noUnwrap;have n3:=Is.noUnwraps;have heq:=yU (P:=Tryz.prog) w a b Tryz.underlying32 Tryz.underlying70 hi hcmp
 by_cases hab:a=b
 · have hb:(a==b)=true:=by simp [hab]
   clear hab;go_enter Tryz.func54,Tryz.ntmps54;go_wp2;refine wp_loop_rounds 1 ?_;rw [rounds_succ];go_wp2;go_ret;exact ⟨by rw [hb];rfl,rfl⟩
 · have hb:(a==b)=false:=by simp [hab]
   clear hab;go_enter Tryz.func54,Tryz.ntmps54;go_wp2;refine wp_loop_rounds 1 ?_;rw [rounds_succ];go_wp2;go_ret;exact ⟨by rw [hb];rfl,rfl⟩
end Go.Proofs.YtdaejggcjjdhkaaGreatDoor
namespace Go.Proofs.YtdaejggcjjdhkaaGreatDoor
open Go.RowKit Go.Extern.Stop Go.Stop Go.Extern

namespace As
theorem valueOfP (t:Addr) (w:World):(ReflectliteValue.unpack (.iface 75 (.pointer (some t)))).run Tryz.prog w
  = .ok (.agg #[.pointer (some ⟨4,75,none⟩),.pointer (some ⟨w.heap.size,0,none⟩),.int .u64 150]) (w.alloc (.cells #[.pointer (some t)] 75)):=by kernel_rfl
def typeFn : Array Value → Sem Value := ReflectliteValue.methodAny (ReflectliteValue.valueError "reflectlite.Value.Type" 0) fun t _ _ _ => ReflectliteType.toType t
theorem typeP (a:Addr) (w:World):(typeFn #[.agg #[.pointer (some ⟨4,75,none⟩),.pointer (some a),.int .u64 150]]).run Tryz.prog w
  = .ok (.iface 152 (.agg #[.pointer (some ⟨4,75,none⟩)])) w:=by kernel_rfl
def kindFn:Array Value→Sem Value:=ReflectliteType.abiMethod fun t=>do pure (.int .u8 (←Rtype.kind t))
theorem kindP (w:World):(kindFn #[.pointer (some ⟨4,75,none⟩)]).run Tryz.prog w=.ok (.int .u8 22) w:=by kernel_rfl
theorem kindF (w:World):(kindFn #[.pointer (some ⟨4,72,none⟩)]).run Tryz.prog w=.ok (.int .u8 25) w:=by kernel_rfl
def nilFn : Array Value → Sem Value := ReflectliteValue.method (ReflectliteValue.valueError "reflectlite.Value.IsNil" 0) ReflectliteValue.isNil
theorem rlm (z:Sem Value) (f:TypeId→Addr→Nat→Nat→Sem Value) (v:Value):
  ReflectliteValue.method z f #[v]=(do match ←ReflectliteValue.parts v with | none=>z | some (t,a,fl)=>f t a fl (fl % 32)):=rfl
theorem partsP (a:Addr) (w:World):(ReflectliteValue.parts (.agg #[.pointer (some ⟨4,75,none⟩),.pointer (some a),.int .u64 150])).run Tryz.prog w=.ok (some (75,a,150)) w:=by kernel_rfl
theorem isNilP (a p:Addr) (W:World) (ha:W.cell? a=some (.pointer (some p))):
  (nilFn #[.agg #[.pointer (some ⟨4,75,none⟩),.pointer (some a),.int .u64 150]]).run Tryz.prog W=.ok (.bool false) W:=by
 unfold nilFn;rw [rlm];simp only [Sem.run_bind,partsP,Result.andThen];simp [ReflectliteValue.isNil,loadVar,isAgg,underlying,Tryz.underlying75,ha,Result.andThen]
def elemFn:Array Value→Sem Value:=ReflectliteType.method ReflectliteType.elem
theorem elemP (w:World):(elemFn #[.agg #[.pointer (some ⟨4,75,none⟩)]]).run Tryz.prog w=.ok (.iface 152 (.agg #[.pointer (some ⟨4,72,none⟩)])) w:=by kernel_rfl
def implFn : Array Value → Sem Value := ReflectliteType.relation "Implements" ReflectliteType.implements_
theorem implF (w:World):(implFn #[.agg #[.pointer (some ⟨4,72,none⟩)],.iface 152 (.agg #[.pointer (some ⟨4,32,none⟩)])]).run Tryz.prog w=.ok (.bool true) w:=by kernel_rfl
def assignFn : Array Value → Sem Value := ReflectliteType.relation "AssignableTo" ReflectliteType.assignableTo
theorem assignE (w:World):(assignFn #[.agg #[.pointer (some ⟨4,70,none⟩)],.iface 152 (.agg #[.pointer (some ⟨4,72,none⟩)])]).run Tryz.prog w=.ok (.bool false) w:=by kernel_rfl
theorem noAs (v:Value) (w:World):(Instr.typeAssert (.iface 70 v) 32 156 true).run Tryz.prog w=.ok (.tuple #[.nilIface,.bool false]) w:=run_typeAssert_lacksB Tryz.underlying156 (by kernel_rfl) (by kernel_rfl) v _ w
theorem x6:∀ (args:Array Value) (w:World),Sem.run Tryz.prog (callFunc 91 args) w=((((fun args=>ReflectliteValue.unpack (args.getD 0 (.tuple #[])))) args).run Tryz.prog w).andThen fun v w'=>Result.ok (Next.value v) w':=@run_callFunc_extern Tryz.prog 91 _ (fun args=>ReflectliteValue.unpack (args.getD 0 (.tuple #[]))) Tryz.func91 (by kernel_rfl) (by kernel_rfl) (by kernel_rfl) (by kernel_rfl)
theorem x7:∀ (args:Array Value) (w:World),Sem.run Tryz.prog (callFunc 92 args) w=(((typeFn) args).run Tryz.prog w).andThen fun v w'=>Result.ok (Next.value v) w':=@run_callFunc_extern Tryz.prog 92 _ typeFn Tryz.func92 (by kernel_rfl) (by kernel_rfl) (by kernel_rfl) (by kernel_rfl)
theorem x8:∀ (args:Array Value) (w:World),Sem.run Tryz.prog (callFunc 93 args) w=(((nilFn) args).run Tryz.prog w).andThen fun v w'=>Result.ok (Next.value v) w':=@run_callFunc_extern Tryz.prog 93 _ nilFn Tryz.func93 (by kernel_rfl) (by kernel_rfl) (by kernel_rfl) (by kernel_rfl)
theorem x27:∀ (args:Array Value) (w:World),Sem.run Tryz.prog (callFunc 212 args) w=(((kindFn) args).run Tryz.prog w).andThen fun v w'=>Result.ok (Next.value v) w':=@run_callFunc_extern Tryz.prog 212 _ kindFn Tryz.func212 (by kernel_rfl) (by kernel_rfl) (by kernel_rfl) (by kernel_rfl)
theorem x37:∀ (args:Array Value) (w:World),Sem.run Tryz.prog (callFunc 224 args) w=(((elemFn) args).run Tryz.prog w).andThen fun v w'=>Result.ok (Next.value v) w':=@run_callFunc_extern Tryz.prog 224 _ elemFn Tryz.func224 (by kernel_rfl) (by kernel_rfl) (by kernel_rfl) (by kernel_rfl)
theorem x38:∀ (args:Array Value) (w:World),Sem.run Tryz.prog (callFunc 225 args) w=(((implFn) args).run Tryz.prog w).andThen fun v w'=>Result.ok (Next.value v) w':=@run_callFunc_extern Tryz.prog 225 _ implFn Tryz.func225 (by kernel_rfl) (by kernel_rfl) (by kernel_rfl) (by kernel_rfl)
theorem x10:∀ (args:Array Value) (w:World),Sem.run Tryz.prog (callFunc 118 args) w=(((ReflectliteType.typeOf) args).run Tryz.prog w).andThen fun v w'=>Result.ok (Next.value v) w':=@run_callFunc_extern Tryz.prog 118 _ ReflectliteType.typeOf Tryz.func118 (by kernel_rfl) (by kernel_rfl) (by kernel_rfl) (by kernel_rfl)
theorem x35:∀ (args:Array Value) (w:World),Sem.run Tryz.prog (callFunc 222 args) w=(((assignFn) args).run Tryz.prog w).andThen fun v w'=>Result.ok (Next.value v) w':=@run_callFunc_extern Tryz.prog 222 _ assignFn Tryz.func222 (by kernel_rfl) (by kernel_rfl) (by kernel_rfl) (by kernel_rfl)
end As

theorem zD {B:Nat} {a b c:World} (h:Below B a b) (k:Below b.heap.size b c) (hB:B≤b.heap.size):Below B a c:=h.trans (k.mono hB)
def ErrVar (w:World):Prop:=w.cell? ⟨0,0,none⟩=some (.iface 152 (.agg #[.pointer (some ⟨4,32,none⟩)]))
theorem ErrVar.lt {w:World} (h:ErrVar w):0<w.heap.size:=Je w _ h
theorem ErrVar.below {w w':World} {B:Nat} (h:ErrVar w) (hb:Below B w w') (hB:0<B):ErrVar w':=(hb.cell (p:=⟨0,0,none⟩) hB).trans h

theorem zat (n:Int) (t:Addr) (w:World) (hg:ErrVar w):
  Calls Tryz.prog 41 #[Xi n,.iface 75 (.pointer (some t))] w fun e w'=>e=.returned (.bool false)∧Below w.heap.size w w':=by
 have hlt:=hg.lt;unfold ErrVar at hg;have h6:=As.x6;have h7:=As.x7;have h8:=As.x8;have h27:=As.x27;have h37:=As.x37;have h38:=As.x38;have h10:=As.x10;have h35:=As.x35;have tO:=Is.typeOf;have a25:=As.assignE;have f6:=As.valueOfP;have f7:=As.typeP;have k27:=As.kindP;have k25:=As.kindF;have e27:=As.elemP;have i25:=As.implF;have nA:=As.noAs;have nU:=Is.noUnwrap;have nV:=Is.noUnwraps;have n8:=As.isNilP ⟨w.heap.size,0,none⟩ t ((w.alloc (.cells #[.pointer (some t)] 75)).alloc (.cells #[.pointer (some ⟨4,75,none⟩),.pointer (some ⟨w.heap.size,0,none⟩),.int .u64 150] 110)) (by simp);have hg2:((w.alloc (.cells #[.pointer (some t)] 75)).alloc (.cells #[.pointer (some ⟨4,75,none⟩),.pointer (some ⟨w.heap.size,0,none⟩),.int .u64 150] 110)).cell? ⟨0,0,none⟩=some (.iface 152 (.agg #[.pointer (some ⟨4,32,none⟩)])):=by rw [World.cell?_alloc_lt _ _ ⟨0,0,none⟩ (by first | (simp;done) | (simp;omega)),World.cell?_alloc_lt _ _ ⟨0,0,none⟩ hlt];exact hg
 go_enter Tryz.func41,Tryz.ntmps41;go_wp2;refine wp_loop_rounds 1 ?_;rw [rounds_succ];go_wp2;go_ret;exact ⟨rfl,(((Ja _ _).alloc (Jd _) _).alloc (by simp) _).alloc (by simp;omega) _⟩
end Go.Proofs.YtdaejggcjjdhkaaGreatDoor
namespace Go.Proofs.YtdaejggcjjdhkaaGreatDoor
open Go.RowKit

def UI (E:Value) (k:Int):Prop:=∀ (b:Int) (w:World),Calls Tryz.prog 54 #[E,Xi b] w fun e w'=>e=.returned (.bool (k==b))∧Below w.heap.size w w'
def UH (E:Value):Prop:=∀ (t:Addr) (w:World),ErrVar w→Calls Tryz.prog 41 #[E,.iface 75 (.pointer (some t))] w fun e w'=>e=.returned (.bool false)∧Below w.heap.size w w'
theorem U6 (k:Int):UI (Xi k) k:=fun b w=>(Y8 k b w).mono fun _ _ ⟨h,h'⟩=>⟨h,by rw [h'];exact Ja _ _⟩
theorem W6 (k:Int):UH (Xi k):=fun t w h=>zat k t w h
def yF (k j:Int):Int:=if k<j then k else 0

theorem Us (w:World):Calls Tryz.prog 23 #[.nilIface] w fun e w'=>e=.returned (.int .i64 0)∧w=w':=by go_enter Tryz.func23,Tryz.ntmps23;go_wp2_with fail;go_ret;exact ⟨rfl,rfl⟩

theorem VM (T:TypeId) (v:Value) (k:Int) (h:UI (.iface T v) k) (h1:1≤k) (h2:k≤32) (w:World):
  Calls Tryz.prog 23 #[.iface T v] w fun e w'=>e=.returned (.int .i64 k)∧Below w.heap.size w w':=by
 have H:=hY h;clear h;go_enter Tryz.func23,Tryz.ntmps23;go_wp2_with fail;go_loopw [3,4] (fun x n wr=>∃ j:Int,1≤j∧j≤33∧n=.int .i64 j∧x=.int .i64 (yF k j)∧Below w.heap.size w wr) (fun _ n _=>(33 - intOf n).toNat)
 case atStart=>exact ⟨1,by omega,by omega,rfl,by rw [yF,if_neg (by omega)],Ja _ _⟩
 case round =>
  obtain ⟨j,hj1,hj2,rfl,rfl,hbel⟩:=hrel;have hsz:=hbel.size
  by_cases hj:j≤32
  · rcases (show j<k∨j=k∨k<j by omega) with hc | hc | hc
    · have hb:(k==j)=false:=by simp;omega
      have HF:Hid (yF k (j+1)=yF k j):=by show _=_;rw [yF,yF,if_neg (by omega),if_neg (by omega)]
      go_wp2_with (go_at_call 54;refine (H.out _ _).mono ?_;rintro e w1 ⟨rfl,hb1⟩);go_roundw
      case rel=>exact ⟨j+1,by omega,by omega,rfl,by rw [HF.out],zD hbel hb1 hsz⟩
      case measure=>simp [intOf];omega
    · subst hc;have hb:(j==j)=true:=by simp
      have hf0:yF j j=0:=by rw [yF,if_neg (by omega)]
      have HF:Hid (yF j (j+1)=j):=by show _=_;rw [yF,if_pos (by omega)]
      rw [hf0];clear hf0;go_wp2_with (go_at_call 54;refine (H.out _ _).mono ?_;rintro e w1 ⟨rfl,hb1⟩);go_roundw
      case rel=>exact ⟨j+1,by omega,by omega,rfl,by rw [HF.out],zD hbel hb1 hsz⟩
      case measure=>simp [intOf];omega
    · have hb:(k==j)=false:=by simp;omega
      have HF:Hid (yF k (j+1)=yF k j):=by show _=_;rw [yF,yF,if_pos (by omega),if_pos (by omega)]
      go_wp2_with (go_at_call 54;refine (H.out _ _).mono ?_;rintro e w1 ⟨rfl,hb1⟩);go_roundw
      case rel=>exact ⟨j+1,by omega,by omega,rfl,by rw [HF.out],zD hbel hb1 hsz⟩
      case measure=>simp [intOf];omega
  · have hf:yF k j=k:=by rw [yF,if_pos (by omega)]
    rw [hf];have hk0:(k==0)=false:=by simp;omega
    clear hf;go_wp2_with (go_at_call 54;refine (H.out _ _).mono ?_;rintro e w1 ⟨rfl,hb1⟩);go_ret;exact ⟨rfl,zD hbel hb1 hsz⟩

end Go.Proofs.YtdaejggcjjdhkaaGreatDoor
namespace Go.Proofs.YtdaejggcjjdhkaaGreatDoor
open Go.RowKit

theorem YU (n:Int) (w:World):Calls Tryz.prog 19 #[.nilIface,.int .i64 n] w fun e w'=>e=.returned (.bool ((0:Int)==n))∧Below w.heap.size w w':=by
 have hz:Below w.heap.size w (w.alloc (.cells #[.int .i64 0,.int .i64 0,.int .i64 0] 72)):=(Ja _ _).alloc (Jd _) _;rcases hb:((0:Int)==n) with _ | _
 all_goals
  go_enter Tryz.func19,Tryz.ntmps19;go_wp2_with (go_at_call 23;refine (Us _).mono ?_;rintro e w1 ⟨rfl,rfl⟩);go_ret;exact ⟨rfl,hz⟩

theorem QN (T:TypeId) (v:Value) (k:Int) (h:UI (.iface T v) k) (h':UH (.iface T v)) (h1:1≤k) (h2:k≤32) (n:Int) (w:World) (hg:ErrVar w):
  Calls Tryz.prog 19 #[.iface T v,.int .i64 n] w fun e w'=>e=.returned (.bool (k==n))∧Below w.heap.size w w':=by
 have hz:Below w.heap.size w (w.alloc (.cells #[.int .i64 0,.int .i64 0,.int .i64 0] 72)):=(Ja _ _).alloc (Jd _) _;have HZ:=hY hz;have H:=hY h;have H':=hY h';have HG:=hY hg;clear h h' hz hg;rcases hb:(k==n) with _ | _
 · go_enter Tryz.func19,Tryz.ntmps19;go_wp2_with (go_at_call 23;refine (VM _ _ k H.out h1 h2 _).mono ?_;rintro e w1 ⟨rfl,hb1⟩);go_ret;exact ⟨rfl,zD HZ.out hb1 (by simp)⟩
 · go_enter Tryz.func19,Tryz.ntmps19;go_wp2_with (go_at_call 23;refine (VM _ _ k H.out h1 h2 _).mono ?_;rintro e w1 ⟨rfl,hb1⟩);have hs1:=hb1.size;simp at hs1;refine (H'.out _ _ ?_).mono ?_
   · exact HG.out.below (zD HZ.out hb1 (by simp)) HG.out.lt
   · rintro e w2 ⟨rfl,hb2⟩;go_wp2_with fail;go_ret;exact ⟨rfl,zD (zD HZ.out hb1 (by simp)) hb2 (by omega)⟩
end Go.Proofs.YtdaejggcjjdhkaaGreatDoor
