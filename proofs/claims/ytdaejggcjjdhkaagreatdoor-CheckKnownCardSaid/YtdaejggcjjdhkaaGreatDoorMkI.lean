/- MkI, CkLe -/
import Derived.Test.YtdaejggcjjdhkaaGreatDoorCkV
import Derived.Test.YtdaejggcjjdhkaaGreatDoorMkB
import Derived.Test.YtdaejggcjjdhkaaGreatDoorProg
import Derived.Test.YtdaejggcjjdhkaaGreatDoorMkA
import Derived.Maps.OwnSet
import Derived.Maps.Views
import Derived.StringKeys
import Derived.Test.YtdaejggcjjdhkaaGreatDoorMkF
import Derived.Test.YtdaejggcjjdhkaaGreatDoorExY
namespace Go.Proofs.YtdaejggcjjdhkaaGreatDoor
open Go Go.RowKit
namespace Ck
def restA (e:UInt8) (ss:List St) (gs:List Sg):Option (Nat × Int):=match yt e ss with
 | some x=>some x
 | none=>stagesL e [] gs
def restS (e:UInt8) (ss:List St) (names:List (List UInt8)) (gs:List Sg):Option (Nat × Int):=match zE e ss with
 | some x=>some x
 | none=>stagesL e names gs
theorem restA_op {e:UInt8} {s:St} {r:List St} {gs:List Sg} (h:s.op≠1):restA e (s::r) gs=some (19,s.line):=by rw [restA,yt,if_pos h]
theorem restA_bad {e:UInt8} {s:St} {r:List St} {gs:List Sg} (h:s.op=1) (h2:stepL s e≠0):restA e (s::r) gs=some (stepL s e,s.line):=by rw [restA,yt,if_neg (fun q=>q h),if_pos h2]
theorem restA_ok {e:UInt8} {s:St} {r:List St} {gs:List Sg} (h:s.op=1) (h2:stepL s e=0):restA e (s::r) gs=restA e r gs:=by rw [restA,yt,if_neg (fun q=>q h),if_neg (fun q=>q h2),restA]
theorem restS_bad {e:UInt8} {s:St} {r:List St} {names:List (List UInt8)} {gs:List Sg} (h2:stepL s e≠0):restS e (s::r) names gs=some (stepL s e,s.line):=by rw [restS,zE,if_pos h2]
theorem restS_ok {e:UInt8} {s:St} {r:List St} {names:List (List UInt8)} {gs:List Sg} (h2:stepL s e=0):restS e (s::r) names gs=restS e r names gs:=by rw [restS,zE,if_neg (fun q=>q h2),restS]
theorem stagesL_bad {e:UInt8} {names:List (List UInt8)} {s:Sg} {r:List Sg} {n:Nat} (h:stageL e names s=n) (h0:n≠0):stagesL e names (s::r)=some (n,s.line):=by rw [stagesL,h,if_pos h0]
theorem stagesL_ok {e:UInt8} {names:List (List UInt8)} {s:Sg} {r:List Sg} (h:stageL e names s=0):stagesL e names (s::r)=restS e s.steps (names++[s.name]) r:=by rw [stagesL,if_neg (fun q=>q h)];rfl
section
variable {e:UInt8} {names:List (List UInt8)} {s:Sg}
theorem sg_bad (h:(badT s.base||badT s.name)=true):stageL e names s=6:=by rw [stageL,if_pos h]
theorem sg_short (h:(badT s.base||badT s.name)=false) (h1:s.base=[]):stageL e names s=2:=by rw [stageL,if_neg (by rw [h];exact Bool.false_ne_true),if_pos h1]
theorem sg_word (h:(badT s.base||badT s.name)=false) (h1:s.base≠[]) (h2:wordL e s.base≠0):stageL e names s=wordL e s.base:=by rw [stageL,if_neg (by rw [h];exact Bool.false_ne_true),if_neg h1,if_pos h2]
theorem sg_name (h:(badT s.base||badT s.name)=false) (h1:s.base≠[]) (h2:wordL e s.base=0) (h3:s.name≠[]) (h4:stageR s.name=false):stageL e names s=8:=by rw [stageL,if_neg (by rw [h];exact Bool.false_ne_true),if_neg h1,if_neg (fun q=>q h2),if_pos ⟨h3,h4⟩]
theorem sg_twice (h:(badT s.base||badT s.name)=false) (h1:s.base≠[]) (h2:wordL e s.base=0) (h3:s.name≠[]) (h4:stageR s.name=true) (h5:s.name∈names):stageL e names s=11:=by rw [stageL,if_neg (by rw [h];exact Bool.false_ne_true),if_neg h1,if_neg (fun q=>q h2),if_neg (fun q=>by rw [h4] at q;exact Bool.noConfusion q.2),if_pos ⟨h3,h5⟩]
theorem sg_ok (h:(badT s.base||badT s.name)=false) (h1:s.base≠[]) (h2:wordL e s.base=0) (h4:stageR s.name=true) (h5:s.name∉names):stageL e names s=0:=by rw [stageL,if_neg (by rw [h];exact Bool.false_ne_true),if_neg h1,if_neg (fun q=>q h2),if_neg (fun q=>by rw [h4] at q;exact Bool.noConfusion q.2),if_neg (fun q=>h5 q.2)]
theorem sg_none (h:(badT s.base||badT s.name)=false) (h1:s.base≠[]) (h2:wordL e s.base=0) (h3:s.name=[]):stageL e names s=0:=by rw [stageL,if_neg (by rw [h];exact Bool.false_ne_true),if_neg h1,if_neg (fun q=>q h2),if_neg (fun q=>q.1 h3),if_neg (fun q=>q.1 h3)]
end
section
variable {f:Fl}
theorem file_esc (h:f.escape≠92∧f.escape≠96):fileL f=some (1,0):=by rw [fileL,if_pos h]
theorem file_none (h:¬ (f.escape≠92∧f.escape≠96)) (h1:f.stages=[]):fileL f=some (2,0):=by rw [fileL,if_neg h,if_pos h1]
theorem file_many (h:¬ (f.escape≠92∧f.escape≠96)) (h1:f.stages≠[]) (h2:32<f.stages.length∨512<countL f):fileL f=some (5,0):=by rw [fileL,if_neg h,if_neg h1,if_pos h2]
theorem file_go (h:¬ (f.escape≠92∧f.escape≠96)) (h1:f.stages≠[]) (h2:¬ (32<f.stages.length∨512<countL f)):fileL f=restA f.escape f.args f.stages:=by (rw [fileL,if_neg h,if_neg h1,if_neg h2,restA]) <;> rfl
end
def keptN (l:List (List UInt8)):List (List UInt8):=l.filter fun s=>!s.isEmpty
theorem keptN_mem {l:List (List UInt8)} {s:List UInt8} (h:s≠[]):s∈keptN l↔s∈l:=by
 unfold keptN;rw [List.mem_filter];cases s with
 | nil=>exact absurd rfl h
 | cons a r=>simp
theorem keptN_snoc (l:List (List UInt8)) (s:List UInt8):keptN (l++[s])=if s=[] then keptN l else keptN l++[s]:=by unfold keptN;rw [List.filter_append];cases s <;> simp
end Ck
end Go.Proofs.YtdaejggcjjdhkaaGreatDoor
namespace Go.Proofs.YtdaejggcjjdhkaaGreatDoor
open Go Go.RowKit Go.WideMaps
def NM (w:World) (b n:Nat) (l:List (List UInt8)):Prop:=∃ D:DataW Unit,w.ownsMap Tryz.prog 9 (plainElem Tryz.prog 4) b n D∧Maps.IsMap D∧∀ s:List UInt8,D.atKey (.string s) (.lit (.bool false))=.lit (.bool (decide (s∈l)))
theorem NM.new (w:World):NM (w.alloc (.map #[] 0)) w.heap.size 0 []:=⟨.map [],World.ownsMap_made _ _ _ _,Maps.isMap_empty,fun s=>by simp [DataW.atKey]⟩
theorem NM.lt {w:World} {b n:Nat} {l:List (List UInt8)} (h:NM w b n l):b<w.heap.size:=by obtain ⟨D,h,_⟩:=h;exact h.lt
theorem NM.kept {w w':World} {b n:Nat} {l:List (List UInt8)} {row:Option Nat} (h:NM w b n l) (hg:w.grownBy w' row) (hne:some b≠row):NM w' b n l:=by obtain ⟨D,h1,h2,h3⟩:=h;exact ⟨D,h1.kept hg hne,h2,h3⟩
theorem NM.below {w w':World} {b n B:Nat} {l:List (List UInt8)} (h:NM w b n l) (hb:Below B w w') (hB:b<B):NM w' b n l:=by obtain ⟨D,⟨es,clock,h1,r⟩,h2,h3⟩:=h;exact ⟨D,⟨es,clock,(hb.block b hB).trans h1,r⟩,h2,h3⟩
theorem jh {P:Program} {e:TypeId} (he:P.underlying e=some .bool) {v:Value} {z:DataW Unit × List MemPlace} (h:plainElem P e v=some z):∃ x,v=.bool x∧z.1=.lit (.bool x):=by
 unfold plainElem at h;rw [he] at h;cases v <;> simp at h
 exact ⟨_,rfl,by rw [←h]⟩
theorem NM.look {w:World} {b n:Nat} {l:List (List UInt8)} (h:NM w b n l) (s:List UInt8) (hs:s.length≤2000000):(Instr.lookup 78 (.map (some b)) (.string (bs s)) false).run Tryz.prog w=.ok (.bool (decide (s∈l))) w:=by obtain ⟨D,h1,h2,h3⟩:=h;obtain ⟨v,ps,hrun,hv⟩:=h1.lookup (Maps.string_keyed Tryz.underlying9) Tryz.underlying78 (z:=.bool false) (by kernel_rfl) (plainElem_bool Tryz.underlying4 false) (keyOf_string_mk Tryz.underlying9 (s:=bs s) (by rw [zd];unfold maxLen;omega));obtain ⟨x,rfl,hx⟩:=jh Tryz.underlying4 hv;have e:(bs s).data.toList=s:=Zh s;rw [e] at hx;rw [hrun];have q:=h3 s;have hx':D.atKey (.string s) (.lit (.bool false))=.lit (.bool x):=hx;rw [hx'] at q;rw [Lit.bool.inj (DataW.lit.inj q)]
theorem UL {w:World} {ops:Array Oper} {rest:List Oper} {o:Oper} {a:Act} {Q:Exit→Act→World→Prop} (hg:o.guard=none) (m x v:Operand) (hop:o.op=Op.mapUpdate 78 m x v)
  (b n:Nat) (l:List (List UInt8)) (hm:a.eval m=.map (some b)) (h:NM w b n l) (hn:n<100000000000000) (s:List UInt8) (hx:a.eval x=.string (bs s)) (hv:a.eval v=.bool true) (hs:s.length≤2000000)
  (hK:∀ w',NM w' b (n+1) (l++[s])→w.grownBy w' (some b)→wpList Tryz.prog ops Q rest (a.put o.dst undef) w'):wpList Tryz.prog ops Q (o::rest) a w:=by
 obtain ⟨D,h1,h2,h3⟩:=h;have e:(bs s).data.toList=s:=Zh s;refine wpList_mapUpdate_own w hg m x v _ hop 9 4 (Maps.string_keyed Tryz.underlying9) Tryz.underlying78 _ b n D hm h1 (by unfold maxLen;omega) _ _ (.string s) hx hv (by
  have:=keyOf_string_mk (P:=Tryz.prog) Tryz.underlying9 (s:=bs s) (by rw [zd];unfold maxLen;omega)
  rwa [e] at this) (.lit (.bool true)) [] (plainElem_bool Tryz.underlying4 true) ?_
 intro w' g1 g2;refine hK w' ⟨D.put (.string s) (.lit (.bool true)),g1,g1.isMap,fun d=>?_⟩ g2
 by_cases hd:d=s
 · subst hd;rw [show decide (d∈l++[d])=true by simp];exact Maps.atKey_put_same h2 (by simp [WideAt.IsKeyLit]) _ _
 · rw [show decide (d∈l++[s])=decide (d∈l) by simp [hd],←h3 d];exact Maps.atKey_put_other (fun e=>hd (by injection e)) _ _
end Go.Proofs.YtdaejggcjjdhkaaGreatDoor
namespace Go.Proofs.YtdaejggcjjdhkaaGreatDoor
open Go Go.RowKit Go.Extern.Stop Go.Stop Go.Extern
theorem YN (line:Int) (n:Nat) (w:World) (hv:ErrVar w) (h0:n≠0):Calls Tryz.prog 42 #[.int .i64 line,ya n] w fun e w'=>e=.panicked (XU n line)∧Below w.heap.size w w':=by rw [ya,if_neg h0];exact yc line n w hv
theorem XW (line:Int) (w:World):Calls Tryz.prog 42 #[.int .i64 line,ya 0] w fun e w'=>e=.returned (.tuple #[])∧Below w.heap.size w w':=Qz line w
theorem Ve (e:UInt8):(((e.toNat:Int) != 92)&&((e.toNat:Int) != 96))=decide (e≠92∧e≠96):=by
 have h:∀ k:UInt8,((e.toNat:Int) != (k.toNat:Int))=decide (e≠k):=fun k=>by rw [Jz,Jj,bne_iff_ne,Ne,Ne,←UInt8.toNat_inj];omega
 rw [Bool.decide_and];exact congr (congrArg and (h 92)) (h 96)
structure FIn (w:World) (cs:Array Value) (wx:World):Prop where
 below:Below w.heap.size w wx
 size:w.heap.size+2≤wx.heap.size
 file:Blk wx w.heap.size 25 cs
 err:Blk wx (w.heap.size+1) 32 #[.nilIface]
section
variable {w wx wy:World} {cs:Array Value}
theorem FIn.low (I:FIn w cs wx) {B:Nat} (k:Below B wx wy) (hB:w.heap.size+2≤B):FIn w cs wy:=⟨I.below.trans (k.mono (by omega)),Jg I.size k.size,I.file.below k (by omega),I.err.below k (by omega)⟩
theorem FIn.new (I:FIn w cs wx) (k:Below wx.heap.size wx wy):FIn w cs wy:=I.low k I.size
theorem FIn.alloc (I:FIn w cs wx) (o:Obj):FIn w cs (wx.alloc o):=I.new ((Ja _ _).alloc (Jd _) o)
theorem FIn.grown (I:FIn w cs wx) {b:Nat} (k:wx.grownBy wy (some b)) (hb:w.heap.size+2≤b):FIn w cs wy:=I.low ((Fx.of_grown k).to_below I.size (fun c e=>by injection e with e;omega)) (Jd _)
theorem FIn.bad (I:FIn w cs wx) (hV:ErrVar w) {tmps:Array Value} {n line:Int} {x:Option (Nat × Int)} (hp:tmps.getD 2 undef=.pointer (some ⟨w.heap.size+1,0,none⟩)) (hx:zx n line 0=Zf x):
  bodyPostD Tryz.prog Tryz.f14 (fun r w'=>r=.returned (Zf x)∧Below w.heap.size w w') (.panic (XU n line)) { tmps:=tmps,defers:=[{ target:=.fn (.func 40) #[.pointer (some ⟨w.heap.size+1,0,none⟩)],args:=#[] }] } wx:=
 Qc hp (hV.below I.below hV.lt) I.err fun w3 g=>⟨congrArg Ending.returned hx,I.below.grown g I.below.size (fun k e=>by cases e;omega)⟩
end
end Go.Proofs.YtdaejggcjjdhkaaGreatDoor
namespace Go.Proofs.YtdaejggcjjdhkaaGreatDoor
open Go Go.RowKit
namespace Ck
theorem XR (e:UInt8) (s:List UInt8):wordL e s≤32:=by
 unfold wordL;cases h:Ex.readL e .plain s with
 | inl z=>rcases Ex.readL_err h with rfl | rfl <;> decide
 | inr _=>exact Nat.zero_le _
theorem zap (e:UInt8) (s:List UInt8):docL e s≤32:=by
 unfold docL;cases h:Ex.readL e .document s with
 | inl z=>rcases Ex.readL_err h with rfl | rfl <;> decide
 | inr _=>exact Nat.zero_le _
theorem Qa (s:St):fieldsL s≤32:=by
 unfold fieldsL
 (repeat' split) <;> decide
theorem VK (s:St):numbersL s≤32:=by
 unfold numbersL;dsimp only
 (repeat' split) <;> decide
theorem WR (op:Int) (e:UInt8):∀ l:List Pr,pairsL op e l≤32
 | []=>by rw [pairsL];decide
 | p::r=>by
  have ih:=WR op e r;have h:=XR e p.val;rw [pairsL]
  (repeat' split) <;> first | omega | decide
theorem YE (op:Int) (e:UInt8):∀ (l:List (List UInt8)) (ds:List Lx.Dc) (z:Nat),wordsL op e l ds=.inl z→z≤32
 | [],ds,z,h=>by rw [wordsL] at h;cases h
 | w::r,ds,z,h=>by
  unfold wordsL at h
  split at h
  · split at h
    · injection h with h;subst h;exact XR e w
    · exact YE op e r ds z h
  · split at h
    · injection h with h;subst h;decide
    · split at h
      · split at h
        · exact YE op e r _ z h
        · injection h with h;subst h;decide
      · injection h with h;subst h;decide
theorem UB (e:UInt8):∀ l:List Lx.Dc,docsL e l≤32
 | []=>by rw [docsL];decide
 | d::r=>by
  have ih:=UB e r;have h:=zap e d.text;rw [docsL]
  split <;> omega
theorem jW (s:St) (e:UInt8):bodyL s e≤32:=by
 unfold bodyL
 split
 · rename_i z h;exact YE _ _ _ _ _ h
 · decide
 · exact UB e s.docs
theorem Uf (s:St) (e:UInt8):stepL s e≤32:=by
 have h1:=Qa s;have h2:=VK s;have h3:=WR s.op e s.pairs;have h4:=jW s e;unfold stepL
 (repeat' split) <;> omega
theorem WD (e:UInt8):∀ l:List St,jX (zE e l)
 | [],n,x,h=>by cases h
 | s::r,n,x,h=>by
  have:=Uf s e;rw [zE] at h
  split at h
  · injection h with h;injection h with h _;omega
  · exact WD e r n x h
theorem UE (e:UInt8):∀ l:List St,jX (yt e l)
 | [],n,x,h=>by cases h
 | s::r,n,x,h=>by
  have:=Uf s e;rw [yt] at h
  split at h
  · injection h with h;injection h with h _;omega
  · split at h
    · injection h with h;injection h with h _;omega
    · exact UE e r n x h
theorem QD (e:UInt8) (names:List (List UInt8)) (s:Sg):stageL e names s≤32:=by
 have:=XR e s.base;unfold stageL
 (repeat' split) <;> omega
theorem Xx (e:UInt8):∀ (l:List Sg) (names:List (List UInt8)),jX (stagesL e names l)
 | [],_,n,x,h=>by cases h
 | s::r,names,n,x,h=>by
  have:=QD e names s;rw [stagesL] at h
  split at h
  · injection h with h;injection h with h _;omega
  · split at h
    · rename_i y hy;injection h with h;subst h;exact WD e _ n x hy
    · exact Xx e r _ n x h
theorem file_ok (f:Fl):jX (fileL f):=fun n x h=>by
 unfold fileL at h
 split at h
 · injection h with h;injection h with h _;omega
 · split at h
   · injection h with h;injection h with h _;omega
   · split at h
     · injection h with h;injection h with h _;omega
     · split at h
       · rename_i y hy;injection h with h;subst h;exact UE _ _ n x hy
       · exact Xx _ _ _ n x h
theorem small_one {s:St} (h:s.Small) (e:UInt8):(one s e).Small:=⟨(fun _ h=>by cases h),fun g hg=>by rw [one,Jv] at hg;subst hg;exact ⟨(by show scratch.length≤1050000;decide),Nat.zero_le _,fun t ht=>by rw [Jv] at ht;subst ht;exact h⟩,by simp [one,countL]⟩
theorem small_more {e:UInt8} {us:List St} {a:List Sg} {l:Sg} {s:St} (h:Fl.Small ⟨e,us,a++[l]⟩) (hs:s.Small) (hn:(a++[l]).length+countL ⟨e,us,a++[l]⟩≤1049000):Fl.Small ⟨e,us,a++[more l s]⟩:=by
 obtain ⟨h1,h2,h3⟩:=h;refine ⟨h1,fun g hg=>?_,?_⟩
 · rcases Km.1 hg with hg | hg
   · exact h2 g (Km.2 (.inl hg))
   · rw [Jv] at hg;subst hg;obtain ⟨q1,q2,q3⟩:=h2 l (Km.2 (.inr (Jv.2 rfl)));refine ⟨q1,q2,fun t ht=>?_⟩;rcases Km.1 ht with ht | ht
     · exact q3 t ht
     · rw [Jv] at ht;subst ht;exact hs
 · have e1:(more l s).steps.length=l.steps.length+1:=by simp [more]
   simp only [countL,List.map_append,List.sum_append,List.map_cons,List.map_nil,List.sum_cons,List.sum_nil,Jf,List.length_singleton,e1] at hn ⊢;omega
theorem right_esc {f:Fl} (h:fileL f=none):(f.escape=92∨f.escape=96)∧f.stages≠[]:=by
 refine ⟨?_,fun q=>?_⟩
 · rcases Decidable.em (f.escape=92) with e1 | e1
   · exact .inl e1
   · rcases Decidable.em (f.escape=96) with e2 | e2
     · exact .inr e2
     · rw [file_esc ⟨e1,e2⟩] at h;cases h
 · rcases Decidable.em (f.escape≠92∧f.escape≠96) with e1 | e1
   · rw [file_esc e1] at h;cases h
   · rw [file_none e1 q] at h;cases h
end Ck
section
variable {e:UInt8} {va vg:Value} {args:List SM} {A:List GM} {L:GM} {s:Ck.St}
theorem Vo:FM.fl ⟨e,va,args,vg,A++[L]⟩=⟨e,args.map SM.s,A.map GM.sg++[GM.sg L]⟩:=by simp [FM.fl]
theorem Vn (h:(FM.fl ⟨e,va,args,vg,A++[L]⟩).Small) (hs:s.Small) (hn:(A++[L]).length+Ck.countL (FM.fl ⟨e,va,args,vg,A++[L]⟩)≤1049000):Ck.Fl.Small ⟨e,args.map SM.s,A.map GM.sg++[Ck.more (GM.sg L) s]⟩:=by rw [Vo] at h hn;exact Ck.small_more h hs (by simpa using hn)
theorem jo (h:Ck.fileL (FM.fl ⟨e,va,args,vg,A++[L]⟩)=none):Ck.fileL ⟨e,args.map SM.s,A.map GM.sg++[Ck.more (GM.sg L) s]⟩=if 512≤Ck.countL (FM.fl ⟨e,va,args,vg,A++[L]⟩) then some (5,0) else if Ck.stepL s e≠0 then some (Ck.stepL s e,s.line) else none:=by rw [Vo] at h ⊢;exact Ck.alone (f:=⟨e,args.map SM.s,A.map GM.sg++[GM.sg L]⟩) (a:=A.map GM.sg) (l:=GM.sg L) s rfl h
theorem ms_le:L.ms.length≤Ck.countL (FM.fl ⟨e,va,args,vg,A++[L]⟩):=by rw [yg];dsimp only;rw [List.map_append,List.sum_append];simp only [List.map_cons,List.map_nil,List.sum_cons,List.sum_nil];omega
end
end Go.Proofs.YtdaejggcjjdhkaaGreatDoor
