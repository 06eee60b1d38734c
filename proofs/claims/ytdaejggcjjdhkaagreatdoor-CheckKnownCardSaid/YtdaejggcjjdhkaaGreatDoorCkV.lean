/- CkSl, CkSf, CkOne, Pick, CkV, CkY, CkOp, CkOs -/
import Derived.Test.YtdaejggcjjdhkaaGreatDoorMkA
import Derived.Test.YtdaejggcjjdhkaaGreatDoorMkB
import Derived.Test.YtdaejggcjjdhkaaGreatDoorProg
import Derived.Deep.DeepCutAuto
import Derived.Deep.CutBlock
import Derived.WalkKit
import Derived.IntWalk
import Derived.Lib.Hide
import Derived.Test.YtdaejggcjjdhkaaGreatDoorMkC
import Derived.Laws.OwnMore
import Derived.Deep.QuietTactic
import Derived.BigQuiet
import Derived.Test.YtdaejggcjjdhkaaGreatDoorCards
import Derived.Deep.Slices
import Derived.Deep.Fields
set_option maxHeartbeats 1000000
set_option maxRecDepth 100000
namespace Go.Proofs.YtdaejggcjjdhkaaGreatDoor
open Go Go.RowKit
theorem SlA.blk {w:World} {g n c:Nat} {t:TypeId} {cs:List Value} (h:Blk w g t cs.toArray):SlA w (.slice (some ⟨g,0,none⟩) n c) n cs:=.inr ⟨g,0,c,rfl,fun j u hu=>by rw [Jq,h.cell];simpa using hu⟩
theorem SlA.none (w:World):SlA w (.slice none 0 0) 0 []:=.inl ⟨⟨Option.none,0,rfl,fun _=>rfl⟩,rfl,rfl⟩
theorem WK {A A':Option Addr} {n n' c c':Nat} (h:Value.slice A n c=.slice A' n' c') (hle:n≤c):n'≤c':=by injection h with _ h1 h2;omega
namespace Ck
def St.Small (s:St):Prop:=s.words.length+s.exec.length+s.pairs.length+s.docs.length≤1050000∧∀ t∈textsL s,t.length≤1050000
def Sg.Small (g:Sg):Prop:=g.base.length≤1050000∧g.name.length≤1050000∧∀ s∈g.steps,s.Small
def Fl.Small (f:Fl):Prop:=(∀ s∈f.args,s.Small)∧(∀ g∈f.stages,g.Small)∧f.stages.length+countL f≤1050000
end Ck
def VL (l:List Value) (i:Nat) (u:Value) (_:World):Prop:=l[i]?=some u
theorem yh {w:World} {v:Value} {l:List SM} (h:StsA w v l) {i:Nat} (hi:i<l.length):∃ (g o c:Nat) (s:Ck.St) (Ap Aw Ad Ae:Option Addr) (kp kw kd ke:Nat),v=.slice (some ⟨g,o,none⟩) l.length c∧l[i]=⟨s,.slice Ap s.pairs.length kp,.slice Aw s.words.length kw,.slice Ad s.docs.length kd,.slice Ae s.exec.length ke⟩∧
  w.cell? ⟨g,o+i*10,none⟩=some (.int .i64 s.op)∧w.cell? ⟨g,o+i*10+1,none⟩=some (.int .i64 s.line)∧w.cell? ⟨g,o+i*10+2,none⟩=some (.string (bs s.from_))∧w.cell? ⟨g,o+i*10+3,none⟩=some (.string (bs s.mode))∧w.cell? ⟨g,o+i*10+4,none⟩=some (.bool s.force)∧
  w.cell? ⟨g,o+i*10+5,none⟩=some (.slice Ap s.pairs.length kp)∧w.cell? ⟨g,o+i*10+6,none⟩=some (.bool s.bare)∧w.cell? ⟨g,o+i*10+7,none⟩=some (.slice Aw s.words.length kw)∧w.cell? ⟨g,o+i*10+8,none⟩=some (.slice Ad s.docs.length kd)∧w.cell? ⟨g,o+i*10+9,none⟩=some (.slice Ae s.exec.length ke):=by
 have hm:=h.2 l[i] (Jl hi);obtain ⟨g,o,c,hv,hc⟩:=j6 h.1 hi;obtain ⟨Ap,kp,e1⟩:=hm.cp.form;obtain ⟨Aw,kw,e2⟩:=hm.cw.form;obtain ⟨Ad,kd,e3⟩:=hm.cd.form;obtain ⟨Ae,ke,e4⟩:=hm.ce.form;clear hm;generalize l[i]=m at hc e1 e2 e3 e4 ⊢;obtain ⟨s,vp,vw,vd,ve⟩:=m;dsimp only at e1 e2 e3 e4;subst e1 e2 e3 e4;exact ⟨g,o,c,s,Ap,Aw,Ad,Ae,kp,kw,kd,ke,hv,rfl,hc 0 (by omega),hc 1 (by omega),hc 2 (by omega),hc 3 (by omega),hc 4 (by omega),hc 5 (by omega),hc 6 (by omega),hc 7 (by omega),hc 8 (by omega),hc 9 (by omega)⟩
theorem z7 {w:World} {v:Value} {l:List GM} (h:GsA w v l) {i:Nat} (hi:i<l.length):∃ (g o c:Nat) (G:GM) (A:Option Addr) (k:Nat),v=.slice (some ⟨g,o,none⟩) l.length c∧l[i]=G∧G.vs=.slice A G.ms.length k∧StsA w G.vs G.ms∧
  w.cell? ⟨g,o+i*4,none⟩=some (.int .i64 G.line)∧w.cell? ⟨g,o+i*4+1,none⟩=some (.string (bs G.base))∧w.cell? ⟨g,o+i*4+2,none⟩=some (.string (bs G.name))∧w.cell? ⟨g,o+i*4+3,none⟩=some (.slice A G.ms.length k):=by
 have hm:=h.2 l[i] (Jl hi);obtain ⟨g,o,c,hv,hc⟩:=gm_at h.1 hi;obtain ⟨A,k,e⟩:=hm.1.form;exact ⟨g,o,c,l[i],A,k,hv,rfl,e,hm,hc 0 (by omega),hc 1 (by omega),hc 2 (by omega),by rw [hc 3 (by omega),←e];rfl⟩
theorem Zg {α β:Type} {f:α→β} {l:List α} {i:Nat} (hi:i<l.length):(l.map f).drop i=f l[i]::(l.map f).drop (i+1):=by rw [Js (by simpa using hi),List.getElem_map]
theorem Xu {l:List GM} {i:Nat} (hi:i<l.length):(l.map GM.name).take (i+1)=(l.map GM.name).take i++[l[i].name]:=by rw [List.take_succ_eq_append_getElem (by simpa using hi),List.getElem_map]
theorem Zw (l:List GM) (i:Nat) (hi:i<l.length):((l.take (i+1)).map fun g=>g.ms.length).sum=((l.take i).map fun g=>g.ms.length).sum+l[i].ms.length:=by rw [List.take_add_one,Jk hi,List.map_append,List.sum_append];simp
theorem yq:∀ (l:List GM) (i:Nat),((l.take i).map fun g=>g.ms.length).sum≤(l.map fun g=>g.ms.length).sum
 | [],_=>by simp
 | _::_,0=>by simp
 | g::l,i+1=>by have:=yq l i;simp only [List.take_succ_cons,List.map_cons,List.sum_cons];omega
theorem yg (f:FM):Ck.countL f.fl=f.args.length+(f.stages.map fun g=>g.ms.length).sum:=by simp only [Ck.countL,FM.fl,Jo,List.map_map];congr 2;exact List.map_congr_left fun g _=>by simp [GM.sg]
theorem ZW:Vq Tryz.prog 25 3:=⟨⟨_,Tryz.underlying25⟩,by kernel_rfl⟩
def UJ (x:Ck.Fl) (w:World) (r:Ending) (w':World):Prop:=∃ f:FM,r=.returned f.val∧f.Ok w'∧f.fl=x∧Below w.heap.size w w'
theorem Wo {w:World} {g b:Nat} {t:TypeId} {cs:Array Value} (h:Blk w g t cs) (v:Value) (hne:g≠b):Blk (w.setCell ⟨b,0,none⟩ v) g t cs:=(RowKit.Below.heap_setCell _ _ _ _ hne).trans h
theorem Up (e:UInt8) {w w2:World} {s:Ck.St} {Ap Aw Ad Ae:Option Addr} {kp kw kd ke:Nat} (hok:SM.Ok w ⟨s,.slice Ap s.pairs.length kp,.slice Aw s.words.length kw,.slice Ad s.docs.length kd,.slice Ae s.exec.length ke⟩) (hb:Below w.heap.size w w2)
  (ks:Blk w2 (w.heap.size+1+1) 41 #[.int .i64 s.op,.int .i64 s.line,.string (bs s.from_),.string (bs s.mode),.bool s.force,.slice Ap s.pairs.length kp,.bool s.bare,.slice Aw s.words.length kw,.slice Ad s.docs.length kd,.slice Ae s.exec.length ke]) (kg:Blk w2 (w.heap.size+1+1+1) 53 #[.int .i64 1,.string ⟨#[115,99,114,97,116,99,104]⟩,.string ⟨#[]⟩,.slice (some ⟨w.heap.size+1+1,0,none⟩) 1 1]):
  UJ (Ck.one s e) w (.returned (.agg #[.int .u8 (e.toNat:Int),.slice none 0 0,.slice (some ⟨w.heap.size+1+1+1,0,none⟩) 1 1])) w2:=
 ⟨⟨e,.slice none 0 0,[],.slice (some ⟨w.heap.size+1+1+1,0,none⟩) 1 1,[⟨1,Ck.scratch,[],.slice (some ⟨w.heap.size+1+1,0,none⟩) 1 1,[⟨s,.slice Ap s.pairs.length kp,.slice Aw s.words.length kw,.slice Ad s.docs.length kd,.slice Ae s.exec.length ke⟩]⟩]⟩,rfl,
  ⟨⟨SlA.none w2,fun _ h=>by cases h⟩,⟨SlA.blk (cs:=yH _) kg,fun g hg=>by rw [Jv] at hg;subst hg;refine ⟨SlA.blk (cs:=yv _) ks,fun m hm=>?_⟩;rw [Jv] at hm;subst hm;exact hok.new hb⟩⟩,rfl,hb⟩
theorem X7 (m:SM) (b:Bool) (w:World) (hok:m.Ok w):Calls Tryz.prog 17 #[.agg #[.int .i64 m.s.op,.int .i64 m.s.line,.string (bs m.s.from_),.string (bs m.s.mode),.bool m.s.force,m.vp,.bool m.s.bare,m.vw,m.vd,m.ve],.bool b] w (UJ (Ck.one m.s (if b then 96 else 92)) w):=by
 obtain ⟨s,vp,vw,vd,ve⟩:=m;have HOK:=hY hok;have hcp:SlA w vp s.pairs.length (yV s.pairs):=hok.cp;have hcw:SlA w vw s.words.length (sc s.words):=hok.cw;have hcd:SlA w vd s.docs.length (yI s.docs):=hok.cd;have hce:SlA w ve s.exec.length (sc s.exec):=hok.ce;dsimp only;clear hok;obtain ⟨Ap,kp,rfl⟩:=hcp.form;obtain ⟨Aw,kw,rfl⟩:=hcw.form;obtain ⟨Ad,kd,rfl⟩:=hcd.form;obtain ⟨Ae,ke,rfl⟩:=hce.form;clear hcp hcw hcd hce;go_enter Tryz.func17,Tryz.ntmps17;go_upto_region 2 with fail;obtain ⟨w1,hw1⟩:∃ y,(((((w.alloc (.cells #[.int .i64 s.op,.int .i64 s.line,.string (bs s.from_),.string (bs s.mode),.bool s.force,.slice Ap s.pairs.length kp,.bool s.bare,.slice Aw s.words.length kw,.slice Ad s.docs.length kd,.slice Ae s.exec.length ke] 41)).alloc (.cells #[.int .u8 0,.slice none 0 0,.slice none 0 0] 25)).alloc (.cells #[.int .i64 s.op,.int .i64 s.line,.string (bs s.from_),.string (bs s.mode),.bool s.force,.slice Ap s.pairs.length kp,.bool s.bare,.slice Aw s.words.length kw,.slice Ad s.docs.length kd,.slice Ae s.exec.length ke] 41)).alloc (.cells #[.int .i64 1,.string ⟨#[115,99,114,97,116,99,104]⟩,.string ⟨#[]⟩,.slice (some ⟨w.heap.size+1+1,0,none⟩) 1 1] 53)).alloc (.cells #[.int .u8 92,.slice none 0 0,.slice (some ⟨w.heap.size+1+1+1,0,none⟩) 1 1] 25))=y:=⟨_,rfl⟩
 have HB1:Hid (Below w.heap.size w w1):=hY (by rw [←hw1];exact (((((Ja w.heap.size w).alloc (Jd _) _).alloc (by simp only [Jb];omega) _).alloc (by simp only [Jb];omega) _).alloc (by simp only [Jb];omega) _).alloc (by simp only [Jb];omega) _);have KZ:Hid (Blk w1 (w.heap.size+1) 25 #[.int .u8 0,.slice none 0 0,.slice none 0 0]):=hY (by have q:=Blk.new (w.alloc (.cells #[.int .i64 s.op,.int .i64 s.line,.string (bs s.from_),.string (bs s.mode),.bool s.force,.slice Ap s.pairs.length kp,.bool s.bare,.slice Aw s.words.length kw,.slice Ad s.docs.length kd,.slice Ae s.exec.length ke] 41)) 25 #[.int .u8 0,.slice none 0 0,.slice none 0 0];simp only [Jb] at q;rw [←hw1];exact (((q.alloc _).alloc _).alloc _));have KS:Hid (Blk w1 (w.heap.size+1+1) 41 #[.int .i64 s.op,.int .i64 s.line,.string (bs s.from_),.string (bs s.mode),.bool s.force,.slice Ap s.pairs.length kp,.bool s.bare,.slice Aw s.words.length kw,.slice Ad s.docs.length kd,.slice Ae s.exec.length ke]):=hY (by have q:=Blk.new ((w.alloc (.cells #[.int .i64 s.op,.int .i64 s.line,.string (bs s.from_),.string (bs s.mode),.bool s.force,.slice Ap s.pairs.length kp,.bool s.bare,.slice Aw s.words.length kw,.slice Ad s.docs.length kd,.slice Ae s.exec.length ke] 41)).alloc (.cells #[.int .u8 0,.slice none 0 0,.slice none 0 0] 25)) 41 #[.int .i64 s.op,.int .i64 s.line,.string (bs s.from_),.string (bs s.mode),.bool s.force,.slice Ap s.pairs.length kp,.bool s.bare,.slice Aw s.words.length kw,.slice Ad s.docs.length kd,.slice Ae s.exec.length ke];simp only [Jb] at q;rw [←hw1];exact ((q.alloc _).alloc _))
 have KG:Hid (Blk w1 (w.heap.size+1+1+1) 53 #[.int .i64 1,.string ⟨#[115,99,114,97,116,99,104]⟩,.string ⟨#[]⟩,.slice (some ⟨w.heap.size+1+1,0,none⟩) 1 1]):=hY (by have q:=Blk.new (((w.alloc (.cells #[.int .i64 s.op,.int .i64 s.line,.string (bs s.from_),.string (bs s.mode),.bool s.force,.slice Ap s.pairs.length kp,.bool s.bare,.slice Aw s.words.length kw,.slice Ad s.docs.length kd,.slice Ae s.exec.length ke] 41)).alloc (.cells #[.int .u8 0,.slice none 0 0,.slice none 0 0] 25)).alloc (.cells #[.int .i64 s.op,.int .i64 s.line,.string (bs s.from_),.string (bs s.mode),.bool s.force,.slice Ap s.pairs.length kp,.bool s.bare,.slice Aw s.words.length kw,.slice Ad s.docs.length kd,.slice Ae s.exec.length ke] 41)) 53 #[.int .i64 1,.string ⟨#[115,99,114,97,116,99,104]⟩,.string ⟨#[]⟩,.slice (some ⟨w.heap.size+1+1,0,none⟩) 1 1];simp only [Jb] at q;rw [←hw1];exact (q.alloc _))
 have KF:Hid (Blk w1 (w.heap.size+1+1+1+1) 25 #[.int .u8 92,.slice none 0 0,.slice (some ⟨w.heap.size+1+1+1,0,none⟩) 1 1]):=hY (by have q:=Blk.new ((((w.alloc (.cells #[.int .i64 s.op,.int .i64 s.line,.string (bs s.from_),.string (bs s.mode),.bool s.force,.slice Ap s.pairs.length kp,.bool s.bare,.slice Aw s.words.length kw,.slice Ad s.docs.length kd,.slice Ae s.exec.length ke] 41)).alloc (.cells #[.int .u8 0,.slice none 0 0,.slice none 0 0] 25)).alloc (.cells #[.int .i64 s.op,.int .i64 s.line,.string (bs s.from_),.string (bs s.mode),.bool s.force,.slice Ap s.pairs.length kp,.bool s.bare,.slice Aw s.words.length kw,.slice Ad s.docs.length kd,.slice Ae s.exec.length ke] 41)).alloc (.cells #[.int .i64 1,.string ⟨#[115,99,114,97,116,99,104]⟩,.string ⟨#[]⟩,.slice (some ⟨w.heap.size+1+1,0,none⟩) 1 1] 53)) 25 #[.int .u8 92,.slice none 0 0,.slice (some ⟨w.heap.size+1+1+1,0,none⟩) 1 1];simp only [Jb] at q;rw [←hw1];exact q);rw [hw1];clear hw1;have c0:w1.cell? ⟨w.heap.size+1+1+1+1,0,none⟩=some (.int .u8 92):=KF.out.cell 0;have c1:w1.cell? ⟨w.heap.size+1+1+1+1,1,none⟩=some (.slice none 0 0):=KF.out.cell 1;have c2:w1.cell? ⟨w.heap.size+1+1+1+1,2,none⟩=some (.slice (some ⟨w.heap.size+1+1+1,0,none⟩) 1 1):=KF.out.cell 2;have f0:=KF.out.frozen 0;cases b with
 | false =>go_wp2_with (refine ze rfl _ _ _ rfl ZW (w.heap.size+1) #[.int .u8 92,.slice none 0 0,.slice (some ⟨w.heap.size+1+1+1,0,none⟩) 1 1] _ rfl rfl KZ.out rfl rfl rfl ?_;intro w2 hK2 hg2 hz2);have hG:w1.grownBy w2 (some (w.heap.size+1)):=hg2;have hb:Below w.heap.size w w2:=HB1.out.trans ((Fx.of_grown hG).to_below HB1.out.size (fun b e=>by injection e with e;omega));have ks:=(hG.block _ KS.out.lt (fun e=>by injection e with e;omega)).trans KS.out;have kg:=(hG.block _ KG.out.lt (fun e=>by injection e with e;omega)).trans KG.out;exact bodyPost_ret (zo rfl ZW rfl hK2 rfl) rfl (Up 92 HOK.out hb ks kg)
 | true =>have KZ2:=hY (Wo KZ.out (b:=w.heap.size+1+1+1+1) (.int .u8 96) (by omega));have KS2:=hY (Wo KS.out (b:=w.heap.size+1+1+1+1) (.int .u8 96) (by omega));have KG2:=hY (Wo KG.out (b:=w.heap.size+1+1+1+1) (.int .u8 96) (by omega));have HB2:=hY (HB1.out.setCell (p:=⟨w.heap.size+1+1+1+1,0,none⟩) (by show w.heap.size≤w.heap.size+1+1+1+1;omega) (.int .u8 96));go_wp2_with (refine ze rfl _ _ _ rfl ZW (w.heap.size+1) #[.int .u8 96,.slice none 0 0,.slice (some ⟨w.heap.size+1+1+1,0,none⟩) 1 1] _ rfl rfl KZ2.out rfl rfl rfl ?_;intro w2 hK2 hg2 hz2);have hG:(w1.setCell ⟨w.heap.size+1+1+1+1,0,none⟩ (.int .u8 96)).grownBy w2 (some (w.heap.size+1)):=hg2;have hb:Below w.heap.size w w2:=HB2.out.trans ((Fx.of_grown hG).to_below HB2.out.size (fun b e=>by injection e with e;omega));have ks:=(hG.block _ KS2.out.lt (fun e=>by injection e with e;omega)).trans KS2.out;have kg:=(hG.block _ KG2.out.lt (fun e=>by injection e with e;omega)).trans KG2.out;exact bodyPost_ret (zo rfl ZW rfl hK2 rfl) rfl (Up 96 HOK.out hb ks kg)
theorem XN (f:FM) (w:World) (hok:f.Ok w) (hn:f.stages.length+Ck.countL f.fl≤1050000):Calls Tryz.prog 21 #[.agg #[.int .u8 (f.escape.toNat:Int),f.va,f.vg]] w fun r w'=>r=.returned (.int .i64 (Ck.countL f.fl:Int))∧Below w.heap.size w w':=by
 have hcount:=yg f;obtain ⟨e,va,args,vg,stages⟩:=f;have hca:StsA w va args:=hok.a;have hcg:GsA w vg stages:=hok.g;dsimp only at hcount hn ⊢;clear hok;obtain ⟨Aa,ka,rfl⟩:=hca.1.form;obtain ⟨Ag,kg,rfl⟩:=hcg.1.form;obtain ⟨tot,htot⟩:∃ t,Ck.countL (FM.fl ⟨e,.slice Aa args.length ka,args,.slice Ag stages.length kg,stages⟩)=t:=⟨_,rfl⟩
 rw [htot] at hcount hn ⊢;have HG0:=hY hcg;obtain ⟨na,hna⟩:∃ n,args.length=n:=⟨_,rfl⟩
 obtain ⟨ng,hng⟩:∃ n,stages.length=n:=⟨_,rfl⟩
 rw [hna] at hcount;rw [hng] at HG0 hn;have HC:=hY hcount;have HNG:=hY hng;have hna6:na≤tot:=by omega
 rw [hna,hng];have hal:=(Ja w.heap.size w).alloc (Jd _) (.cells #[.int .u8 (e.toNat:Int),.slice Aa na ka,.slice Ag ng kg] 25);have hk:=Blk.new w 25 #[.int .u8 (e.toNat:Int),.slice Aa na ka,.slice Ag ng kg];obtain ⟨w1,hw1⟩:∃ x,w.alloc (.cells #[.int .u8 (e.toNat:Int),.slice Aa na ka,.slice Ag ng kg] 25)=x:=⟨_,rfl⟩
 rw [hw1] at hal hk;have HW1:=hY hw1;have HAL:=hY hal;have HG1:=hY (HG0.out.new hal);have HK:=hY hk;clear htot hna hng hcount hcg hca hal hk hw1;go_enter Tryz.func21,Tryz.ntmps21;go_upto_region 1 with fail;rw [HW1.out];have b1:w1.cell? ⟨w.heap.size,1,none⟩=some (.slice Aa na ka):=HK.out.cell 1;go_wp2_with fail;go_loop [3,4] (fun t3 t4=>∃ i S:Nat,i≤ng∧t4=.int .i64 (i:Int)∧t3=.int .i64 (S:Int)∧S≤tot∧Hid (S=na+((stages.take i).map fun g=>g.ms.length).sum)) (fun _ t4=>ng - (intOf t4).toNat)
 case atStart=>exact ⟨0,na,by omega,rfl,rfl,hna6,hY (by simp)⟩
 case round =>
  obtain ⟨i,S,hi,rfl,rfl,hS,HS⟩:=hrel;have j0:(0:Int)≤(i:Int):=by omega
  rcases Jh i ng with hin | hin
  · have i0:decide ((i:Int)<(ng:Int))=true:=dT (by omega);have i1:(i:Int)<(ng:Int):=by omega
    have hil:i<stages.length:=by have:=HNG.out;omega
    have hX:=HG1.out;rw [←HNG.out] at hX;obtain ⟨g,o,c,G,A,k,hv,hGe,hvs,-,c0,c1,c2,c3⟩:=z7 hX hil;injection hv with hA _ hcc;subst hA hcc;have b2:w1.cell? ⟨w.heap.size,2,none⟩=some (.slice (some ⟨g,o,none⟩) ng kg):=HK.out.cell 2;have HS2:Hid (S+G.ms.length=na+((stages.take (i+1)).map fun g=>g.ms.length).sum):=hY (by have:=HS.out;rw [Zw stages i hil,hGe];omega);have hS2:S+G.ms.length≤tot:=by have h1:=yq stages (i+1);have h2:=HS2.out;have h3:=HC.out;omega
    clear hX hGe hvs hil c0 c1 c2;go_wp2_with fail;go_round
    case rel=>exact ⟨i+1,S+G.ms.length,by omega,by go_num,by go_num,hS2,HS2⟩
    case measure=>simp [intOf];omega
  · have i0:decide ((i:Int)<(ng:Int))=false:=dF (by omega);have b2:w1.cell? ⟨w.heap.size,2,none⟩=some (.slice Ag ng kg):=HK.out.cell 2;obtain rfl:S=tot:=by have h1:=HS.out;have h2:=HC.out;rw [List.take_of_length_le (by have:=HNG.out;omega)] at h1;omega
    go_wp2_with fail;go_ret;exact ⟨rfl,HAL.out⟩
end Go.Proofs.YtdaejggcjjdhkaaGreatDoor
namespace Go.Proofs.YtdaejggcjjdhkaaGreatDoor
open Go.RowKit

def UU (k n:Int):Int:=if n<1 then 0 else if k.tmod n<0 then k.tmod n+n else k.tmod n
theorem VG (k n:Int) (h:1≤n):0≤UU k n∧UU k n<n:=by
 have h1:=Int.tmod_lt_of_pos k (show 0<n by omega);have h2:=Int.lt_tmod_of_pos k (show 0<n by omega);unfold UU;rw [if_neg (by omega)]
 split <;> omega
theorem QO (k n:Int) (hn:n≤1000000000) (h1:1≤n) (hk1:-9223372036854775808≤k) (hk2:k≤9223372036854775807) (w:World):
  Calls Tryz.prog 25 #[.int .i64 k,.int .i64 n] w fun e w'=>e=.returned (.int .i64 (UU k n))∧w=w':=by
 have b1:=Int.tmod_lt_of_pos k (show 0<n by omega);have b2:=Int.lt_tmod_of_pos k (show 0<n by omega);have hw:IntKind.i64.wrap (k.tmod n)=k.tmod n:=IntWalk.i64_in _ (by omega);have HD:Hid (UU k n=if n<1 then 0 else if k.tmod n<0 then k.tmod n+n else k.tmod n):=hY rfl;rcases (show 0≤k∨k<0 by omega) with hk | hk
 · have e1:k.tmod n=k % n:=Int.tmod_eq_emod_of_nonneg hk;rw [e1] at b1 b2 hw HD;have hp:0≤k % n:=Int.emod_nonneg _ (by omega);clear e1;go_enter Tryz.func25,Tryz.ntmps25;go_wp2_with fail
   all_goals go_ret
   all_goals refine ⟨?_,rfl⟩
   all_goals rw [HD.out,if_neg (by omega),if_neg (by omega)]
   all_goals rfl
 · rcases (show k.tmod n<0∨0≤k.tmod n by omega) with hp | hp
   all_goals
    go_enter Tryz.func25,Tryz.ntmps25;go_wp2_with fail;go_ret;refine ⟨?_,rfl⟩;rw [HD.out,if_neg (by omega)]
    first | rw [if_pos (by omega)] | rw [if_neg (by omega)]
    rfl
end Go.Proofs.YtdaejggcjjdhkaaGreatDoor
namespace Go.Proofs.YtdaejggcjjdhkaaGreatDoor
open Go Go.RowKit
namespace Ck
def pg (ed:Bool) (c:UInt8):Bool:=edge c||(!ed&&(c==46||c==95||c==45))
def goP:Bool→List UInt8→Bool
 | _,[]=>true
 | z,c::r=>pg (z||r.isEmpty) c&&goP false r
theorem Ux:∀ (r:List UInt8),goP false r=(r.all (fun c=>edge c||c==46||c==95||c==45)&&(r.isEmpty||r.getLast?.any edge))
 | []=>rfl
 | [c]=>by show (pg true c&&true)=_;unfold pg;simp;cases edge c <;> simp
 | c::d::r=>by
  have ih:=Ux (d::r);have e1:(c::d::r).all (fun c=>edge c||c==46||c==95||c==45)=((edge c||c==46||c==95||c==45)&&(d::r).all (fun c=>edge c||c==46||c==95||c==45)):=List.all_cons;rw [goP,ih,List.getLast?_cons_cons,e1];generalize (d::r).all (fun c=>edge c||c==46||c==95||c==45)=A;generalize (d::r).getLast?.any edge=B;show (pg false c&&(A&&(false||B)))=(((edge c||c==46||c==95||c==45)&&A)&&(false||B))
  unfold pg;cases edge c <;> cases (c==46) <;> cases (c==95) <;> cases (c==45) <;> cases A <;> cases B <;> rfl
theorem piece_go (p:List UInt8):pieceR p=(goP true p&&!p.isEmpty):=by
 cases p with
 | nil=>rfl
 | cons c r =>
  unfold pieceR;rw [goP,Ux,List.all_cons];show (_&&_&&_)=(pg true c&&_&&_)
  unfold pg;cases r with
  | nil=>cases he:edge c <;> simp [he]
  | cons d r =>rw [List.getLast?_cons_cons];simp only [List.head?_cons,Option.any_some,List.isEmpty_cons,Bool.false_or,Bool.not_true,Bool.false_and,Bool.or_false,Bool.not_false,Bool.and_true];cases edge c <;> simp
end Ck
theorem WQ (s:List UInt8) (hs:s.length≤2000000) (w:World) {b:Bool} (H:Hid (Ck.pieceR s=b)):Calls Tryz.prog 107 #[.string (bs s)] w fun e w'=>e=.returned (.bool b)∧w=w':=by
 have hz:=zd s;have HZ:=hY hz;have hs2:(bs s).size≤2000000:=by omega
 obtain ⟨n0,en⟩:∃ n0,(bs s).toList.isEmpty=n0:=⟨_,rfl⟩
 have H0:Hid ((Ck.goP true (s.drop 0)&&!n0)=b):=by show _=_;rw [Jw,←en,zh,←H.out,Ck.piece_go]
 clear hz H;go_enter Tryz.func107,Tryz.ntmps107;go_wp2_with fail;go_loopw [3,4] (fun t3 _ wr=>∃ i:Nat,i≤(bs s).size∧t3=.int .i64 (i:Int)∧Hid ((Ck.goP (i==0) (s.drop i)&&!n0)=b)∧w=wr) (fun t3 _ _=>(bs s).size - (intOf t3).toNat)
 case atStart=>exact ⟨0,by omega,rfl,H0,by trivial⟩
 case round =>
  clear H0;obtain ⟨i,hi,rfl,HR,rfl⟩:=hrel;have j0:(0:Int)≤(i:Int):=by omega
  rcases Jh i (bs s).size with hin | hin
  · have i0:decide ((i:Int)<((bs s).size:Int))=true:=dT (by omega);have i1:(i:Int)<((bs s).size:Int):=by omega
    have hil:i<s.length:=by rw [←HZ.out];exact hin
    have hR:=HR.out;rw [Js hil,show s[i]=(bs s)[i]'hin from rfl,Ck.goP] at hR;obtain ⟨c,hc⟩:∃ c,(bs s)[i]'hin=c:=⟨_,rfl⟩
    rw [hc] at hR;have hby:c.toNat<256:=Jm _;obtain ⟨l,hl⟩:∃ l,Hid (Ck.small c=l):=⟨_,hY rfl⟩
    obtain ⟨d,hd⟩:∃ d,Hid (Ck.digit c=d):=⟨_,hY rfl⟩
    obtain ⟨x,e1⟩:∃ x,((c.toNat:Int) != 95)=x:=⟨_,rfl⟩
    obtain ⟨m,e2⟩:∃ m,((c.toNat:Int) != 46)=m:=⟨_,rfl⟩
    obtain ⟨n,e3⟩:∃ n,((c.toNat:Int) != 45)=n:=⟨_,rfl⟩
    obtain ⟨z,e4⟩:∃ z,(i==0)=z:=⟨_,rfl⟩
    have e5:((i:Int)==0)=z:=by rw [←e4,Jz,Jx,Jx];omega
    obtain ⟨y,e6⟩:∃ y,((i:Int)==((bs s).size:Int) - 1)=y:=⟨_,rfl⟩
    have hwr:IntKind.i64.wrap (((bs s).size:Int) - 1)=((bs s).size:Int) - 1:=IntWalk.i64_in _ (by omega);obtain ⟨q,hq⟩:∃ q,(!l&&!d&&(z||y||(m&&x&&n)))=q:=⟨_,rfl⟩
    have hT:Ck.pg ((i==0)||(s.drop (i+1)).isEmpty) c=!q:=by
     have f1:(c==95)=!x:=by rw [←e1,show (95:Int)=(((95:UInt8).toNat:Nat):Int) from rfl,zO,Bool.not_not]
     have f2:(c==46)=!m:=by rw [←e2,show (46:Int)=(((46:UInt8).toNat:Nat):Int) from rfl,zO,Bool.not_not]
     have f3:(c==45)=!n:=by rw [←e3,show (45:Int)=(((45:UInt8).toNat:Nat):Int) from rfl,zO,Bool.not_not]
     have f4:(s.drop (i+1)).isEmpty=y:=by rw [←e6,Jz,List.isEmpty_iff,List.drop_eq_nil_iff,Jx];have:=HZ.out;omega
     unfold Ck.pg Ck.edge;rw [hl.out,hd.out,f1,f2,f3,f4,e4,←hq];cases l <;> cases d <;> cases x <;> cases m <;> cases n <;> cases z <;> cases y <;> rfl
    rw [hT] at hR;have HQ:=hY hq;have HN:=hY hR;clear hR HR hq hil hT;go_upto_region 4 with fail;go_cut [4] (fun s4 wx=>s4=.bool (z||y)∧w=wx)
    case first =>
     clear HN;cases z <;> cases y <;> (
      go_wp2_with fail;go_meet;exact ⟨by trivial,by trivial⟩)
    case rest =>
     obtain ⟨rfl,rfl⟩:=hcut;obtain ⟨ed,hed⟩:∃ ed,(z||y)=ed:=⟨_,rfl⟩
     have HQ2:Hid ((!l&&!d&&(ed||(m&&x&&n)))=q):=by show _=_;rw [←hed];exact HQ.out
     rw [hed];clear HQ hed e4 e5 e6 hwr;have HQ:=HQ2;clear HQ2;go_upto_region 5 with fail;go_cut [52] (fun s52 wx=>s52=.bool q∧w=wx)
     case first =>
      clear HN;cases l with
      | true =>
       cases ed <;> (
        go_wp2_with fail;refine (zW c _ hl).mono ?_;rintro r w1 ⟨rfl,rfl⟩;go_wp2_with fail;go_meet;exact ⟨by rw [←HQ.out];rfl,by trivial⟩)
      | false =>
       cases d with
       | true =>
        cases ed <;> (
         go_wp2_with fail;refine (zW c _ hl).mono ?_;rintro r w1 ⟨rfl,rfl⟩;go_wp2_with fail;refine (zL c _ hd).mono ?_;rintro r w1 ⟨rfl,rfl⟩;go_wp2_with fail;go_meet;exact ⟨by rw [←HQ.out];rfl,by trivial⟩)
       | false =>
        cases ed <;> cases m <;> cases x <;> cases n <;> (
         go_wp2_with fail;refine (zW c _ hl).mono ?_;rintro r w1 ⟨rfl,rfl⟩;go_wp2_with fail;refine (zL c _ hd).mono ?_;rintro r w1 ⟨rfl,rfl⟩;go_wp2_with fail;go_meet;exact ⟨by rw [←HQ.out];rfl,by trivial⟩)
     case rest =>
      obtain ⟨rfl,rfl⟩:=hcut;clear e1 e2 e3 HQ hl hd;have hN:=HN.out;cases q with
      | true =>
       have HF:Hid (b=false):=by show _=_;rw [←hN];rfl
       clear hN HN;go_wp2_with fail;go_ret;exact ⟨by rw [HF.out];rfl,by trivial⟩
      | false =>
       have HF:Hid ((Ck.goP (i+1==0) (s.drop (i+1))&&!n0)=b):=by show _=_;rw [←hN];rfl
       clear hN HN;go_wp2_with fail;go_roundw
       case rel=>exact ⟨i+1,by omega,by go_num,HF,by trivial⟩
       case measure=>simp [intOf];omega
  · have i0:decide ((i:Int)<((bs s).size:Int))=false:=dF (by omega);have hil:s.length≤i:=by rw [←HZ.out];exact hin
    have HF:Hid (b=!n0):=by show _=_;rw [←HR.out,Jt hil];rfl
    clear HR hil;cases n0 <;> (
     go_wp2_with fail;go_ret;exact ⟨by rw [HF.out];rfl,by trivial⟩)
namespace Ck
def glue (cur:List UInt8) (L:List (List UInt8)):List (List UInt8):=(cur++L.headD [])::L.tail
theorem glue_nil (k:UInt8) (s:List UInt8):glue [] (Gl.cutL k s)=Gl.cutL k s:=by rw [Gl.cutL_ne k s];rfl
theorem glue_end (k:UInt8) (cur:List UInt8):glue cur (Gl.cutL k [])=[cur]:=by show (cur++[])::[]=_;rw [Kw]
theorem glue_hit (k:UInt8) (cur r:List UInt8):glue cur (Gl.cutL k (k::r))=cur::glue [] (Gl.cutL k r):=by rw [glue_nil,Gl.cutL,if_pos rfl];show (cur++[])::Gl.cutL k r=_;rw [Kw]
theorem glue_go (k:UInt8) (cur r:List UInt8) {c:UInt8} (h:¬ c=k):glue cur (Gl.cutL k (c::r))=glue (cur++[c]) (Gl.cutL k r):=by rw [Gl.cutL,if_neg h];show (cur++c::(Gl.cutL k r).headD [])::(Gl.cutL k r).tail=(cur++[c]++(Gl.cutL k r).headD [])::(Gl.cutL k r).tail;rw [Kv];rfl
end Ck
end Go.Proofs.YtdaejggcjjdhkaaGreatDoor
namespace Go.Proofs.YtdaejggcjjdhkaaGreatDoor
open Go Go.ChangeShapes Go.WideShapes Go.RowKit Go.Deep
theorem jg {H:Type} (d:DataW H):1≤Rows.uptoBulk d:=by cases d <;> first | (simp only [Rows.uptoBulk];omega) | (rename_i l;cases l <;> simp only [Rows.uptoBulk] <;> omega)
def StLe (N:Nat) (s:Ck.St):Prop:=s.words.length+s.exec.length+s.pairs.length+s.docs.length≤N∧∀ t∈Ck.textsL s,t.length≤N
theorem StLe.mono {N M:Nat} {s:Ck.St} (h:StLe N s) (hm:N≤M):StLe M s:=⟨Jg h.1 hm,fun t ht=>Jg (h.2 t ht) hm⟩
instance:Inhabited Ck.Pr:=⟨⟨[],[]⟩⟩
instance:Inhabited Lx.Dc:=⟨⟨[],false,0,[]⟩⟩
structure StO (H:Type) (W:World) where
 m:SM
 d:DataW H
 ok:m.Ok W
 le:StLe (Rows.uptoBulk d) m.s
instance {H:Type} {W:World}:Inhabited (StO H W):=⟨⟨⟨⟨0,0,[],[],false,[],false,[],[],[]⟩,.slice none 0 0,.slice none 0 0,.slice none 0 0,.slice none 0 0⟩,.nil,⟨SlA.none W,SlA.none W,SlA.none W,SlA.none W,fun A n c e=>WK e (Jd _)⟩,Nat.zero_le _,fun t ht=>by have:t∈([[],[]]:List (List UInt8)):=ht;simp at this;subst this;exact Nat.zero_le _⟩⟩
structure SgO (H:Type) (W:World) where
 g:GM
 d:DataW H
 st:StsA W g.vs g.ms
 base:g.base.length≤Rows.uptoBulk d
 name:g.name.length≤Rows.uptoBulk d
 len:g.ms.length+1≤Rows.uptoBulk d
 le:∀ m∈g.ms,StLe (Rows.uptoBulk d) m.s
instance {H:Type} {W:World}:Inhabited (SgO H W):=⟨⟨⟨0,[],[],.slice none 0 0,[]⟩,.nil,⟨SlA.none W,fun m hm=>by cases hm⟩,Nat.zero_le _,Nat.zero_le _,jg _,fun m hm=>by cases hm⟩⟩
def FlLe (N:Nat) (f:FM):Prop:=(∀ m∈f.args,StLe N m.s)∧(∀ g∈f.stages,g.base.length≤N∧g.name.length≤N∧∀ m∈g.ms,StLe N m.s)∧f.stages.length+(f.args.length+(f.stages.map fun g=>g.ms.length).sum)≤N
end Go.Proofs.YtdaejggcjjdhkaaGreatDoor
namespace Go.Proofs.YtdaejggcjjdhkaaGreatDoor
open Go Go.RowKit
theorem Zy {s:Ck.St} (h:StLe 1048576 s):s.Small:=⟨Jg h.1 (by decide),fun t ht=>Jg (h.2 t ht) (by decide)⟩
theorem jd {f:FM} (h:FlLe 1048576 f):f.stages.length+Ck.countL f.fl≤1049000:=by rw [yg];have:=h.2.2;omega
theorem Yd {f:FM} (h:FlLe 1048576 f):f.fl.Small:=⟨fun s hs=>by
  obtain ⟨m,hm,rfl⟩:=List.mem_map.1 hs;exact Zy (h.1 m hm),fun g hg=>by
  obtain ⟨G,hG,rfl⟩:=List.mem_map.1 hg;obtain ⟨h1,h2,h3⟩:=h.2.1 G hG;exact ⟨Jg h1 (by decide),Jg h2 (by decide),fun s hs=>by obtain ⟨m,hm,rfl⟩:=List.mem_map.1 hs;exact Zy (h3 m hm)⟩,by
  have:=jd h;rw [show f.fl.stages.length=f.stages.length from Jo _];omega⟩
end Go.Proofs.YtdaejggcjjdhkaaGreatDoor
