/- CkFx, CkZh -/
import Derived.Test.YtdaejggcjjdhkaaGreatDoorCkFw
import Derived.Test.YtdaejggcjjdhkaaGreatDoorMkN
import Derived.Test.YtdaejggcjjdhkaaGreatDoorCkV
import Derived.Test.YtdaejggcjjdhkaaGreatDoorCkWk
import Derived.Test.YtdaejggcjjdhkaaGreatDoorMkI
set_option maxHeartbeats 2000000
set_option maxRecDepth 100000
namespace Go.Proofs.YtdaejggcjjdhkaaGreatDoor
open Go Go.RowKit
def SomeB (w:World) (r:Ending) (w':World):Prop:=∃ b:Bool,r=.returned (.bool b)∧Below w.heap.size w w'
theorem Q0 {x:Nat}:∀ {l:List Nat},x∈l→x≤l.sum
 | [],h=>by cases h
 | y::r,h=>by
  rw [List.sum_cons];rcases Kn.1 h with rfl | h
  · omega
  · have:=Q0 h;omega
theorem Yl (f:FM) (w:World) (hok:f.Ok w) (hsm:f.fl.Small):Calls Tryz.prog 10 #[.agg #[.int .u8 (f.escape.toNat:Int),f.va,f.vg]] w (SomeB w):=by
 obtain ⟨e,va,args,vg,stages⟩:=f;have hca:StsA w va args:=hok.a;have hcg:GsA w vg stages:=hok.g;dsimp only;obtain ⟨hsa,hsg,hsn⟩:=hsm;clear hok;obtain ⟨Aa,ka,rfl⟩:=hca.1.form;obtain ⟨Ag,kg,rfl⟩:=hcg.1.form;have hmf:∀ (fn:Fn) (first cap:Array Value) (w:World),(Instr.makeFunc fn first cap).run Tryz.prog w=.ok (.func fn first cap) w:=fun _ _ _ _=>rfl;have hsn':stages.length+args.length≤1050000:=by
  have h1:(FM.fl ⟨e,.slice Aa args.length ka,args,.slice Ag stages.length kg,stages⟩).stages.length=stages.length:=by rw [FM.fl,Jo]
  have h3:=yg ⟨e,.slice Aa args.length ka,args,.slice Ag stages.length kg,stages⟩;dsimp only at h3;omega
 have HA0:=hY hca;have HG0:=hY hcg;have HSA:Hid (∀ m∈args,m.s.Small):=hY fun m hm=>hsa _ (List.mem_map.2 ⟨m,hm,rfl⟩);have HSG:Hid (∀ g∈stages,∀ m∈g.ms,m.s.Small):=hY fun g hg m hm=>(hsg _ (List.mem_map.2 ⟨g,hg,rfl⟩)).2.2 _ (List.mem_map.2 ⟨m,hm,rfl⟩);have HLG:Hid (∀ g∈stages,g.ms.length≤1050000):=hY fun g hg=>by have h2:g.ms.length≤(stages.map fun g=>g.ms.length).sum:=Q0 (List.mem_map.2 ⟨g,hg,rfl⟩);have h3:=yg ⟨e,.slice Aa args.length ka,args,.slice Ag stages.length kg,stages⟩;dsimp only at h3;omega
 obtain ⟨na,hna⟩:∃ n,args.length=n:=⟨_,rfl⟩
 obtain ⟨ng,hng⟩:∃ n,stages.length=n:=⟨_,rfl⟩
 rw [hna,hng] at hsn';rw [hna] at HA0;rw [hng] at HG0;have HNA:=hY hna;have HNG:=hY hng;rw [hna,hng];clear hna hng hsn hca hcg hsa hsg;go_enter Tryz.func10,Tryz.ntmps10;go_upto_region 3 with fail;obtain ⟨w1,hw1⟩:∃ y,((((w.alloc (.cells #[.int .u8 (e.toNat:Int),.slice Aa na ka,.slice Ag ng kg] 25)).alloc (.cells #[.int .i64 ((ng:Int)+(na:Int))] 3)).alloc (.cells #[.int .i64 0] 3)).alloc (.cells #[.int .i64 0] 3))=y:=⟨_,rfl⟩
 have HB1:Hid (Below w.heap.size w w1):=hY (by rw [←hw1];exact ((((Ja w.heap.size w).alloc (Jd _) _).alloc (by simp only [Jb];omega) _).alloc (by simp only [Jb];omega) _).alloc (by simp only [Jb];omega) _);have HK1:Hid (Blk w1 w.heap.size 25 #[.int .u8 (e.toNat:Int),.slice Aa na ka,.slice Ag ng kg]):=hY (by rw [←hw1];exact (((Blk.new w _ _).alloc _).alloc _).alloc _);have HF1:Hid (FW (w.heap.size+1) (w.heap.size+1) (w.heap.size+1+1) (w.heap.size+1+1+1) w1 w1):=hY (by have q1:=Blk.new (w.alloc (.cells #[.int .u8 (e.toNat:Int),.slice Aa na ka,.slice Ag ng kg] 25)) 3 #[.int .i64 ((ng:Int)+(na:Int))];have q2:=Blk.new ((w.alloc (.cells #[.int .u8 (e.toNat:Int),.slice Aa na ka,.slice Ag ng kg] 25)).alloc (.cells #[.int .i64 ((ng:Int)+(na:Int))] 3)) 3 #[.int .i64 0];have q3:=Blk.new (((w.alloc (.cells #[.int .u8 (e.toNat:Int),.slice Aa na ka,.slice Ag ng kg] 25)).alloc (.cells #[.int .i64 ((ng:Int)+(na:Int))] 3)).alloc (.cells #[.int .i64 0] 3)) 3 #[.int .i64 0];simp only [Jb] at q1 q2 q3;rw [←hw1];exact ⟨Ja _ _,by simp only [Jb];omega,⟨_,(q1.alloc _).alloc _⟩,⟨_,q2.alloc _⟩,⟨_,q3⟩,by omega,by omega,by omega,by omega,by omega,by omega⟩);rw [hw1];clear hw1;have b1:w1.cell? ⟨w.heap.size,1,none⟩=some (.slice Aa na ka):=HK1.out.cell 1;go_wp2_with fail;refine (UG (w.heap.size+1) (w.heap.size+1+1) (w.heap.size+1+1+1) (w.heap.size+1) args _ w w1 HA0.out HB1.out (by omega) HF1.out (by rw [HNA.out];omega) HSA.out).mono ?_;rintro r w2 ⟨rfl,p2⟩;have HF2:=hY p2;clear p2 b1;go_wp2_with fail;go_loopw [7] (fun t7 wr=>∃ i:Nat,i≤ng∧t7=.int .i64 (i:Int)∧Hid (FW (w.heap.size+1) (w.heap.size+1) (w.heap.size+1+1) (w.heap.size+1+1+1) w1 wr)) (fun t7 _=>ng - (intOf t7).toNat)
 case atStart=>exact ⟨0,by omega,rfl,HF2⟩
 case round =>
  as_aux_lemma =>
  clear HF2 HF1;rename World=>wr;obtain ⟨i,hi,rfl,HF⟩:=hrel;have j0:(0:Int)≤(i:Int):=by omega
  have b2:wr.cell? ⟨w.heap.size,2,none⟩=some (.slice Ag ng kg):=(HK1.out.below HF.out.below (by omega)).cell 2;obtain ⟨z1,hz1⟩:=HF.out.i1;have e1:wr.cell? ⟨w.heap.size+1,0,none⟩=some (.int .i64 z1):=hz1.cell 0;have f1:=hz1.frozen 0;clear hz1;obtain ⟨z2,hz2⟩:=HF.out.i2;have e2:wr.cell? ⟨w.heap.size+1+1,0,none⟩=some (.int .i64 z2):=hz2.cell 0;have f2:=hz2.frozen 0;clear hz2;obtain ⟨z3,hz3⟩:=HF.out.i3;have e3:wr.cell? ⟨w.heap.size+1+1+1,0,none⟩=some (.int .i64 z3):=hz3.cell 0;have f3:=hz3.frozen 0;clear hz3;obtain ⟨a,ha⟩:∃ b,decide ((i:Int)<(ng:Int))=b:=⟨_,rfl⟩
  have ha1:decide (i<ng)=a:=by rw [←ha];rw [decide_eq_decide];omega
  obtain ⟨p1,hp1⟩:∃ b,decide (z1≤700)=b:=⟨_,rfl⟩
  obtain ⟨p2,hp2⟩:∃ b,decide (z2≤4096)=b:=⟨_,rfl⟩
  obtain ⟨p3,hp3⟩:∃ b,decide (z3≤262144)=b:=⟨_,rfl⟩
  obtain ⟨q,hq⟩:∃ q,Hid ((((a&&p1)&&p2)&&p3)=q):=⟨_,hY rfl⟩
  go_upto_region 5 with fail;go_cut [36] from 20 to 35 (fun sq wx=>sq=.bool q∧wr=wx)
  case first =>
   as_aux_lemma =>
   cases a <;> cases p1 <;> cases p2 <;> cases p3 <;> (
    go_wp2_with fail;go_meet;exact ⟨by rw [←hq.out];rfl,rfl⟩)
  case rest =>
   obtain ⟨rfl,rfl⟩:=hcut;cases q with
   | true =>
    have hin:i<ng:=by
     have h:=hq.out;cases a with
     | false=>cases h
     | true=>exact of_decide_eq_true ha1
    clear ha ha1 hp1 hp2 hp3 hq e2 f2;have i1:(i:Int)<(ng:Int):=by omega
    have hil:i<stages.length:=by have:=HNG.out;omega
    have hX:=HG0.out.new (HB1.out.trans (HF.out.below.mono (by omega)));rw [←HNG.out] at hX;obtain ⟨g,o,c,G,A,k,hv,hGe,hvs,-,c0,c1,c2,c3⟩:=z7 hX hil;injection hv with hA _ hcc;subst hA hcc;have HST:Hid (StsA w (.slice A G.ms.length k) G.ms):=hY (by have h:=HG0.out.2 _ (Jl hil);rw [hGe,hvs] at h;exact h);have hml:G.ms.length≤1050000:=by have h:=HLG.out _ (Jl hil);rw [hGe] at h;exact h
    have HSM:Hid (∀ m∈G.ms,m.s.Small):=hY (by have h:=HSG.out _ (Jl hil);rw [hGe] at h;exact h);have HC:Hid (∀ wx,FW (w.heap.size+1) (w.heap.size+1) (w.heap.size+1+1) (w.heap.size+1+1+1) w1 wx→wx.cell? ⟨g,o+i*4+1,none⟩=some (.string (bs G.base))∧wx.cell? ⟨g,o+i*4+2,none⟩=some (.string (bs G.name))∧wx.cell? ⟨g,o+i*4+3,none⟩=some (.slice A G.ms.length k)):=hY fun wx hx=>by have hX:=HG0.out.new (HB1.out.trans (hx.below.mono (by omega)));rw [←HNG.out] at hX;obtain ⟨g',o',c',G',A',k',hv',hGe',hvs',-,q0,q1,q2,q3⟩:=z7 hX hil;injection hv' with hA' _ _;injection hA' with hA';injection hA' with r1 r2;subst r1 r2;rw [hGe] at hGe';subst hGe';rw [hvs] at hvs';injection hvs' with s1 _ s3;subst s1 s3;exact ⟨q1,q2,q3⟩
    clear hX hGe hvs hil c0 c1 c2 c3;have c3:=(HC.out _ HF.out).2.2;clear f3 e3;go_upto_region 7 with fail;go_cut [] (fun wx=>Hid (FW (w.heap.size+1) (w.heap.size+1) (w.heap.size+1+1) (w.heap.size+1+1+1) w1 wx))
    case first =>
     as_aux_lemma =>
     go_still_tail 9,(by kernel_rfl)
     go_wp2_with fail;go_meet;exact hY (HF.out.drew.set1 _)
    case rest =>
     have HFn:=hcut;clear b2 e1 f1 c3 HF;rename World=>wn;have HF:=HFn;clear HFn hcut;have b2:wn.cell? ⟨w.heap.size,2,none⟩=some (.slice (some ⟨g,o,none⟩) ng kg):=(HK1.out.below HF.out.below (by omega)).cell 2;have c1:=(HC.out _ HF.out).1;have c2:=(HC.out _ HF.out).2.1;obtain ⟨z3,hz3⟩:=HF.out.i3;have e3:wn.cell? ⟨w.heap.size+1+1+1,0,none⟩=some (.int .i64 z3):=hz3.cell 0;have f3:=hz3.frozen 0;clear hz3;go_upto_region 8 with fail;go_cut [] (fun wx=>Hid (FW (w.heap.size+1) (w.heap.size+1) (w.heap.size+1+1) (w.heap.size+1+1+1) w1 wx))
     case first =>
      as_aux_lemma =>
      go_still_tail 17,(by kernel_rfl)
      go_wp2_with fail;go_meet;exact hY (HF.out.drew.set3 _)
     case rest =>
      have HFn:=hcut;clear b2 e3 f3 c1 c2 HF;rename World=>wm;have HF:=HFn;clear HFn hcut;have b2:wm.cell? ⟨w.heap.size,2,none⟩=some (.slice (some ⟨g,o,none⟩) ng kg):=(HK1.out.below HF.out.below (by omega)).cell 2;have c3:=(HC.out _ HF.out).2.2;go_wp2_with fail;refine (UG (w.heap.size+1) (w.heap.size+1+1) (w.heap.size+1+1+1) (w.heap.size+1) G.ms _ w wm HST.out (HB1.out.trans (HF.out.below.mono (by omega))) (by omega) { HF.out with below:=Ja _ _ } hml HSM.out).mono ?_;rintro r w5 ⟨rfl,p5⟩;have HF5:=hY (HF.out.trans p5);clear p5 b2 c3;go_wp2_with fail;go_roundw
      case rel=>first | exact ⟨i+1,by omega,by go_num,HF5⟩ | exact ⟨_,⟨i+1,by omega,by go_num,HF5⟩,rfl⟩
      case measure=>simp [intOf];omega
   | false =>
    clear ha ha1 hq;cases p1 <;> cases p2 <;> (
     go_wp2_with fail;go_ret;exact ⟨_,rfl,HB1.out.trans (HF.out.below.mono (by omega))⟩)
end Go.Proofs.YtdaejggcjjdhkaaGreatDoor
namespace Go.Proofs.YtdaejggcjjdhkaaGreatDoor
open Go Go.RowKit Go.Extern.Stop Go.Stop Go.Extern
theorem filP_is (x:Option (Nat × Int)):(Vc x).1=((QQ x:Nat):Int)∧∀ m l,x=some (m,l)→(Vc x).2=l:=by
 rcases x with _ | ⟨n,l⟩
 · exact ⟨rfl,fun m l h=>by cases h⟩
 · exact ⟨rfl,fun m l h=>by injection h with h;injection h with _ h⟩
theorem lawSteps (m:SM) (b:Bool) (w:World) (hm:m.Ok w) (hsm:m.s.Small) (hT:Tabs w) (hV:ErrVar w) (hM:Maxl w):
  Calls Tryz.prog 4 #[.agg #[.int .i64 m.s.op,.int .i64 m.s.line,.string (bs m.s.from_),.string (bs m.s.mode),.bool m.s.force,m.vp,.bool m.s.bare,m.vw,m.vd,m.ve],.bool b] w fun r w'=>r=.returned (.bool true)∧Below w.heap.size w w':=by
 have HT:=hY hT;have HV:=hY hV;have HM:=hY hM;clear hT hV hM;obtain ⟨s,vp,vw,vd,ve⟩:=m;obtain ⟨Ap,kp,e1⟩:=hm.cp.form;obtain ⟨Aw,kw,e2⟩:=hm.cw.form;obtain ⟨Ad,kd,e3⟩:=hm.cd.form;obtain ⟨Ae,ke,e4⟩:=hm.ce.form;dsimp only at e1 e2 e3 e4 hsm ⊢;subst e1 e2 e3 e4;have HOM:=hY hm;have HSM:=hY hsm;clear hm hsm;have HAL:=hY ((Ja w.heap.size w).alloc (Jd _) (.cells #[.int .i64 s.op,.int .i64 s.line,.string (bs s.from_),.string (bs s.mode),.bool s.force,.slice Ap s.pairs.length kp,.bool s.bare,.slice Aw s.words.length kw,.slice Ad s.docs.length kd,.slice Ae s.exec.length ke] 41));have HKM:=hY (Blk.new w 41 #[.int .i64 s.op,.int .i64 s.line,.string (bs s.from_),.string (bs s.mode),.bool s.force,.slice Ap s.pairs.length kp,.bool s.bare,.slice Aw s.words.length kw,.slice Ad s.docs.length kd,.slice Ae s.exec.length ke]);obtain ⟨w1,hw1⟩:∃ y,w.alloc (.cells #[.int .i64 s.op,.int .i64 s.line,.string (bs s.from_),.string (bs s.mode),.bool s.force,.slice Ap s.pairs.length kp,.bool s.bare,.slice Aw s.words.length kw,.slice Ad s.docs.length kd,.slice Ae s.exec.length ke] 41)=y:=⟨_,rfl⟩
 rw [hw1] at HAL HKM;have HW1:=hY hw1;clear hw1;go_enter Tryz.func4,Tryz.ntmps4;go_upto_region 1 with fail;rw [HW1.out];clear HW1;have c0:w1.cell? ⟨w.heap.size,0,none⟩=some (Value.int .i64 s.op):=HKM.out.cell 0;have c1:w1.cell? ⟨w.heap.size,1,none⟩=some (Value.int .i64 s.line):=HKM.out.cell 1;have c2:w1.cell? ⟨w.heap.size,2,none⟩=some (Value.string (bs s.from_)):=HKM.out.cell 2;have c3:w1.cell? ⟨w.heap.size,3,none⟩=some (Value.string (bs s.mode)):=HKM.out.cell 3;have c4:w1.cell? ⟨w.heap.size,4,none⟩=some (Value.bool s.force):=HKM.out.cell 4;have c5:w1.cell? ⟨w.heap.size,5,none⟩=some (Value.slice Ap s.pairs.length kp):=HKM.out.cell 5;have c6:w1.cell? ⟨w.heap.size,6,none⟩=some (Value.bool s.bare):=HKM.out.cell 6;have c7:w1.cell? ⟨w.heap.size,7,none⟩=some (Value.slice Aw s.words.length kw):=HKM.out.cell 7;have c8:w1.cell? ⟨w.heap.size,8,none⟩=some (Value.slice Ad s.docs.length kd):=HKM.out.cell 8;have c9:w1.cell? ⟨w.heap.size,9,none⟩=some (Value.slice Ae s.exec.length ke):=HKM.out.cell 9;go_wp2_with fail;refine (X7 (⟨s,.slice Ap s.pairs.length kp,.slice Aw s.words.length kw,.slice Ad s.docs.length kd,.slice Ae s.exec.length ke⟩:SM) b w1 (HOM.out.new HAL.out)).mono ?_;rintro r w3 ⟨⟨e1,va1,ar1,vg1,st1⟩,hr,ok1,q1,p3⟩;obtain rfl:r=.returned (.agg #[.int .u8 (e1.toNat:Int),va1,vg1]):=hr;obtain ⟨Aa,ka,ea⟩:=ok1.a.1.form;obtain ⟨Ag,kg,eg⟩:=ok1.g.1.form;dsimp only at ea eg;subst ea eg;have OK3:=hY ok1;have SM3:Hid ((FM.fl (⟨e1,.slice Aa ar1.length ka,ar1,.slice Ag st1.length kg,st1⟩:FM)).Small):=hY (by rw [q1];exact Ck.small_one HSM.out _);have HB3:=hY (za HAL.out p3 HAL.out.size);clear ok1 q1 p3 HKM HAL HOM HSM c0 c1 c2 c3 c4 c5 c6 c7 c8 c9
 have hb4:=(Ja w3.heap.size w3).alloc (Jd _) (.cells #[.int .u8 (e1.toNat:Int),.slice Aa ar1.length ka,.slice Ag st1.length kg] 25);have OK4:=hY (OK3.out.new hb4);have HB4:=hY (za HB3.out hb4 HB3.out.size);have HF4:=hY (Blk.new w3 25 #[.int .u8 (e1.toNat:Int),.slice Aa ar1.length ka,.slice Ag st1.length kg]);go_upto_region 2 with fail;obtain ⟨w4,hw4⟩:∃ y,w3.alloc (.cells #[.int .u8 (e1.toNat:Int),.slice Aa ar1.length ka,.slice Ag st1.length kg] 25)=y:=⟨_,rfl⟩
 obtain ⟨Z,hZ⟩:∃ Z,w3.heap.size=Z:=⟨_,rfl⟩
 rw [hw4] at OK4 HB4 HF4;rw [hZ] at HF4;rw [hw4,hZ];clear hw4 hZ hb4 OK3 HB3;have b0:w4.cell? ⟨Z,0,none⟩=some (.int .u8 (e1.toNat:Int)):=HF4.out.cell 0;have b1:w4.cell? ⟨Z,1,none⟩=some (.slice Aa ar1.length ka):=HF4.out.cell 1;have b2:w4.cell? ⟨Z,2,none⟩=some (.slice Ag st1.length kg):=HF4.out.cell 2;go_wp2_with fail;refine (Yl (⟨e1,.slice Aa ar1.length ka,ar1,.slice Ag st1.length kg,st1⟩:FM) w4 OK4.out SM3.out).mono ?_;rintro r w5 ⟨t1,rfl,p5⟩;have OK5:=hY (OK4.out.new p5);have HB5:=hY (za HB4.out p5 HB4.out.size);have HF5:=hY (HF4.out.below p5 HF4.out.lt);clear p5 OK4 HB4 HF4 b0 b1 b2;cases t1 with
 | false =>go_wp2_with fail;go_ret;exact ⟨rfl,HB5.out⟩
 | true =>
  have b0:w5.cell? ⟨Z,0,none⟩=some (.int .u8 (e1.toNat:Int)):=HF5.out.cell 0;have b1:w5.cell? ⟨Z,1,none⟩=some (.slice Aa ar1.length ka):=HF5.out.cell 1;have b2:w5.cell? ⟨Z,2,none⟩=some (.slice Ag st1.length kg):=HF5.out.cell 2;obtain ⟨x,HX⟩:∃ x,Hid (Ck.fileL (FM.fl (⟨e1,.slice Aa ar1.length ka,ar1,.slice Ag st1.length kg,st1⟩:FM))=x):=⟨_,hY rfl⟩
  obtain ⟨hp1,hp2⟩:=filP_is x;obtain ⟨n,hn⟩:∃ n,QQ x=n:=⟨_,rfl⟩
  obtain ⟨l,hl⟩:∃ l,(Vc x).2=l:=⟨_,rfl⟩
  have HC18:=hY (Xb (⟨e1,.slice Aa ar1.length ka,ar1,.slice Ag st1.length kg,st1⟩:FM) w5 OK5.out SM3.out HX);rw [hp1,hl,hn] at HC18;rw [hl] at hp2;have HN:=hY hn;have HP2:=hY hp2;have HOKN:Hid (jX x):=hY (by rw [←HX.out];exact Ck.file_ok _);clear hn hp1 hl hp2;go_wp2_with fail;refine HC18.out.mono ?_;rintro r w6 ⟨rfl,p6⟩;clear HC18;have OK6:=hY (OK5.out.new p6);have HB6:=hY (za HB5.out p6 HB5.out.size);have HF6:=hY (HF5.out.below p6 HF5.out.lt);clear p6 OK5 HB5 HF5 b0 b1 b2;have b0:w6.cell? ⟨Z,0,none⟩=some (.int .u8 (e1.toNat:Int)):=HF6.out.cell 0;have b1:w6.cell? ⟨Z,1,none⟩=some (.slice Aa ar1.length ka):=HF6.out.cell 1;have b2:w6.cell? ⟨Z,2,none⟩=some (.slice Ag st1.length kg):=HF6.out.cell 2;have HCF:=hY (zN (⟨e1,.slice Aa ar1.length ka,ar1,.slice Ag st1.length kg,st1⟩:FM) w6 OK6.out SM3.out (HT.out.new HB6.out) (HM.out.grow HB6.out) (HV.out.below HB6.out HV.out.lt) HX);go_wp2_with fail;refine HCF.out.mono ?_;rintro r w7 ⟨rfl,p7⟩;have HB7:=hY (za HB6.out p7 HB6.out.size);clear p7 HCF b0 b1 b2 HF6 OK6 HB6;obtain ⟨fv,hfv⟩:∃ y,Zf x=y:=⟨_,rfl⟩
  have HTD:=hY (XT x HOKN.out n HN.out l HP2.out w7 (HV.out.below HB7.out HV.out.lt));rw [hfv] at HTD;rw [hfv];clear hfv;go_wp2_with fail;refine HTD.out.mono ?_;rintro r w8 ⟨rfl,p8⟩;have HB8:=hY (za HB7.out p8 HB7.out.size);clear p8 HTD HB7;have HWK:=hY (zU w8 (HT.out.new HB8.out) (HV.out.below HB8.out HV.out.lt) (HM.out.grow HB8.out));go_wp2_with fail;refine HWK.out.mono ?_;rintro r w9 ⟨rfl,p9⟩;have HB9:=hY (za HB8.out p9 HB8.out.size);clear p9 HWK HB8;go_wp2_with fail;go_ret;exact ⟨rfl,HB9.out⟩
end Go.Proofs.YtdaejggcjjdhkaaGreatDoor
