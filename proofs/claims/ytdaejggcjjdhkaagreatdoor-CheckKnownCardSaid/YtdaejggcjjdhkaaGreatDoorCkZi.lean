/- CkFi, CkUo, CkZi -/
import Derived.Test.YtdaejggcjjdhkaaGreatDoorMkB
import Derived.Test.YtdaejggcjjdhkaaGreatDoorCkV
import Derived.Test.YtdaejggcjjdhkaaGreatDoorMkI
import Derived.Test.YtdaejggcjjdhkaaGreatDoorCkWi
import Derived.Test.YtdaejggcjjdhkaaGreatDoorMkN
import Derived.Test.YtdaejggcjjdhkaaGreatDoorCkLk
import Derived.Test.YtdaejggcjjdhkaaGreatDoorCkFx
import Derived.Test.YtdaejggcjjdhkaaGreatDoorCkWk
set_option maxHeartbeats 2000000
set_option maxRecDepth 100000
namespace Go.Proofs.YtdaejggcjjdhkaaGreatDoor
open Go Go.RowKit
namespace Ck
theorem numA_snoc:∀ (l:List St) (n:Int) (s:St),numA n (l++[s])=numA n l++[{ s with line:=n+l.length+1 }]
 | [],n,s=>by simp [numA]
 | x::r,n,s=>by rw [List.cons_append,numA,numA_snoc r (n+1) s,numA,List.cons_append];simp only [Ji];rw [show n+1+(r.length:Int)+1=n+((r.length+1:Nat):Int)+1 by omega]
def tot (l:List Sg):Nat:=(l.map fun g=>g.steps.length+1).sum
theorem tot_snoc (l:List Sg) (g:Sg):tot (l++[g])=tot l+(g.steps.length+1):=by simp [tot]
theorem Yc (l:List Sg) (g:Sg):tot (g::l)=g.steps.length+1+tot l:=by simp [tot]
theorem numG_snoc:∀ (l:List Sg) (n:Int) (g:Sg),numG n (l++[g])=numG n l++[⟨n+tot l+1,g.base,g.name,numA (n+tot l+1) g.steps⟩]
 | [],n,g=>by simp [numG,tot]
 | x::r,n,g=>by
  have h:n+1+(x.steps.length:Int)+(tot r:Int)=n+(tot (x::r):Int):=by rw [Yc];omega
  rw [List.cons_append,numG,numG_snoc r _ g,numG,List.cons_append,h]
theorem tot_eq (f:Fl):tot f.stages+f.args.length=f.stages.length+countL f:=by
 unfold tot countL;have:∀ l:List Sg,(l.map fun g=>g.steps.length+1).sum=l.length+(l.map (·.steps.length)).sum:=fun l=>by
  induction l with
  | nil=>rfl
  | cons x r ih=>simp only [List.map_cons,List.sum_cons,Ji];omega
 rw [this];omega
theorem ZE:∀ {l:List St} {n:Int} {t:St},t∈numA n l→(∃ s∈l,t={ s with line:=t.line })∧n<t.line∧t.line≤n+l.length
 | [],_,_,h=>by cases h
 | x::r,n,t,h=>by
  rw [numA] at h;rcases Kn.1 h with rfl | h
  · exact ⟨⟨x,by simp,rfl⟩,by show n<n+1;omega,by show n+1≤_;rw [Ji];omega⟩
  · obtain ⟨⟨s,hs,e⟩,h1,h2⟩:=ZE h;exact ⟨⟨s,by simp [hs],e⟩,by omega,by rw [Ji];omega⟩
theorem Y1:∀ {l:List Sg} {n:Int} {t:Sg},t∈numG n l→(∃ s∈l,t.base=s.base∧t.name=s.name∧∃ m,t.steps=numA m s.steps)∧(n<t.line∧t.line≤n+tot l)∧∀ x∈t.steps,n<x.line∧x.line≤n+tot l
 | [],_,_,h=>by cases h
 | x::r,n,t,h=>by
  rw [numG] at h;rcases Kn.1 h with rfl | h
  · refine ⟨⟨x,by simp,rfl,rfl,_,rfl⟩,⟨by show n<n+1;omega,by show n+1≤_;rw [Yc];omega⟩,fun y hy=>?_⟩;obtain ⟨_,h1,h2⟩:=ZE (show y∈numA (n+1) x.steps from hy);rw [Yc];omega
  · obtain ⟨⟨s,hs,e⟩,h1,h2⟩:=Y1 h;rw [Yc];exact ⟨⟨s,by simp [hs],e⟩,by omega,fun y hy=>by have:=h2 y hy;omega⟩
theorem XC (f:Fl):countL (numbered f)=countL f:=by show (numA 0 f.args).length+((numG f.args.length f.stages).map (·.steps.length)).sum=_;rw [Yk,Y0];rfl
theorem YQ {s:St} (h:s.Small) (n:Int):St.Small { s with line:=n }:=h
theorem small_numbered {f:Fl} (h:f.Small):(numbered f).Small:=by
 obtain ⟨h1,h2,h3⟩:=h;refine ⟨fun t ht=>?_,fun g hg=>?_,?_⟩
 · obtain ⟨⟨s,hs,e⟩,_⟩:=ZE ht;rw [e];exact YQ (h1 s hs) _
 · obtain ⟨⟨s,hs,e1,e2,m,e3⟩,_⟩:=Y1 hg;obtain ⟨q1,q2,q3⟩:=h2 s hs;refine ⟨by rw [e1];exact q1,by rw [e2];exact q2,fun t ht=>?_⟩;rw [e3] at ht;obtain ⟨⟨x,hx,e⟩,_⟩:=ZE ht;rw [e];exact YQ (q3 x hx) _
 · rw [XC];show (numG f.args.length f.stages).length+countL f≤1050000;rw [numG_len];exact h3
theorem small_upTo {f:Fl} (b:Int) (h:f.Small) (h0:1≤f.stages.length):(upTo b f).Small:=by
 obtain ⟨h1,h2,h3⟩:=h;have ha:(upSt b f.args).length≤f.args.length:=(List.filter_sublist).length_le;have hl:(upG b f.stages).length≤f.stages.length:=by unfold upG;rw [Jo];exact (List.filter_sublist).length_le
 have hs:=Vu b f.stages;unfold countL at h3;refine ⟨fun t ht=>h1 t (List.mem_filter.1 ht).1,fun g hg=>?_,?_⟩
 · unfold upTo at hg;dsimp only at hg
   split at hg
   · rw [Jv] at hg;subst hg;exact ⟨(by show scratch.length≤1050000;decide),Nat.zero_le _,fun t ht=>by cases ht⟩
   · unfold upG at hg;obtain ⟨s,hs,rfl⟩:=List.mem_map.1 hg;obtain ⟨q1,q2,q3⟩:=h2 s (List.mem_filter.1 hs).1;exact ⟨q1,q2,fun t ht=>q3 t (List.mem_filter.1 ht).1⟩
 · unfold upTo countL;dsimp only
   split
   · simp only [Ji,Jp,List.map_cons,List.map_nil,List.sum_cons,List.sum_nil];omega
   · omega
theorem num_line {f:Fl} (he:f.escape=92∨f.escape=96) (h1:f.stages≠[]) (h2:f.stages.length≤32) (h3:countL f≤512) {k:Nat} {l:Int} (h:fileL (numbered f)=some (k,l)):1≤l∧l≤((f.args.length+tot f.stages:Nat):Int):=by
 have he':¬ ((numbered f).escape≠92∧(numbered f).escape≠96):=by rcases he with h | h <;> simp [numbered,h]
 have hst:(numbered f).stages≠[]:=fun q=>h1 (by have:=numG_len f.stages f.args.length;rw [show numG f.args.length f.stages=[] from q] at this;exact Ki this.symm);rw [file_go he' hst (by rw [XC];show ¬ (32<(numG f.args.length f.stages).length∨512<countL f);rw [numG_len];omega)] at h;unfold restA at h
 split at h
 · rename_i y hy;injection h with h;subst h;obtain ⟨s,hs,e⟩:=ZQ hy;obtain ⟨_,q1,q2⟩:=ZE (show s∈numA 0 f.args from hs);have e':l=s.line:=e;omega
 · obtain ⟨s,hs,e⟩:=Zx h;obtain ⟨_,⟨q1,q2⟩,q3⟩:=Y1 (show s∈numG f.args.length f.stages from hs);rcases e with e | ⟨t,ht,e⟩
   · have e':l=s.line:=e;omega
   · have e':l=t.line:=e;have:=q3 t ht;omega
end Ck
theorem Qu (l:List GM) (i:Nat):Ck.tot ((l.take i).map GM.sg)≤Ck.tot (l.map GM.sg):=by
 have h:Ck.tot (l.map GM.sg)=Ck.tot ((l.take i).map GM.sg)+Ck.tot ((l.drop i).map GM.sg):=by unfold Ck.tot;rw [←List.sum_append,←List.map_append,←List.map_append,List.take_append_drop]
 omega
theorem XA {w:World} {b b':Nat} {e e':TypeId} {k k' n n':Nat} {v v':Value} {xs xs':List Value} (h:w.ownsRow b e k v n xs) (h':w.ownsRow b' e' k' v' n' xs') (hne:e≠e'):v.ownBlock=none∨v.ownBlock≠v'.ownBlock:=by
 rcases h.2 with ⟨rfl,_⟩ | ⟨g,cap,cur,rfl,_,hg,_⟩
 · exact .inl rfl
 · refine .inr (fun q=>?_);rcases h'.2 with ⟨rfl,_⟩ | ⟨g',cap',cur',rfl,_,hg',_⟩
   · cases q
   · injection q with q;have q':g=g':=q;subst q';have h1:=Jc (hg.symm.trans hg');injection h1 with _ h2 _;exact hne h2
theorem ZP {w:World} {b G i:Nat} {e:TypeId} {k n:Nat} {v:Value} {xs:List Value} (h:w.ownsRow b e k v n xs) (hG:G<b) (u:Value):(w.setCell ⟨G,i,none⟩ u).ownsRow b e k v n xs:=
 h.kept (yK w ⟨G,i,none⟩ u) (by
  rcases hx:v.ownBlock with _ | g
  · exact .inl rfl
  · refine .inr (fun q=>?_);injection q with q;have q':g=G:=q;have:=(h.lt g hx).1;omega)
theorem YO:41≠53:=by decide
structure FB (w0:World) (base G:Nat) (e:UInt8) (vA vS:Value) (lA:List SM) (lS:List GM) (w:World):Prop where
 blk:Blk w G 25 #[.int .u8 (e.toNat:Int),vA,vS]
 rA:w.ownsRow base 41 10 vA lA.length (yv lA)
 rS:w.ownsRow base 53 4 vS lS.length (yH lS)
 each:∀ g∈lS,w.ownsRow base 41 10 g.vs g.ms.length (yv g.ms)
 okA:∀ m∈lA,m.Ok w0
 okS:∀ g∈lS,∀ m∈g.ms,m.Ok w0
 hG:G<base
 h0:Below w0.heap.size w0 w
 hw0:w0.heap.size≤G
 size:base≤w.heap.size
section
variable {w0 w w':World} {base G:Nat} {e:UInt8} {vA vS:Value} {lA:List SM} {lS:List GM}
theorem FB.new (h:FB w0 base G e vA vS lA lS w) (k:Below w.heap.size w w'):FB w0 base G e vA vS lA lS w':=
 ⟨h.blk.below k h.blk.lt,zy h.rA k,zy h.rS k,fun g hg=>zy (h.each g hg) k,h.okA,h.okS,h.hG,h.h0.trans (k.mono h.h0.size),h.hw0,Jg h.size k.size⟩
theorem FB.alloc (h:FB w0 base G e vA vS lA lS w) (o:Obj):FB w0 base G e vA vS lA lS (w.alloc o):=h.new ((Ja _ _).alloc (Jd _) o)
theorem FB.pushA {vA':Value} {m:SM} (h:FB w0 base G e vA vS lA [] w) (hm:m.Ok w0) (ho:w'.ownsRow base 41 10 vA' (lA.length+1) (yv lA++ZN m)) (hb:Below base w w') (hg:w.grownBy w' vA.ownBlock):
  FB w0 base G e vA' vS (lA++[m]) [] (w'.setCell ⟨G,1,none⟩ vA'):=by
 have hk:=h.blk.below hb h.hG;have hr:w'.ownsRow base 53 4 vS 0 []:=h.rS.kept hg (XA h.rS h.rA (fun q=>YO q.symm));have e1:yv (lA++[m])=yv lA++ZN m:=by simp [yv]
 refine ⟨by have q:=hk.set_ 1 vA';simpa using q,?_,ZP hr h.hG _,(fun g hg=>by cases hg),fun x hx=>?_,(fun g hg=>by cases hg),h.hG,?_,h.hw0,by rw [zS];exact Jg h.size hb.size⟩
 · rw [e1,Jf];exact ZP ho h.hG _
 · rcases Km.1 hx with hx | hx
   · exact h.okA x hx
   · rw [Jv] at hx;subst hx;exact hm
 · exact (h.h0.trans (hb.mono (by have:=h.hG;have:=h.hw0;omega))).setCell (p:=⟨G,1,none⟩) h.hw0 _
theorem FB.pushS {vS':Value} {g:GM} (h:FB w0 base G e vA vS lA lS w) (hr:w.ownsRow base 41 10 g.vs g.ms.length (yv g.ms)) (hm:∀ m∈g.ms,m.Ok w0) (ho:w'.ownsRow base 53 4 vS' (lS.length+1) (yH lS++VU g)) (hb:Below base w w') (hg:w.grownBy w' vS.ownBlock):
  FB w0 base G e vA vS' lA (lS++[g]) (w'.setCell ⟨G,2,none⟩ vS'):=by
 have hk:=h.blk.below hb h.hG;have hkeep:∀ {n:Nat} {v:Value} {xs:List Value},w.ownsRow base 41 10 v n xs→(w'.setCell ⟨G,2,none⟩ vS').ownsRow base 41 10 v n xs:=fun q=>ZP (q.kept hg (XA q h.rS YO)) h.hG _;have e1:yH (lS++[g])=yH lS++VU g:=by simp [yH]
 refine ⟨by have q:=hk.set_ 2 vS';simpa using q,hkeep h.rA,?_,fun x hx=>?_,h.okA,fun x hx=>?_,h.hG,?_,h.hw0,by rw [zS];exact Jg h.size hb.size⟩
 · rw [e1,Jf];exact ZP ho h.hG _
 · rcases Km.1 hx with hx | hx
   · exact hkeep (h.each x hx)
   · rw [Jv] at hx;subst hx;exact hkeep hr
 · rcases Km.1 hx with hx | hx
   · exact h.okS x hx
   · rw [Jv] at hx;subst hx;exact hm
 · exact (h.h0.trans (hb.mono (by have:=h.hG;have:=h.hw0;omega))).setCell (p:=⟨G,2,none⟩) h.hw0 _
theorem FB.oth (h:FB w0 base G e vA vS lA lS w) {b:Nat} (k:w.grownBy w' (some b)) (hb:b<base) (hG:b≠G) (h0:w0.heap.size≤b):FB w0 base G e vA vS lA lS w':=by
 have hrow:∀ {e':TypeId} {n j:Nat} {v:Value} {xs:List Value},w.ownsRow base e' j v n xs→w'.ownsRow base e' j v n xs:=fun q=>q.kept k (by
  rename_i v _;rcases hx:v.ownBlock with _ | g
  · exact .inl rfl
  · refine .inr (fun r=>?_);injection r with r;have:=(q.lt g hx).1;omega)
 exact ⟨(k.block G h.blk.lt (fun r=>hG (by injection r with r;exact r.symm))).trans h.blk,hrow h.rA,hrow h.rS,fun g hg=>hrow (h.each g hg),h.okA,h.okS,h.hG,h.h0.trans ((Fx.of_grown k).to_below h.h0.size (fun c r=>by injection r with r;omega)),h.hw0,Jg h.size k.size⟩
theorem FB.file (h:FB w0 base G e vA vS lA lS w):FM.Ok w ⟨e,vA,lA,vS,lS⟩:=
 ⟨⟨SlA.own h.rA,fun m hm=>(h.okA m hm).new h.h0⟩,⟨SlA.own h.rS,fun g hg=>⟨SlA.own (h.each g hg),fun m hm=>(h.okS g hg m hm).new h.h0⟩⟩⟩
theorem Zl (w:World) (base k:Nat) (e:TypeId):w.ownsRow base e k (.slice none 0 0) 0 []:=⟨by simp,.inl ⟨rfl,rfl⟩⟩
end
end Go.Proofs.YtdaejggcjjdhkaaGreatDoor
namespace Go.Proofs.YtdaejggcjjdhkaaGreatDoor
open Go Go.RowKit Go.Extern.Stop Go.Stop Go.Extern
theorem filP_its (x:Option (Nat × Int)):(Vc x).1=((QQ x:Nat):Int)∧∀ m l,x=some (m,l)→(Vc x).2=l:=by
 rcases x with _ | ⟨n,l⟩
 · exact ⟨rfl,fun m l h=>by cases h⟩
 · exact ⟨rfl,fun m l h=>by injection h with h;injection h with _ h⟩
theorem lawFiles (f:FM) (w:World) (hok:f.Ok w) (hsf:f.fl.Small) (hT:Tabs w) (hV:ErrVar w) (hM:Maxl w):
  Calls Tryz.prog 3 #[.agg #[.int .u8 (f.escape.toNat:Int),f.va,f.vg]] w fun r w'=>r=.returned (.bool true)∧Below w.heap.size w w':=by
 have hcount:=yg f;have HT:=hY hT;have HV:=hY hV;have HM:=hY hM;clear hT hV hM;obtain ⟨e,va,args,vg,stages⟩:=f;obtain ⟨Aa,ka,ea⟩:=hok.a.1.form;obtain ⟨Ag,kg,eg⟩:=hok.g.1.form;dsimp only at ea eg hsf hcount ⊢;subst ea eg;have heb:e.toNat<256:=Jm _;have HOK:=hY hok;have HSF:=hY hsf;obtain ⟨hsa,hsg,hsn⟩:=hsf;have hsn2:stages.length+(args.length+(stages.map fun g=>g.ms.length).sum)≤1050000:=by rw [←hcount];have h:(stages.map GM.sg).length+_≤1050000:=hsn;rwa [Jo] at h
 have HSA:Hid (∀ m∈args,m.s.words.length+m.s.exec.length+m.s.pairs.length+m.s.docs.length≤1050000):=hY fun m hm=>(hsa _ (List.mem_map.2 ⟨_,hm,rfl⟩)).1;have HSG:Hid (∀ G∈stages,G.ms.length≤1050000∧∀ m∈G.ms,m.s.words.length+m.s.exec.length+m.s.pairs.length+m.s.docs.length≤1050000):=hY fun G hG=>⟨by have h2:G.ms.length≤(stages.map fun g=>g.ms.length).sum:=Y6 (List.mem_map.2 ⟨G,hG,rfl⟩);omega,fun m hm=>((hsg _ (List.mem_map.2 ⟨_,hG,rfl⟩)).2.2 _ (List.mem_map.2 ⟨_,hm,rfl⟩)).1⟩
 have ha1:args.length≤1050000:=by omega
 have hg1:stages.length≤1050000:=by omega
 clear hok hsa hsg hsn hsn2 hcount;have HB1:=hY ((Ja w.heap.size w).alloc (Jd _) (.cells #[.int .u8 (e.toNat:Int),.slice Aa args.length ka,.slice Ag stages.length kg] 25));have HF1:=hY (Blk.new w 25 #[.int .u8 (e.toNat:Int),.slice Aa args.length ka,.slice Ag stages.length kg]);have OK1:=hY (HOK.out.new HB1.out);obtain ⟨w1,hw1⟩:∃ y,w.alloc (.cells #[.int .u8 (e.toNat:Int),.slice Aa args.length ka,.slice Ag stages.length kg] 25)=y:=⟨_,rfl⟩
 rw [hw1] at HB1 HF1 OK1;have HW1:=hY hw1;clear hw1;go_enter Tryz.func3,Tryz.ntmps3;go_upto_region 1 with fail;rw [HW1.out];clear HW1;have b0:w1.cell? ⟨w.heap.size,0,none⟩=some (.int .u8 (e.toNat:Int)):=HF1.out.cell 0;have b1:w1.cell? ⟨w.heap.size,1,none⟩=some (.slice Aa args.length ka):=HF1.out.cell 1;have b2:w1.cell? ⟨w.heap.size,2,none⟩=some (.slice Ag stages.length kg):=HF1.out.cell 2;go_wp2_with fail;refine (Yl (⟨e,.slice Aa args.length ka,args,.slice Ag stages.length kg,stages⟩:FM) w1 OK1.out HSF.out).mono ?_;rintro r w2 ⟨t1,rfl,p2⟩;have OK2:=hY (OK1.out.new p2);have HB2:=hY (za HB1.out p2 HB1.out.size);have HF2:=hY (HF1.out.below p2 HF1.out.lt);clear p2 OK1 HB1 HF1;clear b0 b1 b2;cases t1 with
 | false =>go_wp2_with fail;go_ret;exact ⟨rfl,HB2.out⟩
 | true =>
  have b0:w2.cell? ⟨w.heap.size,0,none⟩=some (.int .u8 (e.toNat:Int)):=HF2.out.cell 0;have b1:w2.cell? ⟨w.heap.size,1,none⟩=some (.slice Aa args.length ka):=HF2.out.cell 1;have b2:w2.cell? ⟨w.heap.size,2,none⟩=some (.slice Ag stages.length kg):=HF2.out.cell 2;obtain ⟨x,HX⟩:∃ x,Hid (Ck.fileL (FM.fl (⟨e,.slice Aa args.length ka,args,.slice Ag stages.length kg,stages⟩:FM))=x):=⟨_,hY rfl⟩
  obtain ⟨hp1,hp2⟩:=filP_its x;obtain ⟨n,hn⟩:∃ n,QQ x=n:=⟨_,rfl⟩
  obtain ⟨l,hl⟩:∃ l,(Vc x).2=l:=⟨_,rfl⟩
  have HC18:=hY (Xb (⟨e,.slice Aa args.length ka,args,.slice Ag stages.length kg,stages⟩:FM) w2 OK2.out HSF.out HX);rw [hp1,hl,hn] at HC18;rw [hl] at hp2;have HN:=hY hn;have HP2:=hY hp2;have HOKN:Hid (jX x):=hY (by rw [←HX.out];exact Ck.file_ok _);clear hn hp1 hl hp2;go_wp2_with fail;refine HC18.out.mono ?_;rintro r w3 ⟨rfl,p3⟩;clear HC18;have OK3:=hY (OK2.out.new p3);have HB3:=hY (za HB2.out p3 HB2.out.size);have HF3:=hY (HF2.out.below p3 HF2.out.lt);clear p3 OK2 HB2 HF2;clear b0 b1 b2;have b0:w3.cell? ⟨w.heap.size,0,none⟩=some (.int .u8 (e.toNat:Int)):=HF3.out.cell 0;have b1:w3.cell? ⟨w.heap.size,1,none⟩=some (.slice Aa args.length ka):=HF3.out.cell 1;have b2:w3.cell? ⟨w.heap.size,2,none⟩=some (.slice Ag stages.length kg):=HF3.out.cell 2;have HCL:=hY (Wf (⟨e,.slice Aa args.length ka,args,.slice Ag stages.length kg,stages⟩:FM) w3 OK3.out HSF.out);go_wp2_with fail;refine HCL.out.mono ?_;rintro r w4 ⟨⟨va1,vg1,args1,stages1,rfl,hls,hlg,hea,heg⟩,p4⟩;obtain ⟨ga,ca,e1,_⟩:=hls.r;obtain ⟨gg,cg,e2,_⟩:=hlg.r;subst e1 e2;have LS4:=hY hls;have LG4:=hY hlg;have HEA:=hY hea;have HEG:=hY heg;have HFL:Hid (FM.fl (⟨e,.slice (some ⟨ga,0,none⟩) args1.length ca,args1,.slice (some ⟨gg,0,none⟩) stages1.length cg,stages1⟩:FM)=FM.fl (⟨e,.slice Aa args.length ka,args,.slice Ag stages.length kg,stages⟩:FM)):=hY (by show (⟨_,_,_⟩:Ck.Fl)=⟨_,_,_⟩;rw [hea,heg]);clear HCL hls hlg hea heg b0 b1 b2;have OK4:=hY (OK3.out.new p4);have HB4:=hY (za HB3.out p4 HB3.out.size);have HF4:=hY (HF3.out.below p4 HF3.out.lt);clear p4 OK3 HB3 HF3;have p5:=(Ja w4.heap.size w4).alloc (Jd _) (.cells #[.int .u8 (e.toNat:Int),.slice (some ⟨ga,0,none⟩) args1.length ca,.slice (some ⟨gg,0,none⟩) stages1.length cg] 25)
  have HZ5:=hY (Blk.new w4 25 #[.int .u8 (e.toNat:Int),.slice (some ⟨ga,0,none⟩) args1.length ca,.slice (some ⟨gg,0,none⟩) stages1.length cg]);have LS5:=hY (LS4.out.new p5);have LG5:=hY (LG4.out.new p5);clear LS4 LG4;have OK5:=hY (OK4.out.new p5);have HB5:=hY (za HB4.out p5 HB4.out.size);have HF5:=hY (HF4.out.below p5 HF4.out.lt);clear p5 OK4 HB4 HF4;go_upto_region 5 with fail;obtain ⟨w5,hw5⟩:∃ y,w4.alloc (.cells #[.int .u8 (e.toNat:Int),.slice (some ⟨ga,0,none⟩) args1.length ca,.slice (some ⟨gg,0,none⟩) stages1.length cg] 25)=y:=⟨_,rfl⟩
  obtain ⟨Z,hZ⟩:∃ Z,w4.heap.size=Z:=⟨_,rfl⟩
  rw [hw5] at OK5 HB5 HF5 HZ5 LS5 LG5;rw [hZ] at HZ5;rw [hw5,hZ];clear hw5 hZ;have HXS:Hid ((FM.fl (⟨e,.slice (some ⟨ga,0,none⟩) args1.length ca,args1,.slice (some ⟨gg,0,none⟩) stages1.length cg,stages1⟩:FM)).Small):=hY (by rw [HFL.out];exact HSF.out);have HXX:Hid (Ck.fileL (FM.fl (⟨e,.slice (some ⟨ga,0,none⟩) args1.length ca,args1,.slice (some ⟨gg,0,none⟩) stages1.length cg,stages1⟩:FM))=x):=hY (by rw [HFL.out];exact HX.out);obtain ⟨fv,hfv⟩:∃ y,Zf x=y:=⟨_,rfl⟩
  have HFV:=hY hfv;clear hfv;have z0:w5.cell? ⟨Z,0,none⟩=some (.int .u8 (e.toNat:Int)):=HZ5.out.cell 0;have z1:w5.cell? ⟨Z,1,none⟩=some (.slice (some ⟨ga,0,none⟩) args1.length ca):=HZ5.out.cell 1;have z2:w5.cell? ⟨Z,2,none⟩=some (.slice (some ⟨gg,0,none⟩) stages1.length cg):=HZ5.out.cell 2;have HCF:=hY (zN (⟨e,.slice (some ⟨ga,0,none⟩) args1.length ca,args1,.slice (some ⟨gg,0,none⟩) stages1.length cg,stages1⟩:FM) w5 ⟨LS5.out.ok,LG5.out.ok⟩ HXS.out (HT.out.new HB5.out) (HM.out.grow HB5.out) (HV.out.below HB5.out HV.out.lt) HXX);rw [HFV.out] at HCF;go_wp2_with fail;refine HCF.out.mono ?_;rintro r w6 ⟨rfl,p⟩;clear HCF z0 z1 z2;have OK6:=hY (OK5.out.new p);have HB6:=hY (za HB5.out p HB5.out.size);have HF6:=hY (HF5.out.below p HF5.out.lt);have HZ6:=hY (HZ5.out.below p HZ5.out.lt);have LS6:=hY (LS5.out.new p);have LG6:=hY (LG5.out.new p);clear p OK5 HB5 HF5 HZ5 LS5 LG5;have HTD:=hY (XT x HOKN.out n HN.out l HP2.out w6 (HV.out.below HB6.out HV.out.lt));rw [HFV.out] at HTD;go_wp2_with fail;refine HTD.out.mono ?_;rintro r w7 ⟨rfl,p⟩;clear HTD;have OK7:=hY (OK6.out.new p);have HB7:=hY (za HB6.out p HB6.out.size);have HF7:=hY (HF6.out.below p HF6.out.lt);have HZ7:=hY (HZ6.out.below p HZ6.out.lt);have LS7:=hY (LS6.out.new p);have LG7:=hY (LG6.out.new p);clear p OK6 HB6 HF6 HZ6 LS6 LG6;have z0:w7.cell? ⟨Z,0,none⟩=some (.int .u8 (e.toNat:Int)):=HZ7.out.cell 0;have z1:w7.cell? ⟨Z,1,none⟩=some (.slice (some ⟨ga,0,none⟩) args1.length ca):=HZ7.out.cell 1;have z2:w7.cell? ⟨Z,2,none⟩=some (.slice (some ⟨gg,0,none⟩) stages1.length cg):=HZ7.out.cell 2;have HCF:=hY (zN (⟨e,.slice (some ⟨ga,0,none⟩) args1.length ca,args1,.slice (some ⟨gg,0,none⟩) stages1.length cg,stages1⟩:FM) w7 ⟨LS7.out.ok,LG7.out.ok⟩ HXS.out (HT.out.new HB7.out) (HM.out.grow HB7.out) (HV.out.below HB7.out HV.out.lt) HXX)
  rw [HFV.out] at HCF;go_wp2_with fail;refine HCF.out.mono ?_;rintro r w8 ⟨rfl,p⟩;clear HCF z0 z1 z2;have OK8:=hY (OK7.out.new p);have HB8:=hY (za HB7.out p HB7.out.size);have HF8:=hY (HF7.out.below p HF7.out.lt);have HZ8:=hY (HZ7.out.below p HZ7.out.lt);have LS8:=hY (LS7.out.new p);have LG8:=hY (LG7.out.new p);clear p OK7 HB7 HF7 HZ7 LS7 LG7;have HTD:=hY (XT x HOKN.out n HN.out l HP2.out w8 (HV.out.below HB8.out HV.out.lt));rw [HFV.out] at HTD;go_wp2_with fail;refine HTD.out.mono ?_;rintro r w9 ⟨rfl,p⟩;clear HTD;have OK9:=hY (OK8.out.new p);have HB9:=hY (za HB8.out p HB8.out.size);have HF9:=hY (HF8.out.below p HF8.out.lt);have HZ9:=hY (HZ8.out.below p HZ8.out.lt);have LS9:=hY (LS8.out.new p);have LG9:=hY (LG8.out.new p);clear p OK8 HB8 HF8 HZ8 LS8 LG8;have z0:w9.cell? ⟨Z,0,none⟩=some (.int .u8 (e.toNat:Int)):=HZ9.out.cell 0;have z1:w9.cell? ⟨Z,1,none⟩=some (.slice (some ⟨ga,0,none⟩) args1.length ca):=HZ9.out.cell 1;have z2:w9.cell? ⟨Z,2,none⟩=some (.slice (some ⟨gg,0,none⟩) stages1.length cg):=HZ9.out.cell 2;have b0:w9.cell? ⟨w.heap.size,0,none⟩=some (.int .u8 (e.toNat:Int)):=HF9.out.cell 0;have b1:w9.cell? ⟨w.heap.size,1,none⟩=some (.slice Aa args.length ka):=HF9.out.cell 1;have b2:w9.cell? ⟨w.heap.size,2,none⟩=some (.slice Ag stages.length kg):=HF9.out.cell 2;have HCK:=hY (Wh e args args1 stages stages1 Aa (some ⟨ga,0,none⟩) Ag (some ⟨gg,0,none⟩) ka ca kg cg w9 LS9.out LG9.out OK9.out.a OK9.out.g HEA.out HEG.out HSA.out HSG.out ha1 hg1);go_wp2_with fail;refine HCK.out.mono ?_;rintro r w10 ⟨rfl,p⟩;have HB10:=hY (za HB9.out p HB9.out.size);clear p HCK z0 z1 z2 b0 b1 b2 OK9 HF9 HZ9 LS9 LG9 HB9;have HWK:=hY (zU w10 (HT.out.new HB10.out) (HV.out.below HB10.out HV.out.lt) (HM.out.grow HB10.out));go_wp2_with fail;refine HWK.out.mono ?_;rintro r w11 ⟨rfl,p⟩
  have HB11:=hY (za HB10.out p HB10.out.size);clear p HWK;go_wp2_with fail;go_ret;exact ⟨rfl,HB11.out⟩
end Go.Proofs.YtdaejggcjjdhkaaGreatDoor
