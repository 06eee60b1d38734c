/- ExY, RelyC, CkYc -/
import Derived.Test.YtdaejggcjjdhkaaGreatDoorExW
import Derived.Test.YtdaejggcjjdhkaaGreatDoorMkD
import Derived.Test.YtdaejggcjjdhkaaGreatDoorMkB
import Derived.Test.YtdaejggcjjdhkaaGreatDoorCkV
import Derived.Test.YtdaejggcjjdhkaaGreatDoorMkG
import Derived.Test.YtdaejggcjjdhkaaGreatDoorMkA
set_option maxHeartbeats 2000000
set_option maxRecDepth 100000
namespace Go.Proofs.YtdaejggcjjdhkaaGreatDoor
open Go Go.RowKit
def ya (n:Nat):Value:=if n=0 then .nilIface else Xi (n:Int)
theorem zao {z:Nat} (h:z=4∨z=18):ya z=Xi (z:Int):=by unfold ya;rw [if_neg (by omega)]
theorem Rx.own2 {w:World} {base n c:Nat} {e:TypeId} {A:Option Addr} {xs:List Value} (h:w.ownsRow base e 1 (.slice A n c) n xs):Rx w (fun b=>w.heap.size≤b) A n xs:=by
 refine ⟨by have:=h.1;omega,fun hn=>?_⟩;obtain ⟨g,cap,hv,hb,hlt⟩:=h.form hn;have hA:A=some ⟨g,0,none⟩:=by injection hv
 subst hA;exact ⟨g,rfl,by omega,hlt,fun j u hu=>by have:=h.cells (g:=g) rfl j u hu;rwa [Addr.add_lit,Jq] at this⟩
def jp (w:World) (x:Ex.R) (r:Ending) (w':World):Prop:=∃ (t:ByteArray) (n:Nat),r=.returned (.tuple #[.string t,ya n])∧(match x with | .inl z=>n=z | .inr _=>n=0∨n=5)∧Below w.heap.size w w'
theorem Wz (s:List UInt8) (e:UInt8) (k:Ex.Kd) (hs:s.length≤zw) (w:World):Calls Tryz.prog 139 #[.string (bs s),.int .u8 (e.toNat:Int),.int .i64 (js k),.slice none 0 0] w (jp w (Ex.readL e k s)):=by
 obtain ⟨x,hx⟩:∃ x,Hid (Ex.readL e k s=x):=⟨_,hY rfl⟩
 rw [hx.out];obtain ⟨K,hK⟩:∃ K,Hid (js k=K):=⟨_,hY rfl⟩
 rw [hK.out];have hb:e.toNat<256:=Jm _;have hal:=(Ja w.heap.size w).alloc (Jd _) (.cells #[.string (bs s),.int .i64 0,.int .u8 (e.toNat:Int)] 187);have hrd:=Blk.new w 187 #[.string (bs s),.int .i64 0,.int .u8 (e.toNat:Int)];obtain ⟨w1,hw1⟩:∃ x,w.alloc (.cells #[.string (bs s),.int .i64 0,.int .u8 (e.toNat:Int)] 187)=x:=⟨_,rfl⟩
 rw [hw1] at hal hrd;have HW1:=hY hw1;have HB1:=hY hal;have HRD:Hid (Rdr w1 w.heap.size s 0 e):=hY hrd;have hcall:=QL hs (s.length+1) k w.heap.size 0 w1 (by omega) (Nat.zero_le _) HRD.out;rw [Jw,hx.out,hK.out] at hcall;have HC:=hY hcall;have hsz1:w.heap.size<w1.heap.size:=Blk.lt hrd;clear hw1 hal hrd hcall;go_enter Tryz.func139,Tryz.ntmps139;go_upto_region 2 with fail;rw [HW1.out];go_wp2_with fail;cases x with
 | inl z =>have hz:=Ex.readL_err hx.out;refine HC.out.mono ?_;rintro r w2 ⟨rfl,k2⟩;have HB2:=hY ((Fx.of_below HB1.out).then k2 (fun b hb h=>by have h2:b=w.heap.size:=h;omega) |>.to_below (Jd _) (fun b h=>h));clear k2;go_wp2_with fail;go_ret2;exact ⟨_,z,by rw [zao hz];rfl,rfl,HB2.out⟩
 | inr pr =>
  obtain ⟨l,t⟩:=pr;refine HC.out.mono ?_;rintro r w2 ⟨v,xs,rfl,ho,hp,hrd2,hlen,k2⟩;obtain ⟨A,c,rfl⟩:=zc ho;have HB2:=hY ((Fx.of_below HB1.out).then k2 (fun b hb h=>by have h2:b=w.heap.size:=h;omega) |>.to_below (Jd _) (fun b h=>h));have HO2:=hY ho;have HP2:=hY hp;have hxs:xs.length≤zw:=by unfold zw at hs ⊢;omega
  clear k2 ho hp hrd2;have hmm:=@run_makeMap Tryz.prog;go_wp2_with fail;go_loopw [15,33] (fun _ t33 wr=>t33=.int .i64 0∧w2.alloc (.map #[] 0)=wr) (fun _ _ _=>0)
  case atStart=>exact ⟨rfl,rfl⟩
  case round =>
   obtain ⟨rfl,rfl⟩:=hrel;have hem:=heap_alloc_new w2 (.map #[] 0);have b3:=(Ja w2.heap.size w2).alloc (Jd _) (.map #[] 0);obtain ⟨w3,hw3⟩:∃ x,w2.alloc (.map #[] 0)=x:=⟨_,rfl⟩
   have hz3:w3.heap.size=w2.heap.size+1:=by rw [←hw3,Jb]
   rw [hw3] at hem b3;rw [hw3];have b4:=(Ja w3.heap.size w3).alloc (Jd _) (.cells #[.pointer none,.slice none 0 0] 194);have hbd:=Bd.fresh w3;obtain ⟨w4,hw4⟩:∃ x,w3.alloc (.cells #[.pointer none,.slice none 0 0] 194)=x:=⟨_,rfl⟩
   have hz4:w4.heap.size=w3.heap.size+1:=by rw [←hw4,Jb]
   rw [hw4] at b4 hbd;have HW4:=hY hw4;have HZ3:=hY hz3;have hB4:w3.heap.size≤w4.heap.size:=by omega
   have hMB:w2.heap.size<w3.heap.size:=by omega
   have HEM:Hid (EM w4 w2.heap.size):=hY (EM.below (w:=w3) hem b4 hMB);have b24:Below w2.heap.size w2 w4:=b3.trans (b4.mono (by omega));have HRX:Hid (Rx w4 (fun g=>w3.heap.size≤g) A xs.length xs):=hY ((Rx.own2 HO2.out).fx (S:=fun _=>False) (Fx.new b24) (fun b _ h=>h.elim False.elim fun h=>by have h2:w3.heap.size≤b:=h;show w2.heap.size≤b;omega));have HPX:Hid (PL w4 (fun g=>w3.heap.size≤g) l xs):=hY (HP2.out.fx (S:=fun _=>False) (Fx.new b24) (fun b hb h=>h.elim False.elim fun h=>by have h2:w3.heap.size≤b:=h;omega));have HBD:=hY hbd;have HB4:=hY (HB2.out.trans (b24.mono HB2.out.size));have hsz4:w.heap.size≤w3.heap.size:=by have:=HB2.out.size;omega
   obtain ⟨d,hd⟩:=HPX.out;have HCA:=hY (UF d _ _ _ _ _ _ c _ _ _ HBD.out (by simp) hB4 HEM.out hMB HRX.out hxs hd);clear hem b3 hw3 hz3 b4 hbd hw4 hz4 b24 hd hmm;go_upto_region 12 with fail;rw [HW4.out];go_wp2_with fail;refine HCA.out.mono ?_;rintro r w5 ⟨q,l5,rfl,h5,hl5,p5⟩;have HB5:=hY (HB4.out.trans (p5.mono hsz4));have HBD5:=hY h5;have hB5:w3.heap.size≤w5.heap.size:=Jg hB4 p5.size;clear h5 p5;cases q with
   | false =>go_wp2_with fail;go_ret2;exact ⟨_,5,rfl,.inr rfl,HB5.out⟩
   | true =>go_wp2_with fail;refine (Vx _ _ _ _ HBD5.out hB5).mono ?_;rintro r w6 ⟨rfl,h6,p6⟩;have HB6:=hY (HB5.out.trans (p6.mono hsz4));clear h6 p6;go_wp2_with fail;go_ret2;exact ⟨_,0,rfl,.inl rfl,HB6.out⟩
theorem VV (s:List UInt8) (e:UInt8) (hs:s.length≤zw) (w:World):Calls Tryz.prog 102 #[.string (bs s),.int .u8 (e.toNat:Int),.slice none 0 0] w (jp w (Ex.readL e .plain s)):=by have HC:=hY (Wz s e .plain hs w);have hb:e.toNat<256:=Jm _;go_enter Tryz.func102,Tryz.ntmps102;go_wp2_with fail;refine HC.out.mono ?_;rintro r w1 ⟨t,n,rfl,hn,p1⟩;have HN:=hY (And.intro hn p1);clear hn p1;go_wp2_with fail;go_ret2;exact ⟨t,n,rfl,HN.out.1,HN.out.2⟩
theorem Qb (s:List UInt8) (e:UInt8) (hs:s.length≤zw) (w:World):Calls Tryz.prog 100 #[.string (bs s),.int .u8 (e.toNat:Int),.slice none 0 0] w (jp w (Ex.readL e .document s)):=by have HC:=hY (Wz s e .document hs w);have hb:e.toNat<256:=Jm _;go_enter Tryz.func100,Tryz.ntmps100;go_wp2_with fail;refine HC.out.mono ?_;rintro r w1 ⟨t,n,rfl,hn,p1⟩;have HN:=hY (And.intro hn p1);clear hn p1;go_wp2_with fail;go_ret2;exact ⟨t,n,rfl,HN.out.1,HN.out.2⟩
theorem Qx {e:UInt8} {k:Ex.Kd} {s:List UInt8} {n:Nat} (h:match Ex.readL e k s with | .inl z=>n=z | .inr _=>n=0∨n=5):(n=0∧Ck.errR (Ex.readL e k s)=0)∨(n=5∧Ck.errR (Ex.readL e k s)=0)∨(n≠0∧n≠5∧Ck.errR (Ex.readL e k s)=n):=by
 cases hx:Ex.readL e k s with
 | inl z =>rw [hx] at h;have h:n=z:=h;have:=Ex.readL_err hx;exact .inr (.inr ⟨by omega,by omega,h.symm⟩)
 | inr pr =>
  rw [hx] at h;have h:n=0∨n=5:=h;rcases h with h | h
  · exact .inl ⟨h,rfl⟩
  · exact .inr (.inl ⟨h,rfl⟩)
theorem Zt (s:List UInt8) (e:UInt8) (hs:s.length≤zw) (w:World) {n:Nat} (H:Hid (Ck.wordL e s=n)):Calls Tryz.prog 45 #[.string (bs s),.int .u8 (e.toNat:Int)] w fun r w'=>r=.returned (ya n)∧Below w.heap.size w w':=by
 have HC:=hY (VV s e hs w);have hb:e.toNat<256:=Jm _;go_enter Tryz.func45,Tryz.ntmps45;go_wp2_with fail;refine HC.out.mono ?_;rintro r w1 ⟨t,m,rfl,hn,p1⟩;have HP:=hY p1;have hc:=Qx hn;rw [show Ck.errR (Ex.readL e .plain s)=n from H.out] at hc;clear hn p1 HC;rcases hc with ⟨rfl,rfl⟩ | ⟨rfl,rfl⟩ | ⟨h0,h5,rfl⟩
 · rw [show ya 0=.nilIface from rfl];go_wp2_with fail;go_ret;exact ⟨rfl,HP.out⟩
 · rw [show ya 5=Xi 5 from rfl];go_wp2_with fail;refine (Y8 5 5 _).mono ?_;rintro r w2 ⟨rfl,rfl⟩;go_wp2_with fail;go_ret;exact ⟨rfl,HP.out⟩
 · have hE:ya n=Xi (n:Int):=by unfold ya;rw [if_neg h0]
   have HE:=hY hE;rw [hE];clear hE;have hne:((n:Int)==5)=false:=bF (by omega);go_wp2_with fail;refine (Y8 (n:Int) 5 _).mono ?_;rintro r w2 ⟨rfl,rfl⟩;go_wp2_with fail;go_ret;exact ⟨by rw [HE.out];rfl,HP.out⟩
end Go.Proofs.YtdaejggcjjdhkaaGreatDoor
namespace Go.Proofs.YtdaejggcjjdhkaaGreatDoor
open Go
section
variable {P:Program} {ops:Array Oper} {Q:Exit→Act→World→Prop}
def zaf (ops:Array Oper) (c:Nat→Option Nat) (i:Nat) (o:Oper) (j:Nat):Bool:=j==i||((ops[j]?).map fun o'=>(yW o').contains i).getD false||(match c j with | some k=>k==i||(yW o).contains k | none=>false)
def Wq (P:Program) (ops:Array Oper) (Q:Exit→Act→World→Prop) (F:(Nat→Value)→Act) (S:World→Prop) (V:Nat→Value→World→Prop) (c:Nat→Option Nat) (i:Nat) (o:Oper):Prop:=
 ∃ nn dd:List Nat,(nn.all fun j=>(yW o).contains j&&(c j==none||c j==some i))=true∧(dd.all (zaf ops c i o))=true∧
 ∀ (xs:Nat→Value) (w:World),S w→AllV V xs w nn→
  ∀ K:Act→World→Prop,Shut (∀ v w',S w'→V i v w'→(∀ j u,dd.contains j=false→V j u w→V j u w')→K ((F xs).put o.dst v) w')→
   if Region.wanted o (yielded ops (F xs).tmps)=true then Oper.wp P o (F xs) w K Q else K ((F xs).put o.dst undef) w
def StepsC (P:Program) (ops:Array Oper) (Q:Exit→Act→World→Prop) (F:(Nat→Value)→Act) (S:World→Prop) (V:Nat→Value→World→Prop) (c:Nat→Option Nat):Nat→List Oper→Prop
 | _,[]=>True
 | i,o::l=>Wq P ops Q F S V c i o∧StepsC P ops Q F S V c (i+1) l
theorem StepsC.nil {F:(Nat→Value)→Act} {S:World→Prop} {V:Nat→Value→World→Prop} {c:Nat→Option Nat} {i:Nat}:StepsC P ops Q F S V c i []:=trivial
theorem StepsC.cons {F:(Nat→Value)→Act} {S:World→Prop} {V:Nat→Value→World→Prop} {c:Nat→Option Nat} {i k:Nat} {o:Oper} {l:List Oper} {n dd:List Nat} (hk:i+1=k) (hn:(n.all fun j=>(yW o).contains j&&(c j==none||c j==some i))=true)
  (hdd:(dd.all (zaf ops c i o))=true) (h:∀ (xs:Nat→Value) (w:World),S w→AllV V xs w n→
  ∀ K:Act→World→Prop,Shut (∀ v w',S w'→V i v w'→(∀ j u,dd.contains j=false→V j u w→V j u w')→K ((F xs).put o.dst v) w')→
   if Region.wanted o (yielded ops (F xs).tmps)=true then Oper.wp P o (F xs) w K Q else K ((F xs).put o.dst undef) w) (hs:StepsC P ops Q F S V c k l):StepsC P ops Q F S V c i (o::l):=by
 subst hk;exact ⟨⟨n,dd,hn,hdd,h⟩,hs⟩
theorem StepsC.get {F:(Nat→Value)→Act} {S:World→Prop} {V:Nat→Value→World→Prop} {c:Nat→Option Nat}:∀ (l:List Oper) (i k:Nat) (o:Oper),StepsC P ops Q F S V c i l→l[k]?=some o→Wq P ops Q F S V c (i+k) o
 | [],_,_,_,_,h=>by simp at h
 | x::l,i,0,o,hs,h=>by simp at h;subst h;exact hs.1
 | x::l,i,k+1,o,hs,h=>by
  have:=StepsC.get l (i+1) k o hs.2 (by simpa using h)
  rwa [Nat.add_assoc,Kr 1 k] at this
theorem StepsC.take_get {F:(Nat→Value)→Act} {S:World→Prop} {V:Nat→Value→World→Prop} {c:Nat→Option Nat} {n i:Nat} {o:Oper} (h:StepsC P ops Q F S V c 0 (ops.toList.take n)) (hi:i<n) (ho:ops[i]?=some o):Wq P ops Q F S V c i o:=by
 have:=StepsC.get _ 0 i o h (by rw [List.getElem?_take,if_pos hi];simpa using ho)
 rwa [Jq] at this
theorem XQ (n:Nat) (a0:Act) (F:(Nat→Value)→Act) (hF:∀ xs,zB ops a0 xs=F xs) (S:World→Prop) (V:Nat→Value→World→Prop) (c:Nat→Option Nat) (L0:Array Bool) (hL0:L0=(Array.range ops.size).map fun j=>decide (j<n))
  (hd:ZJ ops=true) (hacyc:backB 0 ops.toList=true) (hn:n<ops.size) (hs:Region.sinkB .any ops n=true) (hc:Region.chainB .any ops n=true) (hseq:Region.seqB .any ops (ops.size - n) n L0=true) (hstep:StepsC P ops Q F S V c 0 (ops.toList.take n))
  (hT:∀ (xs:Nat→Value) (w:World),S w→(∀ j,j<n→(∀ k,c j=some k→n≤k)→V j (xs j) w)→wpList P ops Q (ops.toList.drop n) (F xs) w):
  ∀ (fuel:Nat) (listed:Array Bool) (xs:Nat→Value) (w:World),HeadInv .any ops n listed→((List.range n).filter fun j=>!zi listed j).length=fuel→S w→(∀ j,j<n→zi listed j=true→(∀ k,c j=some k→k<n→zi listed k=false)→V j (xs j) w)→
   wpAny P .any ops Q (fuel+(ops.size - n)) listed (zB ops a0 xs) w:=by
 have hback:∀ (i:Nat) (o:Oper),ops[i]?=some o→∀ e∈o.after,e.on<i:=fun i o h e he=>by have:=backB.get _ 0 i o hacyc (by simpa using h) e he;omega
 intro fuel
 induction fuel with
 | zero =>
  intro listed xs w inv hf hS hV;have hall:∀ j,j<n→zi listed j=true:=fun j hj=>by
   rcases hx:zi listed j with _ | _
   · exfalso;have:j∈(List.range n).filter fun j=>!zi listed j:=List.mem_filter.2 ⟨List.mem_range.2 hj,by simp [hx]⟩;rw [Ki hf] at this;cases this
   · rfl
  have hl:listed=L0:=by
   rw [hL0];apply Array.ext
   · simp [inv.size]
   · intro k h1 h2;have hk:k<ops.size:=by rw [←inv.size];exact h1
     simp only [Array.getElem_map,Array.getElem_range]
     by_cases hkn:k<n
     · have:=hall k hkn;simp only [zi,Array.getD,h1,dif_pos] at this;rw [decide_eq_true hkn];exact this
     · have:=inv.tail k (by omega) hk;simp only [Array.getD,h1,dif_pos] at this;rw [decide_eq_false hkn];exact this
  rw [Jq,hl,hF];have hlen:(ops.toList.drop n).length=ops.size - n:=by simp
  have:=wpAny_of_seq (P:=P) (md:=.any) (ops:=ops) (Q':=Q) (ops.toList.drop n) n L0 (F xs) w (fun j=>by simp) (by rw [hlen];exact hseq) (hT xs w hS fun j hj hcj=>hV j hj (hall j hj) fun k hk hkn=>by have:=hcj k hk;omega)
  rwa [hlen] at this
 | succ fuel ih =>
  intro listed xs w inv hf hS hV;obtain ⟨i0,hi0,hun0⟩:∃ i,i<n∧zi listed i=false:=by obtain ⟨i,hi⟩:=List.exists_mem_of_ne_nil ((List.range n).filter fun j=>!zi listed j) (fun h=>by rw [h] at hf;cases hf);obtain ⟨h1,h2⟩:=List.mem_filter.1 hi;exact ⟨i,List.mem_range.1 h1,by simpa using h2⟩
  rw [show fuel+1+(ops.size - n)=(fuel+(ops.size - n))+1 by omega];refine ⟨fun hr=>?_,fun i hi=>?_⟩
  · exfalso;have hall:∀ j,j<n→zi listed j=true:=by
     intro j
     induction j using Nat.strongRecOn with
     | _ j ihj =>
      intro hj;rcases hx:zi listed j with _ | _
      · exfalso;have hjs:j<ops.size:=by omega
        have hm:j∈Region.ready .any ops listed:=mem_ready.2 ⟨hx,ops[j],Array.getElem?_eq_getElem hjs,fun e he _=>by
         have h1:=hback j _ (Array.getElem?_eq_getElem hjs) e he;have h2:=ihj e.on h1 (by omega);have h3:e.on<listed.size:=by rw [inv.size];omega
         simp only [zi,Array.getD,h3,dif_pos] at h2 ⊢;exact h2⟩
        rw [hr] at hm;cases hm
      · rfl
    rw [hall i0 hi0] at hun0;cases hun0
  · have hin:i<n:=by
     rcases Jh i n with h | h
     · exact h
     · exact absurd hi (tail_waits hs hc hn inv _ i0 rfl hi0 hun0 i h)
    obtain ⟨h1,o,h2,h3⟩:=mem_ready.1 hi;have his:i<ops.size:=by omega
    have hon:zi listed i=false:=h1;have hset:∀ j,zi (listed.setIfInBounds i true) j=yS (zi listed) i true j:=by
     intro j
     by_cases hj:j=i
     · subst hj;simp [zi,yS,Array.getD,inv.size,his]
     · simp only [yS,hj,if_false];exact getD_set_ne true (Ne.symm hj)
    have e1:o.dst=zY ops i:=by simp [zY,h2]
    obtain ⟨nn,dd,hnn,hdd,hst⟩:=StepsC.take_get hstep hin h2;have hneed:AllV V xs w nn:=AllV.of _ fun j hj=>by
     have hj2:=List.all_eq_true.1 hnn j hj;rw [Jy,Bool.or_eq_true,Jx,Jx] at hj2;obtain ⟨hj3,hj4⟩:=hj2;have hj5:j∈yW o:=by simpa using hj3
     obtain ⟨e,he,rfl⟩:=List.mem_map.1 hj5;obtain ⟨he1,he2⟩:=List.mem_filter.1 he;have he1:e∈o.after:=by simpa using he1
     have h4:=h3 e he1 he2;have hlt:=hback i o h2 e he1;have h5:e.on<listed.size:=by rw [inv.size];omega
     refine hV _ (by omega) ?_ fun k hk _=>?_
     · simp only [zi,Array.getD,h5,dif_pos] at h4 ⊢;exact h4
     · rcases hj4 with hj4 | hj4
       · rw [hj4] at hk;cases hk
       · rw [hj4] at hk;injection hk with hk;subst hk;exact hon
    refine wpOp_step h2 fun K hK=>?_;rw [hF];refine hst xs w hS hneed K fun v w' hS' hVi hkeep=>?_;have hfr:(F xs).put o.dst v=zB ops a0 (yS xs i v):=by rw [←hF,e1,zB,zB,ZF (zY ops) xs i v _ _ List.nodup_range (List.mem_range.2 his) fun j hj hne t ht hc=>?_];have:=List.all_eq_true.1 (List.all_eq_true.1 hd i (List.mem_range.2 his)) j hj;rw [ht,hc] at this;simp [hne] at this
    rw [hfr];refine hK _ _ (ih _ _ _ (inv.set hi hin) ?_ hS' ?_)
    · have hlt:((List.range n).filter fun j=>!zi (listed.setIfInBounds i true) j).length+1=((List.range n).filter fun j=>!zi listed j).length:=by
       have key:∀ l:List Nat,l.Nodup→i∈l→(l.filter fun j=>!zi (listed.setIfInBounds i true) j).length+1=(l.filter fun j=>!zi listed j).length:=by
        intro l
        induction l with
        | nil=>intro _ h;cases h
        | cons k l ihl =>
         intro hnd hm;obtain ⟨hk,hnd⟩:=List.nodup_cons.1 hnd
         by_cases hki:k=i
         · subst hki;have e2:l.filter (fun j=>!zi (listed.setIfInBounds k true) j)=l.filter fun j=>!zi listed j:=List.filter_congr fun j hj=>by rw [hset];have:j≠k:=fun e=>hk (e ▸ hj);simp [yS,this]
           have a1:zi (listed.setIfInBounds k true) k=true:=by rw [hset];simp [yS]
           rw [List.filter_cons_of_neg (by rw [a1];decide),List.filter_cons_of_pos (by rw [hon];rfl),e2,Ji]
         · have hm2:i∈l:=by
            rcases Kn.1 hm with h | h
            · exact absurd h.symm hki
            · exact h
           have a1:zi (listed.setIfInBounds i true) k=zi listed k:=by rw [hset];simp [yS,hki]
           rw [List.filter_cons,List.filter_cons,a1]
           split
           · rw [Ji,Ji,←ihl hnd hm2]
           · exact ihl hnd hm2
       exact key _ List.nodup_range (List.mem_range.2 hin)
      omega
    · intro j hj hjon hcj;rw [hset] at hjon
      by_cases hji:j=i
      · subst hji;simpa [yS] using hVi
      · simp only [yS,hji,if_false] at hjon ⊢;have hoff:∀ k,c j=some k→k<n→k≠i∧zi listed k=false:=fun k hk hkn=>by
         have:=hcj k hk hkn;rw [hset] at this
         by_cases hki:k=i
         · subst hki;simp [yS] at this
         · exact ⟨hki,by simpa [yS,hki] using this⟩
        have hci:dd.contains j=false:=by
         rcases hdj:dd.contains j with _ | _
         · rfl
         · exfalso;have h6:=List.all_eq_true.1 hdd j (by simpa using hdj);unfold zaf at h6;rw [Bool.or_eq_true,Bool.or_eq_true,Jx] at h6;have h6:(match c j with | some k=>k==i||(yW o).contains k | none=>false)=true:=by
            rcases h6 with (h6 | h6) | h6
            · exact absurd h6 hji
            · exfalso;have hjs:j<ops.size:=by omega
              rw [Array.getElem?_eq_getElem hjs,Option.map_some,Option.getD_some] at h6;have hj5:i∈yW ops[j]:=by simpa using h6
              obtain ⟨e,he,hei⟩:=List.mem_map.1 hj5;obtain ⟨he1,he2⟩:=List.mem_filter.1 he;have he1:e∈ops[j].after:=by simpa using he1
              have hjl:listed.getD j false=true:=by
               have hjz:j<listed.size:=by rw [inv.size];exact hjs
               simp only [zi,Array.getD,hjz,dif_pos] at hjon ⊢;exact hjon
              have h8:=inv.closed j _ (Array.getElem?_eq_getElem hjs) hjl e he1 he2;rw [hei] at h8;have hiz:i<listed.size:=by rw [inv.size];exact his
              simp only [zi,Array.getD,hiz,dif_pos] at hon h8;rw [h8] at hon;cases hon
            · exact h6
           split at h6
           · rename_i k hk;rw [Bool.or_eq_true,Jx] at h6;rcases h6 with h6 | h6
             · exact (hoff k hk (by omega)).1 h6
             · have hj5:k∈yW o:=by simpa using h6
               obtain ⟨e,he,rfl⟩:=List.mem_map.1 hj5;obtain ⟨he1,he2⟩:=List.mem_filter.1 he;have he1:e∈o.after:=by simpa using he1
               have h4:=h3 e he1 he2;have hlt:=hback i o h2 e he1;have h5:e.on<listed.size:=by rw [inv.size];omega
               have h7:=(hoff e.on hk (by omega)).2;simp only [zi,Array.getD,h5,dif_pos] at h4 h7;rw [h4] at h7;cases h7
           · cases h6
        exact hkeep j _ hci (hV j hj hjon fun k hk hkn=>(hoff k hk hkn).2)
theorem Yn (n:Nat) (c:Nat→Option Nat) {id:Nat} {a:Act} {w:World} (S:World→Prop) (V:Nat→Value→World→Prop) (F:(Nat→Value)→Act) (hF:∀ xs,zB ops a xs=F xs)
  (hm:P.follows .mixedOrders=true) (hd:ZJ ops=true) (hacyc:backB 0 ops.toList=true) (hn:n<ops.size) (hs:Region.sinkB .any ops n=true) (hc:Region.chainB .any ops n=true)
  (hseq:Region.seqB .any ops (ops.size - n) n ((Array.range ops.size).map fun j=>decide (j<n))=true) (hS:S w.drew) (hstep:StepsC P ops Q F S V c 0 (ops.toList.take n))
  (hT:∀ (xs:Nat→Value) (w:World),S w→(∀ j,j<n→(∀ k,c j=some k→n≤k)→V j (xs j) w)→wpList P ops Q (ops.toList.drop n) (F xs) w):(Code.region id ops true).wp P Q a w:=by
 refine wp_region_any hm ?_;have hinv:HeadInv .any ops n (Array.replicate ops.size false):=⟨by simp,(fun j oj _ h=>by rw [getD_replicate_false] at h;cases h),fun t _ ht=>by simp [Array.getD,ht]⟩
 have hcount:((List.range n).filter fun j=>!zi (Array.replicate ops.size false) j).length=n:=by rw [List.filter_eq_self.2 fun j hj=>by have:=List.mem_range.1 hj;simp [zi,Array.getD,show j<ops.size by omega]];simp
 have h:=XQ n a F hF S V c _ rfl hd hacyc hn hs hc hseq hstep hT n (Array.replicate ops.size false) (fun j=>WJ a (zY ops j)) w.drew hinv hcount hS (fun j hj h=>by simp [zi,Array.getD,show j<ops.size by omega] at h);rw [zB,Ze,show n+(ops.size - n)=ops.size by omega] at h;exact h
end
end Go.Proofs.YtdaejggcjjdhkaaGreatDoor
namespace Go.Proofs.YtdaejggcjjdhkaaGreatDoor
open Go Go.RowKit
theorem jB (s:ByteArray) (a b:Nat) (ai bi:Int) (ha:ai=(a:Int)) (hb:bi=(b:Int)) (hab:a≤b) (hbs:b≤s.size):∀ wx,(Instr.slice 9 (.string s) (some (.int .i64 ai)) (some (.int .i64 bi)) none).run Tryz.prog wx=.ok (.string (s.extract a b)) wx:=by subst ha hb;intro wx;rw [run_slice_string _ _ _ _ _ _ _ Tryz.underlying9 (by omega) (by omega) (by omega)];simp
theorem jG (l:List UInt8) (i:Nat) (hi:i<l.length):(bs l).extract i (i+1)=bs [l[i]]:=by rw [show (bs l).extract i (i+1)=bs (((bl (bs l)).drop i).take (i+1 - i)) by rw [←Zq,Ym],Zh,Js hi,show i+1 - i=1 by omega];rfl
theorem Yj {w:World} {b:Nat} {e:TypeId} {k n:Nat} {v:Value} {xs:List Value} (h:w.ownsRow b e k v n xs) (hn:0<n):∃ g c,v=.slice (some ⟨g,0,none⟩) n c∧b≤g∧g<w.heap.size:=by
 rcases h.2 with ⟨_,q⟩ | ⟨g,cap,cur,q,q1,q2,_⟩
 · omega
 · exact ⟨g,cap,q,q1,by
    rcases Jh g w.heap.size with r | r
    · exact r
    · rw [Array.getElem?_eq_none r] at q2;cases q2⟩
theorem jC (out:List (List UInt8)) (c d:List UInt8):(sc (out++[c])).set out.length (.string (bs d))=sc (out++[d]):=by simp [sc]
theorem XM (s:List UInt8) (hs:s.length≤70000) (k:UInt8) (w:World):
  Calls Tryz.prog 105 #[.string (bs s),.int .u8 (k.toNat:Int)] w fun r w'=>∃ v,r=.returned v∧w'.ownsRow w.heap.size 9 1 v (Gl.cutL k s).length (sc (Gl.cutL k s))∧Below w.heap.size w w':=by
 have hz:=zd s;have HZ:=hY hz;have hs2:(bs s).size≤70000:=by omega
 have hO0:Hid ((w.alloc (.cells [Value.string ⟨#[]⟩].toArray 9)).ownsRow w.heap.size 9 1 (.slice (some ⟨w.heap.size,0,none⟩) 1 1) 1 (sc ([]++[[]]))):=hY (X6 w w.heap.size [Value.string ⟨#[]⟩] 9 1 rfl (by omega) (Jd _));have hB0:Hid (Below w.heap.size w (w.alloc (.cells [Value.string ⟨#[]⟩].toArray 9))):=hY ((Ja _ _).alloc (Jd _) _);clear hz;go_enter Tryz.func105,Tryz.ntmps105;go_wp2_with fail;go_loopw [5,6] (fun t5 t6 wr=>∃ (i m g cap:Nat) (out:List (List UInt8)) (cur:List UInt8),i≤(bs s).size∧out.length=m∧t5=.slice (some ⟨g,0,none⟩) (m+1) cap∧t6=.int .i64 (i:Int)∧m≤i∧cur.length≤i∧Hid (wr.ownsRow w.heap.size 9 1 (.slice (some ⟨g,0,none⟩) (m+1) cap) (m+1) (sc (out++[cur])))∧Hid (Gl.cutL k s=out++Ck.glue cur (Gl.cutL k (s.drop i)))∧Hid (Below w.heap.size w wr)) (fun _ t6 _=>(bs s).size - (intOf t6).toNat)
 case atStart=>exact ⟨0,0,_,_,[],[],by omega,rfl,rfl,rfl,by omega,by simp,hO0,hY (by rw [Jw,Ck.glue_nil];rfl),hB0⟩
 case round =>
  clear hO0 hB0;rename World=>wr;obtain ⟨i,m,g,cap,out,cur,hi,hm,rfl,rfl,hmi,hci,HO,HL,HB⟩:=hrel;have j0:(0:Int)≤(i:Int):=by omega
  rcases Jh i (bs s).size with hin | hin
  · have i0:decide ((i:Int)<((bs s).size:Int))=true:=dT (by omega);have i1:(i:Int)<((bs s).size:Int):=by omega
    have hil:i<s.length:=by rw [←HZ.out];exact hin
    obtain ⟨c,hc⟩:∃ c,(bs s)[i]'hin=c:=⟨_,rfl⟩
    have hcs:s[i]=c:=hc;have hdr:s.drop i=c::s.drop (i+1):=by rw [Js hil,hcs]
    have HOX:Hid ((bs s).extract i (i+1)=bs [c]):=hY (by rw [jG s i hil,hcs]);have hby:c.toNat<256:=Jm _;have e0:=yO c k;obtain ⟨q,hq⟩:∃ q,((c.toNat:Int)==(k.toNat:Int))=q:=⟨_,rfl⟩
    have HQ:Hid ((c==k)=q):=hY (e0.symm.trans hq);have HDR:=hY hdr;have HSL:=hY (jB (bs s) i (i+1) (i:Int) ((i:Int)+1) rfl (by omega) (by omega) (by omega));clear e0 hdr hcs;cases q with
    | true =>
     have hck:c=k:=Jx.1 HQ.out;have HL2:Hid (Gl.cutL k s=(out++[cur])++Ck.glue [] (Gl.cutL k (s.drop (i+1)))):=hY (by rw [HL.out,HDR.out,hck,Ck.glue_hit,Kv];rfl);clear hck;go_wp2_with (at_builtin;refine zp rfl _ _ _ rfl Yz w.heap.size _ (m+1) (sc (out++[cur])) rfl (HO.out.alloc _) _ 1 [Value.string ⟨#[]⟩] rfl (jI rfl) rfl (fun u hu=>by rw [Jv] at hu;subst hu;rfl) (by omega) (by omega) (Ja _ _) (by rw [Jb];have:=HB.out.size;omega) ?_;intro v1 w9 ho1 hb1 hg1 hat1;have HO9:Hid (w9.ownsRow w.heap.size 9 1 v1 (m+1+1) (sc ((out++[cur])++[[]]))):=hY (by rw [zG (out++[cur])];exact ho1);have HB9:=hY ((HB.out.alloc HB.out.size _).trans hb1);obtain ⟨g9,c9,rfl,_,_⟩:=Yj ho1 (by omega);clear ho1 hb1 hg1 hat1);go_roundw
     case rel=>first | exact ⟨i+1,m+1,g9,c9,out++[cur],[],by omega,by simp [hm],rfl,by go_num,by omega,by simp,HO9,HL2,HB9⟩ | exact ⟨_,_,⟨i+1,m+1,g9,c9,out++[cur],[],by omega,by simp [hm],rfl,by go_num,by omega,by simp,HO9,HL2,HB9⟩,rfl,rfl⟩
     case measure=>simp [intOf];omega
    | false =>
     have hck:¬ c=k:=fun r=>by have:=HQ.out;rw [Jr] at this;exact this r
     have HL2:Hid (Gl.cutL k s=out++Ck.glue (cur++[c]) (Gl.cutL k (s.drop (i+1)))):=hY (by rw [HL.out,HDR.out,Ck.glue_go k cur _ hck]);clear hck;have c1:wr.cell? ⟨g,m,none⟩=some (.string (bs cur)):=by have r:=HO.out.cellAt m (by omega);rw [r,←hm];simp [sc]
     have f1:wr.frozen? ⟨g,m,none⟩=false:=HO.out.frozenAt m;obtain ⟨V,hV⟩:∃ V,bs cur++bs [c]=V:=⟨_,rfl⟩
     have hzc:=zd cur;have hz1:=zd [c];have ad1:∀ w,(Op.stringOp .add (bs cur) (bs [c])).run Tryz.prog w=.ok (.string V) w:=fun w=>by rw [←hV];exact run_string_add_sum w _ _ (by simp at hz1;omega)
     have HVV:Hid (V=bs (cur++[c])):=by show _=_;rw [←hV,yJ]
     have hsl:=HSL.out;rw [HOX.out] at hsl;have HN:Hid ((wr.setCell ⟨g,m,none⟩ (.string V)).ownsRow w.heap.size 9 1 (.slice (some ⟨g,0,none⟩) (m+1) cap) (m+1) (sc (out++[cur++[c]]))):=hY (by have r:=(HO.out.stored m (.string V)).1;rw [←hm,HVV.out,jC] at r;rw [←hm,HVV.out];exact r);have hgb:w.heap.size≤g:=by obtain ⟨g',c',e',q1,_⟩:=Yj HO.out (by omega);injection e' with e' _ _;injection e' with e';injection e' with e';omega
     have HB2:=hY (HB.out.setCell (p:=⟨g,m,none⟩) hgb (.string V));have w1:((m+1:Nat):Int) - 1=(m:Int):=by omega
     have hm6:m≤70000:=by omega
     clear hz1 hzc hV hgb;go_upto_region 7 with fail;go_region
     all_goals (
      go_wp2_with fail;exact ⟨⟨i+1,m,g,cap,out,cur++[c],by omega,hm,rfl,by go_num,by omega,by simp;omega,hY (zy HN.out (Ja _ _).drew),HL2,hY HB2.out.drew⟩,by simp [intOf];omega⟩)
  · have i0:decide ((i:Int)<((bs s).size:Int))=false:=dF (by omega);have e0n:decide (i<(bs s).size)=false:=dF (by omega);have HE:Hid (Gl.cutL k s=out++[cur]):=hY (by rw [HL.out,Jt (by have:=HZ.out;omega),Ck.glue_end]);go_wp2_with fail;go_ret;refine ⟨_,rfl,?_,HB.out⟩;rw [HE.out,Jf,hm];exact HO.out
end Go.Proofs.YtdaejggcjjdhkaaGreatDoor
