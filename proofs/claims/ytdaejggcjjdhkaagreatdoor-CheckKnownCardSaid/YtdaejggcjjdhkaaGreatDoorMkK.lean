/- strataref15: the reader, its pieces, put, told, walked. -/
import Derived.Test.YtdaejggcjjdhkaaGreatDoorMkJ
import Derived.Test.YtdaejggcjjdhkaaGreatDoorMkA
import Derived.Deep.QuietTactic
import Derived.BigQuiet
import Derived.Test.YtdaejggcjjdhkaaGreatDoorMkC
import Derived.Test.YtdaejggcjjdhkaaGreatDoorMkB
import Derived.Lib.AppendStr
set_option maxHeartbeats 2000000
set_option maxRecDepth 100000
namespace Go.Proofs.YtdaejggcjjdhkaaGreatDoor
open Go Go.RowKit
def yC (s:List UInt8) (p:Nat) (e:UInt8) (no:Int) (v:Value):Array Value:=#[.string (bs s),.int .i64 (p:Int),.int .u8 (e.toNat:Int),.int .i64 no,v]
theorem ZZ (s:List UInt8) (hs:s.length≤2000000) (p:Nat) (hp:p≤s.length) (e:UInt8) (no:Int) (v:Value) (R:Nat) (w:World) (hb:Blk w R 180 (yC s p e no v)):
  Calls Tryz.prog 180 #[.pointer (some ⟨R,0,none⟩)] w fun r w'=>r=.returned (.tuple #[.int .u8 (((s.getD (p+1) 0).toNat:Nat):Int),.bool (decide (p+1<s.length))])∧Below w.heap.size w w':=by
 have hz:=zd s;have HZ:=hY hz;have hs2:(bs s).size≤2000000:=by omega
 have b0:w.cell? ⟨R,0,none⟩=some (.string (bs s)):=hb.cell 0;have b1:w.cell? ⟨R,1,none⟩=some (.int .i64 (p:Int)):=hb.cell 1;have HB:=hY hb;clear hb;rcases Jh (p+1) (bs s).size with h | h
 · have k0:decide (((bs s).size:Int)≤(p:Int)+1)=false:=dF (by omega);have k1:¬ ((bs s).size:Int)≤(p:Int)+1:=by omega
   have k2:(p:Int)+1<((bs s).size:Int):=by omega
   have k3:(0:Int)≤(p:Int)+1:=by omega
   obtain ⟨c,hc⟩:∃ c,(bs s)[p+1]'h=c:=⟨_,rfl⟩
   have HC:Hid (s.getD (p+1) 0=c):=hY (by
    have h2:p+1<s.length:=by omega
    rw [List.getD_eq_getElem?_getD,Jk h2];exact hc)
   have HD:Hid (decide (p+1<s.length)=true):=hY (by rw [Jj];omega);have hby:c.toNat<256:=Jm _;clear hz;rw [HC.out,HD.out];go_enter Tryz.func180,Tryz.ntmps180;go_upto_region 1 with fail;go_region
   all_goals (
    have b0':w.drew.cell? ⟨R,0,none⟩=some (.string (bs s)):=b0;have b1':w.drew.cell? ⟨R,1,none⟩=some (.int .i64 (p:Int)):=b1;go_upto_region 3 with fail;go_region
    all_goals (
     go_wp2_with fail;go_ret2;exact ⟨rfl,(Ja _ _).drew.drew⟩))
 · have k0:decide (((bs s).size:Int)≤(p:Int)+1)=true:=dT (by omega);have k1:((bs s).size:Int)≤(p:Int)+1:=by omega
   have HC:Hid (s.getD (p+1) 0=0):=hY (by rw [List.getD_eq_getElem?_getD,List.getElem?_eq_none (by omega)];rfl);have HD:Hid (decide (p+1<s.length)=false):=hY (by rw [Ka];omega);clear hz;rw [HC.out,HD.out];go_enter Tryz.func180,Tryz.ntmps180;go_upto_region 1 with fail;go_region
   all_goals (
    go_wp2_with fail;go_ret2;exact ⟨rfl,(Ja _ _).drew⟩)
theorem yb (w:World) (R i:Nat) (u:Value):Fx (fun b=>b=R) w (w.setCell ⟨R,i,none⟩ u):=⟨rfl,rfl,rfl,by rw [zS];exact Jd _,fun b _ hn=>RowKit.Below.heap_setCell _ _ _ _ hn⟩
theorem yA (s:List UInt8) (hs:s.length≤2000000) (p:Nat) (e:UInt8) (no k:Int) (v:Value) (R:Nat) (w:World) (hb:Blk w R 180 (yC s p e no v)):
  Calls Tryz.prog 184 #[.pointer (some ⟨R,0,none⟩),.int .i64 k] w fun r w'=>r=.returned (.tuple #[])∧Blk w' R 180 (yC s s.length e (if no=0 then k else no) v)∧Fx (fun b=>b=R) w w':=by
 have hz:=zd s;have HZ:=hY hz;have hs2:(bs s).size≤2000000:=by omega
 have HB:=hY hb;have b0:w.cell? ⟨R,0,none⟩=some (.string (bs s)):=hb.cell 0;have b3:w.cell? ⟨R,3,none⟩=some (.int .i64 no):=hb.cell 3;have b1:w.cell? ⟨R,1,none⟩=some (.int .i64 (p:Int)):=hb.cell 1;have f1:=hb.frozen 1;have f3:=hb.frozen 3;clear hb hz
 by_cases h:no=0
 · subst h;have HK2:=hY (HB.out.set_ 3 (.int .i64 k));have HF2:=hY (yb w R 3 (.int .i64 k));go_enter Tryz.func184,Tryz.ntmps184;go_upto_region 2 with fail;obtain ⟨w2,hw2⟩:∃ y,w.setCell ⟨R,3,none⟩ (.int .i64 k)=y:=⟨_,rfl⟩
   rw [hw2] at HK2 HF2;rw [hw2];clear hw2 b0 b1 b3 f1 f3;have b0:w2.cell? ⟨R,0,none⟩=some (.string (bs s)):=HK2.out.cell 0;have b1:w2.cell? ⟨R,1,none⟩=some (.int .i64 (p:Int)):=HK2.out.cell 1;have f1:=HK2.out.frozen 1;have HK3:=hY (HK2.out.set_ 1 (.int .i64 ((bs s).size:Int)));go_wp2_with fail;go_end0;refine ⟨rfl,?_,HF2.out.trans (yb _ _ _ _)⟩;have r:=HK3.out;rw [HZ.out] at r ⊢;simpa [yC] using r
 · have k0:(no==0)=false:=by rw [Jr];exact h
   have HK3:=hY (HB.out.set_ 1 (.int .i64 ((bs s).size:Int)));go_enter Tryz.func184,Tryz.ntmps184;go_wp2_with fail;go_end0;refine ⟨rfl,?_,yb _ _ _ _⟩;have r:=HK3.out;rw [HZ.out] at r ⊢;simpa [yC] using r
theorem yx:Vq Tryz.prog 203 4:=⟨⟨_,Tryz.underlying203⟩,by kernel_rfl⟩
theorem zF (s:List UInt8) (hs:s.length≤2000000) (p n:Nat) (hp:p+n≤s.length) (e:UInt8) (no:Int) (v:Value) (R:Nat) (w:World) (hb:Blk w R 180 (yC s p e no v)):
  Calls Tryz.prog 181 #[.pointer (some ⟨R,0,none⟩),.int .i64 (n:Int)] w fun r w'=>r=.returned (.agg #[.string (bs ((s.drop p).take n)),.string ⟨#[]⟩,.int .u8 0,.slice none 0 0])∧Blk w' R 180 (yC s (p+n) e no v)∧Fx (fun b=>b=R) w w':=by
 have hz:=zd s;have HZ:=hY hz;have hs2:(bs s).size≤2000000:=by omega
 have HB:=hY hb;have HSL:Hid (∀ wx,(Instr.slice 9 (.string (bs s)) (some (.int .i64 (p:Int))) (some (.int .i64 ((p:Int)+(n:Int)))) none).run Tryz.prog wx=.ok (.string ((bs s).extract p (p+n))) wx):=hY (yG (bs s) p (p+n) (p:Int) ((p:Int)+(n:Int)) rfl (by omega) (by omega) (by omega));have HEX:Hid ((bs s).extract p (p+n)=bs ((s.drop p).take n)):=hY (by rw [show (bs s).extract p (p+n)=bs (((bl (bs s)).drop p).take (p+n - p)) by rw [←Zq,Ym],Zh,show p+n - p=n by omega]);obtain ⟨x,hx⟩:∃ x,(s.drop p).take n=x:=⟨_,rfl⟩
 have hsl:=HSL.out;rw [HEX.out,hx] at hsl;rw [hx];clear HSL HEX hx;have b0:w.cell? ⟨R,0,none⟩=some (.string (bs s)):=hb.cell 0;have b1:w.cell? ⟨R,1,none⟩=some (.int .i64 (p:Int)):=hb.cell 1;have x0:(w.alloc (.cells #[.string ⟨#[]⟩,.string ⟨#[]⟩,.int .u8 0,.slice none 0 0] 203)).cell? ⟨R,0,none⟩=some (.string (bs s)):=(hb.alloc _).cell 0;have x1:(w.alloc (.cells #[.string ⟨#[]⟩,.string ⟨#[]⟩,.int .u8 0,.slice none 0 0] 203)).cell? ⟨R,1,none⟩=some (.int .i64 (p:Int)):=(hb.alloc _).cell 1;have y0:((w.alloc (.cells #[.string ⟨#[]⟩,.string ⟨#[]⟩,.int .u8 0,.slice none 0 0] 203)).alloc (.cells #[.string ⟨#[]⟩,.string ⟨#[]⟩,.int .u8 0,.slice none 0 0] 203)).cell? ⟨R,0,none⟩=some (.string (bs s)):=((hb.alloc _).alloc _).cell 0;have y1:((w.alloc (.cells #[.string ⟨#[]⟩,.string ⟨#[]⟩,.int .u8 0,.slice none 0 0] 203)).alloc (.cells #[.string ⟨#[]⟩,.string ⟨#[]⟩,.int .u8 0,.slice none 0 0] 203)).cell? ⟨R,1,none⟩=some (.int .i64 (p:Int)):=((hb.alloc _).alloc _).cell 1;have hp6:p+n≤2000000:=by omega
 clear hb hz;go_enter Tryz.func181,Tryz.ntmps181;go_upto_region 1 with fail;go_region
 all_goals (
  have HB1:Hid (Below w.heap.size w ((w.alloc (.cells #[.string ⟨#[]⟩,.string ⟨#[]⟩,.int .u8 0,.slice none 0 0] 203)).alloc (.cells #[.string (bs x),.string ⟨#[]⟩,.int .u8 0,.slice none 0 0] 203)).drew):=hY (((Ja w.heap.size w).alloc (Jd _) _).alloc (by simp only [Jb];omega) _).drew;have KR:Hid (Blk ((w.alloc (.cells #[.string ⟨#[]⟩,.string ⟨#[]⟩,.int .u8 0,.slice none 0 0] 203)).alloc (.cells #[.string (bs x),.string ⟨#[]⟩,.int .u8 0,.slice none 0 0] 203)).drew R 180 (yC s p e no v)):=hY (((HB.out.alloc _).alloc _).drewN 1);have KZ:Hid (Blk ((w.alloc (.cells #[.string ⟨#[]⟩,.string ⟨#[]⟩,.int .u8 0,.slice none 0 0] 203)).alloc (.cells #[.string (bs x),.string ⟨#[]⟩,.int .u8 0,.slice none 0 0] 203)).drew w.heap.size 203 #[.string ⟨#[]⟩,.string ⟨#[]⟩,.int .u8 0,.slice none 0 0]):=hY (((Blk.new w 203 #[.string ⟨#[]⟩,.string ⟨#[]⟩,.int .u8 0,.slice none 0 0]).alloc _).drewN 1);have KP:Hid (Blk ((w.alloc (.cells #[.string ⟨#[]⟩,.string ⟨#[]⟩,.int .u8 0,.slice none 0 0] 203)).alloc (.cells #[.string (bs x),.string ⟨#[]⟩,.int .u8 0,.slice none 0 0] 203)).drew (w.heap.size+1) 203 #[.string (bs x),.string ⟨#[]⟩,.int .u8 0,.slice none 0 0]):=hY (by have q:=Blk.new (w.alloc (.cells #[.string ⟨#[]⟩,.string ⟨#[]⟩,.int .u8 0,.slice none 0 0] 203)) 203 #[.string (bs x),.string ⟨#[]⟩,.int .u8 0,.slice none 0 0];simp only [Jb] at q;exact q.drewN 1)
  obtain ⟨w1,hw1⟩:∃ y,((w.alloc (.cells #[.string ⟨#[]⟩,.string ⟨#[]⟩,.int .u8 0,.slice none 0 0] 203)).alloc (.cells #[.string (bs x),.string ⟨#[]⟩,.int .u8 0,.slice none 0 0] 203)).drew=y:=⟨_,rfl⟩
  rw [hw1] at HB1 KR KZ KP;rw [hw1];clear hw1 b0 b1 x0 x1 y0 y1 hsl;have hRl:R<w.heap.size:=HB.out.lt;have c1:w1.cell? ⟨R,1,none⟩=some (.int .i64 (p:Int)):=KR.out.cell 1;have f1:=KR.out.frozen 1;have k2:=yb w1 R 1 (.int .i64 ((p:Int)+(n:Int)));have KR2:Hid (Blk (w1.setCell ⟨R,1,none⟩ (.int .i64 ((p:Int)+(n:Int)))) R 180 (yC s (p+n) e no v)):=hY (by
   have q:=KR.out.set_ 1 (.int .i64 ((p:Int)+(n:Int)));have e2:((p:Int)+(n:Int))=((p+n:Nat):Int):=by omega
   rw [e2] at q ⊢;simpa [yC] using q)
  have KZ2:=hY (k2.blk KZ.out (by show ¬ w.heap.size=R;omega));have KP2:=hY (k2.blk KP.out (by show ¬ w.heap.size+1=R;omega));have FX2:Hid (Fx (fun b=>b=R) w (w1.setCell ⟨R,1,none⟩ (.int .i64 ((p:Int)+(n:Int))))):=hY ((Fx.new HB1.out).trans k2);have SZ2:Hid (w.heap.size≤(w1.setCell ⟨R,1,none⟩ (.int .i64 ((p:Int)+(n:Int)))).heap.size):=hY FX2.out.size;clear k2;go_upto_region 3 with fail;obtain ⟨w2,hw2⟩:∃ y,w1.setCell ⟨R,1,none⟩ (.int .i64 ((p:Int)+(n:Int)))=y:=⟨_,rfl⟩
  rw [hw2] at KR2 KZ2 KP2 FX2;rw [hw2];clear hw2 c1 f1 KR KZ KP HB1 SZ2;have c0:w2.cell? ⟨w.heap.size+1,0,none⟩=some (.string (bs x)):=KP2.out.cell 0;have c1:w2.cell? ⟨w.heap.size+1,1,none⟩=some (.string ⟨#[]⟩):=KP2.out.cell 1;have c2:w2.cell? ⟨w.heap.size+1,2,none⟩=some (.int .u8 0):=KP2.out.cell 2;have c3:w2.cell? ⟨w.heap.size+1,3,none⟩=some (.slice none 0 0):=KP2.out.cell 3;go_wp2_with (refine ze rfl _ _ _ rfl yx w.heap.size #[.string (bs x),.string ⟨#[]⟩,.int .u8 0,.slice none 0 0] #[.string ⟨#[]⟩,.string ⟨#[]⟩,.int .u8 0,.slice none 0 0] rfl rfl KZ2.out rfl rfl rfl ?_;intro w3 hK3 hg3 hz3);have hF3:=FX2.out.then (Fx.of_grown hg3) (fun b hb h=>by injection h with h;omega)
  have hR3:=(Fx.of_grown hg3).blk KR2.out (fun h=>by injection h with h;omega);exact bodyPost_ret (zo rfl yx rfl hK3 rfl) rfl ⟨rfl,hR3,hF3⟩)
def Rw4 (w:World) (X:Nat→Prop) (A:Option Addr) (m:Nat) (ys:List Value):Prop:=0<m→∃ b,A=some ⟨b,0,none⟩∧¬ X b∧b<w.heap.size∧∀ (j:Nat) (u:Value),ys[j]?=some u→w.cell? ⟨b,j,none⟩=some u
def P1c (w:World) (X:Nat→Prop) (I:Nat→List Value→Prop) (a b c d:Option Value):Prop:=∃ (t nm:List UInt8) (op:UInt8) (A:Option Addr) (m k:Nat) (ys:List Value),a=some (.string (bs t))∧b=some (.string (bs nm))∧c=some (.int .u8 (op.toNat:Int))∧d=some (.slice A m k)∧t.length≤2000000∧nm.length≤2000000∧m≤2000001∧Rw4 w X A m ys∧I m ys
def Pc (w:World) (X:Nat→Prop):Nat→Nat→List Value→Prop
 | 0,n,xs=>n=0∧xs=[]
 | d+1,n,xs=>xs.length=n*4∧∀ i,i<n→P1c w X (Pc w X d) xs[i*4]? xs[i*4+1]? xs[i*4+2]? xs[i*4+3]?
section
variable {w w':World} {X X' S:Nat→Prop} {n m:Nat} {xs ys:List Value}
theorem Rw4.fx {A:Option Addr} (h:Rw4 w X A m ys) (k:Fx S w w') (hX:∀ b,b<w.heap.size→S b∨X' b→X b):Rw4 w' X' A m ys:=fun hm=>by obtain ⟨b,e,hb,hl,hc⟩:=h hm;exact ⟨b,e,fun hx=>hb (hX b hl (.inr hx)),Nat.lt_of_lt_of_le hl k.size,fun j u hu=>k.cell (hc j u hu) fun hs=>hb (hX b hl (.inl hs))⟩
theorem P1c.mono {I I':Nat→List Value→Prop} {a b c d:Option Value} (hI:∀ m ys,I m ys→I' m ys) (h:P1c w X I a b c d):P1c w X I' a b c d:=by obtain ⟨t,nm,op,A,m,k,ys,h1,h2,h3,h4,h5,h6,h7,h8,h9⟩:=h;exact ⟨t,nm,op,A,m,k,ys,h1,h2,h3,h4,h5,h6,h7,h8,hI _ _ h9⟩
theorem P1c.fx {I I':Nat→List Value→Prop} {a b c d:Option Value} (hI:∀ m ys,I m ys→I' m ys) (k:Fx S w w') (hX:∀ b,b<w.heap.size→S b∨X' b→X b) (h:P1c w X I a b c d):P1c w' X' I' a b c d:=by obtain ⟨t,nm,op,A,m,k2,ys,h1,h2,h3,h4,h5,h6,h7,h8,h9⟩:=h;exact ⟨t,nm,op,A,m,k2,ys,h1,h2,h3,h4,h5,h6,h7,h8.fx k hX,hI _ _ h9⟩
theorem Pc.up:∀ {d n:Nat} {xs:List Value},Pc w X d n xs→Pc w X (d+1) n xs
 | 0,n,xs,h=>by obtain ⟨rfl,rfl⟩:=h;exact ⟨rfl,fun i hi=>absurd hi (by omega)⟩
 | d+1,n,xs,h=>⟨h.1,fun i hi=>(h.2 i hi).mono fun _ _=>Pc.up⟩
theorem Pc.upto {d d':Nat} (hd:d≤d') (h:Pc w X d n xs):Pc w X d' n xs:=by
 induction hd with
 | refl=>exact h
 | step _ ih=>exact Pc.up ih
theorem Pc.fx (k:Fx S w w') (hX:∀ b,b<w.heap.size→S b∨X' b→X b):∀ {d n:Nat} {xs:List Value},Pc w X d n xs→Pc w' X' d n xs
 | 0,_,_,h=>h
 | _+1,_,_,h=>⟨h.1,fun i hi=>(h.2 i hi).fx (fun _ _=>Pc.fx k hX) k hX⟩
theorem Pc.append {d:Nat} (h:Pc w X (d+1) n xs) (k:Pc w X (d+1) m ys):Pc w X (d+1) (n+m) (xs++ys):=by
 refine ⟨by rw [Jf,h.1,k.1,Nat.add_mul],fun i hi=>?_⟩;have hl:=h.1;rcases Jh i n with hn | hn
 · have:=h.2 i hn;rw [Kb (by omega),Kb (by omega),Kb (by omega),Kb (by omega)];exact this
 · have:=k.2 (i - n) (by omega);rw [Kc (by omega),Kc (by omega),Kc (by omega),Kc (by omega),hl,
    show i*4 - n*4=(i - n)*4 by omega,show i*4+1 - n*4=(i - n)*4+1 by omega,show i*4+2 - n*4=(i - n)*4+2 by omega,show i*4+3 - n*4=(i - n)*4+3 by omega]
   exact this
def PC (w:World) (X:Nat→Prop) (n:Nat) (xs:List Value):Prop:=∃ d,Pc w X (d+1) n xs
theorem PC.nil:PC w X 0 []:=⟨0,rfl,fun i hi=>absurd hi (by omega)⟩
theorem PC.append (h:PC w X n xs) (k:PC w X m ys):PC w X (n+m) (xs++ys):=by obtain ⟨d,h⟩:=h;obtain ⟨d',k⟩:=k;exact ⟨d+d',(h.upto (by omega)).append (k.upto (by omega))⟩
theorem PC.fx (k:Fx S w w') (hX:∀ b,b<w.heap.size→S b∨X' b→X b) (h:PC w X n xs):PC w' X' n xs:=by obtain ⟨d,h⟩:=h;exact ⟨d,h.fx k hX⟩
theorem PC.one {t nm:List UInt8} {op:UInt8} {A:Option Addr} {c:Nat} (ht:t.length≤2000000) (hn:nm.length≤2000000) (hm:m≤2000001) (hr:Rw4 w X A m ys) (h:PC w X m ys):PC w X 1 [.string (bs t),.string (bs nm),.int .u8 (op.toNat:Int),.slice A m c]:=by
 obtain ⟨d,h⟩:=h;refine ⟨d+1,rfl,fun i hi=>?_⟩;obtain rfl:i=0:=by omega
 exact ⟨t,nm,op,A,m,c,ys,rfl,rfl,rfl,rfl,ht,hn,hm,hr,h⟩
theorem PC.len (h:PC w X n xs):xs.length=n*4:=by obtain ⟨d,h⟩:=h;exact h.1
theorem PC.one_cell (h:PC w X n xs):∀ u∈xs,u.oneCell'=true:=by
 obtain ⟨d,h⟩:=h;intro u hu;obtain ⟨j,hj,rfl⟩:=List.getElem_of_mem hu;have hl:=h.1;obtain ⟨t,nm,op,A,m,c,ys,h1,h2,h3,h4,_⟩:=h.2 (j / 4) (by omega);have hg:xs[j]?=some xs[j]:=Jk hj;have hq:j=j / 4*4∨j=j / 4*4+1∨j=j / 4*4+2∨j=j / 4*4+3:=by omega
 rcases hq with e | e | e | e
 · rw [←e,hg] at h1;injection h1 with h1;rw [h1];rfl
 · rw [←e,hg] at h2;injection h2 with h2;rw [h2];rfl
 · rw [←e,hg] at h3;injection h3 with h3;rw [h3];rfl
 · rw [←e,hg] at h4;injection h4 with h4;rw [h4];rfl
theorem Rw4.own {base:Nat} {e:TypeId} {A:Option Addr} {c:Nat} (h:w.ownsRow base e 4 (.slice A n c) n xs) (hX:∀ b,(Value.slice A n c).ownBlock=some b→¬ X b):Rw4 w X A n xs:=fun hn=>by
 obtain ⟨g,cap,hv,hb,hlt⟩:=h.form hn;have hA:A=some ⟨g,0,none⟩:=by injection hv
 subst hA;exact ⟨g,rfl,hX g rfl,hlt,fun j u hu=>by have:=h.cells (g:=g) rfl j u hu;rwa [Addr.add_lit,Jq] at this⟩
end
def Nw (w:World) (v v':Value):Prop:=v'.ownBlock=v.ownBlock∨∃ b,v'.ownBlock=some b∧w.heap.size≤b
def Qm (R:Nat) (v:Value) (b:Nat):Prop:=b=R∨v.ownBlock=some b
def jY (w:World) (v:Value) (b:Nat):Prop:=∃ (n:Nat) (ns:List (List UInt8)),w.ownsRow 0 9 1 v n (sc ns)∧n≤b∧∀ x∈ns,x.length≤2000000
def RS15 (w:World) (R:Nat) (s:List UInt8) (p:Nat) (e:UInt8) (no:Int) (v:Value):Prop:=Blk w R 180 (yC s p e no v)∧jY w v (min p s.length)∧v.ownBlock≠some R
section
variable {w w1 w2:World} {R p:Nat} {s:List UInt8} {e:UInt8} {no:Int} {v v1 v2:Value} {S:Nat→Prop}
theorem Nw.refl (w:World) (v:Value):Nw w v v:=.inl rfl
theorem Nw.trans (h:Nw w v v1) (k:Nw w1 v1 v2) (hs:w.heap.size≤w1.heap.size):Nw w v v2:=by
 rcases k with k | ⟨b,k,hb⟩
 · rcases h with h | ⟨b,h,hb⟩
   · exact .inl (k.trans h)
   · exact .inr ⟨b,k.trans h,hb⟩
 · exact .inr ⟨b,k,by omega⟩
theorem Fx.s15 (h:Fx (Qm R v) w w1) (k:Fx (Qm R v1) w1 w2) (hn:Nw w v v1):Fx (Qm R v) w w2:=h.then k fun b hb hh=>by
 rcases hh with hh | hh
 · exact .inl hh
 · rcases hn with e | ⟨b',e,hl⟩
   · exact .inr (e ▸ hh)
   · rw [e] at hh;injection hh with hh;omega
theorem RS15.fx (h:RS15 w R s p e no v) (k:Fx S w w1) (hS:∀ b,b<w.heap.size→S b→b≠R∧v.ownBlock≠some b):RS15 w1 R s p e no v:=by obtain ⟨hb,⟨n,ns,ho,hn,hl⟩,hv⟩:=h;exact ⟨k.blk hb (fun hs=>(hS _ hb.lt hs).1 rfl),⟨n,ns,k.own ho (fun g hg hs=>(hS g (ho.lt g hg).2 hs).2 hg),hn,hl⟩,hv⟩
theorem RS15.new (h:RS15 w R s p e no v) (k:Below w.heap.size w w1):RS15 w1 R s p e no v:=h.fx (S:=fun _=>False) (Fx.new k) (fun _ _ h=>h.elim)
theorem RS15.to {q:Nat} {no':Int} (h:RS15 w R s p e no v) (k:Fx (fun b=>b=R) w w1) (hq:min p s.length≤q) (hb:Blk w1 R 180 (yC s q e no' v)):RS15 w1 R s q e no' v:=by obtain ⟨_,⟨n,ns,ho,hn,hl⟩,hv⟩:=h;exact ⟨hb,⟨n,ns,k.own ho (fun g hg hs=>hv (by rw [hg];exact congrArg _ hs)),by omega,hl⟩,hv⟩
theorem RS15.at_ {q:Nat} (h:RS15 w R s p e no v) (hq:p≤q):RS15 (w.setCell ⟨R,1,none⟩ (.int .i64 (q:Int))) R s q e no v:=
 h.to (yb w R 1 _) (by omega) (by have:=h.1.set_ 1 (.int .i64 (q:Int));simpa [yC] using this)
theorem Fx.to15 (k:Fx (fun b=>b=R) w w1):Fx (Qm R v) w w1:=k.mono fun _ _ h=>.inl h
end
structure L15 (w0 w:World) (R:Nat) (s:List UInt8) (p:Nat) (e:UInt8) (no:Int) (v0 v lv:Value) (n:Nat) (xs:List Value):Prop where
 rs:RS15 w R s p e no v
 nw:Nw w0 v0 v
 fx:Fx (Qm R v0) w0 w
 own:w.ownsRow w0.heap.size 203 4 lv n xs
 pc:PC w (fun b=>b<w0.heap.size∨v.ownBlock=some b∨lv.ownBlock=some b) n xs
 ne:∀ g,lv.ownBlock=some g→v.ownBlock≠some g
 lt:R<w0.heap.size
section
variable {w0 w w1:World} {R p:Nat} {s:List UInt8} {e:UInt8} {no:Int} {v0 v lv:Value} {n:Nat} {xs:List Value}
theorem L15.start (h:RS15 w R s p e no v):L15 w w R s p e no v v (.slice none 0 0) 0 []:=
 ⟨h,.inl rfl,Fx.refl,Kj _ _ _ _,PC.nil,fun g hg=>(by cases hg),h.1.lt⟩
theorem L15.go {p':Nat} {no':Int} {v':Value} (h:L15 w0 w R s p e no v0 v lv n xs) (hr:RS15 w1 R s p' e no' v') (hn:Nw w v v') (k:Fx (Qm R v) w w1):L15 w0 w1 R s p' e no' v0 v' lv n xs:=by
 have hlt:=h.lt;have hsz:=h.fx.size;refine ⟨hr,h.nw.trans hn hsz,h.fx.s15 k h.nw,k.own h.own (fun g hg hs=>?_),h.pc.fx k (fun b hb hh=>?_),fun g hg hv=>?_,hlt⟩
 · rcases hs with hs | hs
   · have:=(h.own.lt g hg).1;omega
   · exact h.ne g hg hs
 · rcases hh with (hh | hh) | hh | hh | hh
   · exact .inl (by omega)
   · exact .inr (.inl hh)
   · exact .inl hh
   · rcases hn with e | ⟨b',e,hl⟩
     · exact .inr (.inl (e ▸ hh))
     · rw [e] at hh;injection hh with hh;omega
   · exact .inr (.inr hh)
 · rcases hn with e | ⟨b',e,hl⟩
   · exact h.ne g hg (e ▸ hv)
   · rw [e] at hv;injection hv with hv;have:=(h.own.lt g hg).2;omega
theorem L15.new (h:L15 w0 w R s p e no v0 v lv n xs) (k:Below w.heap.size w w1):L15 w0 w1 R s p e no v0 v lv n xs:=h.go (h.rs.new k) (.inl rfl) (Fx.new k)
theorem L15.drewN (h:L15 w0 w R s p e no v0 v lv n xs) (m:Nat):L15 w0 (w.drewN m) R s p e no v0 v lv n xs:=h.new (zj (Ja _ _) m)
theorem L15.drew (h:L15 w0 w R s p e no v0 v lv n xs):L15 w0 w.drew R s p e no v0 v lv n xs:=h.drewN 1
theorem L15.alloc (h:L15 w0 w R s p e no v0 v lv n xs) (o:Obj):L15 w0 (w.alloc o) R s p e no v0 v lv n xs:=h.new ((Ja _ _).alloc (Jd _) o)
theorem L15.at_ {q:Nat} (h:L15 w0 w R s p e no v0 v lv n xs) (hq:p≤q):L15 w0 (w.setCell ⟨R,1,none⟩ (.int .i64 (q:Int))) R s q e no v0 v lv n xs:=h.go (h.rs.at_ hq) (.inl rfl) (yb w R 1 _).to15
theorem L15.to {q:Nat} {no':Int} (h:L15 w0 w R s p e no v0 v lv n xs) (k:Fx (fun b=>b=R) w w1) (hq:min p s.length≤q) (hb:Blk w1 R 180 (yC s q e no' v)):L15 w0 w1 R s q e no' v0 v lv n xs:=h.go (h.rs.to k hq hb) (.inl rfl) k.to15
theorem L15.push {lv':Value} {m:Nat} {ys:List Value} (h:L15 w0 w R s p e no v0 v lv n xs) (k:w.grownBy w1 lv.ownBlock) (ho:w1.ownsRow w0.heap.size 203 4 lv' (n+m) (xs++ys)) (hv:lv'.ownBlock=lv.ownBlock∨∃ g,w.heap.size≤g∧lv'.ownBlock=some g)
  (hu:PC w (fun b=>b<w0.heap.size∨v.ownBlock=some b∨lv.ownBlock=some b) m ys):L15 w0 w1 R s p e no v0 v lv' (n+m) (xs++ys):=by
 have k1:=Fx.of_grown k;have hlt:=h.lt;have hsz:=h.fx.size;obtain ⟨_,⟨nn,ns,hno,_,_⟩,_⟩:=h.rs;refine ⟨h.rs.fx k1 (fun b hb hs=>⟨fun hR=>?_,fun hvb=>h.ne b hs hvb⟩),h.nw,h.fx.then k1 (fun b hb hs=>?_),ho,(h.pc.append hu).fx k1 (fun b hb hh=>?_),fun g hg hvg=>?_,hlt⟩
 · have:=(h.own.lt b hs).1;omega
 · have:=(h.own.lt b hs).1;omega
 · rcases hh with hh | hh | hh | hh
   · exact .inr (.inr hh)
   · exact .inl hh
   · exact .inr (.inl hh)
   · rcases hv with e | ⟨g,hg,e⟩
     · exact .inr (.inr (e ▸ hh))
     · rw [e] at hh;injection hh with hh;omega
 · rcases hv with e | ⟨g',hl,e⟩
   · exact h.ne g (e ▸ hg) hvg
   · rw [e] at hg;injection hg with hg;have:=(hno.lt g hvg).2;omega
end
namespace Ex
abbrev E:=Nat ⊕ List UInt8
def er:R→E
 | .inl z=>.inl z
 | .inr (_,t)=>.inr t
theorem er_adds (t:List Tk) (x:R):er (adds t x)=er x:=by
 cases x with
 | inl z=>rfl
 | inr p=>rfl
end Ex
def kb (k:Ex.Kd):Nat:=match k with
 | .braces=>1
 | _=>0
def Zp (k:Ex.Kd) (s:List UInt8) (x:Ex.E) (no:Int) (p:Nat):Prop:=match x with
 | .inl z=>no=(z:Int)∧z≠0∧s.length≤p∧p+kb k≤s.length+1
 | .inr t=>no=0∧p+t.length+kb k=s.length
def YA (k:Ex.Kd) (s:List UInt8) (e:UInt8) (x:Ex.E) (no:Int) (p:Nat):Prop:=(no=0∧p≤s.length∧Ex.er (Ex.readL e k (s.drop p))=x)∨∃ z:Nat,x=.inl z∧no=(z:Int)∧z≠0∧s.length≤p∧p≤s.length+1
def XO (k:Ex.Kd) (w:World) (R:Nat) (s:List UInt8) (p:Nat) (e:UInt8) (v:Value) (x:Ex.E) (r:Ending) (w':World):Prop:=∃ p' no v' lv n xs,r=.returned lv∧L15 w w' R s p' e no v v' lv n xs∧n+p≤p'+1∧Zp k s x no p'
def Ya (w:World) (R:Nat) (s:List UInt8) (p:Nat) (e:UInt8) (v:Value) (x:Ex.E) (r:Ending) (w':World):Prop:=∃ p' no v' t nm op A m c ys,r=.returned (.agg #[.string (bs t),.string (bs nm),.int .u8 ((op:UInt8).toNat:Int),.slice A m c])∧RS15 w' R s p' e no v'∧Nw w v v'∧Fx (Qm R v) w w'∧t.length≤2000000∧nm.length≤2000000∧m≤2000001∧Rw4 w' (fun b=>b<w.heap.size∨v'.ownBlock=some b) A m ys∧PC w' (fun b=>b<w.heap.size∨v'.ownBlock=some b) m ys∧p+1≤p'∧Zp .plain s x no p'
theorem jJ:yP Tryz.prog 38 9 (.string ⟨#[]⟩) 1 16:=⟨Tryz.underlying38,by kernel_rfl,rfl,by decide⟩
theorem Wu (nm:List UInt8) (w:World):Calls Tryz.prog 195 #[.slice none 0 0,.string (bs nm)] w fun r w'=>r=.returned (.string ⟨#[]⟩)∧w=w':=by
 go_enter Tryz.func195,Tryz.ntmps195;go_wp2_with fail;go_loopw [5] (fun t5 wr=>t5=.int .i64 (-1)∧w=wr) (fun _ _=>0)
 case atStart=>exact ⟨rfl,rfl⟩
 case round =>obtain ⟨rfl,rfl⟩:=hrel;go_wp2_with fail;go_ret;exact ⟨rfl,rfl⟩
theorem XE (s:List UInt8) (p:Nat) (e:UInt8) (no:Int) (v:Value) (R:Nat) (w:World) (name:List UInt8) (b:Nat) (hb:Blk w R 180 (yC s p e no v)) (hn:jY w v b) (hvR:v.ownBlock≠some R) (hbb:b≤2000001) (hnl:name.length≤2000000):
  Calls Tryz.prog 194 #[.pointer (some ⟨R,0,none⟩),.string (bs name)] w fun r w'=>r=.returned (.tuple #[])∧∃ v',Blk w' R 180 (yC s p e no v')∧jY w' v' (b+1)∧v'.ownBlock≠some R∧Nw w v v'∧Fx (Qm R v) w w':=by
 obtain ⟨n,ns,ho,hnb,hns⟩:=hn;obtain ⟨A,c,rfl⟩:=zc ho;have hlen:ns.length=n:=by have:=ho.1;rw [Zb] at this;omega
 have b4:w.cell? ⟨R,4,none⟩=some (.slice A n c):=hb.cell 4;have HB:=hY hb;have HO:=hY ho;have HNS:=hY hns;have HVR:=hY hvR;clear hb ho hns hvR;go_enter Tryz.func194,Tryz.ntmps194;go_wp2_with fail;go_loopw [4] (fun t4 wr=>∃ i:Nat,i≤n∧t4=.int .i64 (i:Int)∧w=wr) (fun t4 _=>n - (intOf t4).toNat)
 case atStart=>exact ⟨0,by omega,rfl,rfl⟩
 case round =>
  obtain ⟨i,hi,rfl,rfl⟩:=hrel;have j0:(0:Int)≤(i:Int):=by omega
  rcases Jh i n with hin | hin
  · have i0:decide ((i:Int)<(n:Int))=true:=dT (by omega);have i1:(i:Int)<(n:Int):=by omega
    obtain ⟨g,cap,hv,hbg,hlt⟩:=HO.out.form (by omega);injection hv with hA _ hk;subst hA hk;obtain ⟨x,hx⟩:∃ x,ns[i]'(by omega)=x:=⟨_,rfl⟩
    have ci:w.cell? ⟨g,i,none⟩=some (.string (bs x)):=by
     have:=HO.out.cells (g:=g) rfl i (.string (bs x)) (by rw [←hx];simp [sc,show i<ns.length by omega])
     rwa [Addr.add_lit,Jq] at this
    clear hlt hx;obtain ⟨q,hq⟩:∃ q,((bs x).toList==(bs name).toList)=q:=⟨_,rfl⟩
    cases q with
    | true =>go_wp2_with fail;refine bodyPost_ret (results_none rfl _ _ _) rfl ?_;exact ⟨rfl,_,HB.out,⟨n,ns,HO.out,by omega,HNS.out⟩,HVR.out,Nw.refl _ _,Fx.refl⟩
    | false =>
     go_wp2_with fail;go_roundw
     case rel=>exact ⟨i+1,by omega,by go_num,by trivial⟩
     case measure=>simp [intOf];omega
  · have i0:decide ((i:Int)<(n:Int))=false:=dF (by omega);have e0n:decide (i<n)=false:=dF (by omega);have HAL:=hY ((Ja w.heap.size w).alloc (Jd _) (.cells #[.string (bs name)] 9));have HNW:=hY (zA w w.heap.size rfl [.string (bs name)] 9);have HBA:=hY ((Ja 0 w).alloc (Nat.zero_le _) (.cells #[.string (bs name)] 9));have HOA:=hY (HO.out.alloc (.cells #[.string (bs name)] 9));have HRA:=hY (HB.out.alloc (.cells #[.string (bs name)] 9));have hn2:n≤2000001:=by omega
    go_wp2_with (at_builtin;refine zg rfl _ _ _ rfl jJ 0 _ _ _ rfl HOA.out _ 1 1 [.string (bs name)] rfl rfl HNW.out (zr rfl) (by omega) (by omega) HBA.out (Nat.zero_le _) ?_;intro v6 w6 ho1 hb1 hg1 hat1;obtain ⟨A6,c6,rfl⟩:=zc ho1;have hR6:=hg1.block R HRA.out.lt (fun e=>HVR.out e.symm);have hR7:Blk w6 R 180 _:=hR6.trans HRA.out;have k0:w6.cell? ⟨R,4,none⟩=some (.slice A n c):=hR7.cell 4;have f0:=hR7.frozen 4);have hG:(w.alloc (.cells #[.string (bs name)] 9)).grownBy w6 (Value.slice A n c).ownBlock:=hg1;have hat:(Value.slice A6 (n+1) c6).ownBlock=(Value.slice A n c).ownBlock∨(Value.slice A6 (n+1) c6).ownBlock=some (w.alloc (.cells #[.string (bs name)] 9)).heap.size:=hat1;have HR7:=hY hR7;have hRl:R<w.heap.size:=HB.out.lt;have hvR':(Value.slice A6 (n+1) c6).ownBlock≠some R:=by
     rcases hat with e | e
     · rw [e];exact HVR.out
     · rw [e,Jb];intro h;injection h with h;omega
    clear hg1 hat1 k0 f0 hR6 hR7;go_end0;refine ⟨rfl,_,?_,⟨n+1,ns++[name],?_,by omega,?_⟩,hvR',?_,?_⟩
    · have r:=HR7.out.set_ 4 (.slice A6 (n+1) c6);simpa [yC] using r
    · rw [zG];exact (yb w6 R 4 (.slice A6 (n+1) c6)).own ho1 (fun g hg h=>hvR' (by rw [hg];exact congrArg _ h))
    · intro x hx;rcases Km.1 hx with hx | hx
      · exact HNS.out x hx
      · rw [Jv] at hx;subst hx;exact hnl
    · rcases hat with e | e
      · exact .inl e
      · exact .inr ⟨_,e,by rw [Jb];omega⟩
    · refine ((Fx.new HAL.out).then (S:=Qm R (.slice A n c)) (Fx.of_grown hG) (fun b _ h=>.inr h)).trans ((yb w6 R 4 (.slice A6 (n+1) c6)).mono fun b _ h=>.inl h)
def jq (d:Nat):Prop:=∀ (base n:Nat) (xs:List Value) (A:Option Addr) (c:Nat) (ov:Value) (l:List UInt8) (w:World),Rw4 w (fun b=>base≤b) A n xs→Pc w (fun b=>base≤b) d n xs→n≤2000010→w.ownsRow base 5 1 ov l.length (bc l)→l.length≤65536→base≤w.heap.size→
 Calls Tryz.prog 183 #[ov,.slice A n c,.slice none 0 0] w fun r w'=>∃ ov' l' ok,r=.returned (.tuple #[ov',.bool ok])∧w'.ownsRow base 5 1 ov' (l':List UInt8).length (bc l')∧l'.length≤65536∧Below base w w'
theorem Pc.get {w:World} {X:Nat→Prop} {d n:Nat} {xs:List Value} (h:Pc w X d n xs) {i:Nat} (hi:i<n):∃ d',d=d'+1∧P1c w X (Pc w X d') xs[i*4]? xs[i*4+1]? xs[i*4+2]? xs[i*4+3]?:=by
 cases d with
 | zero=>exact absurd h.1 (by omega)
 | succ d=>exact ⟨d,rfl,h.2 i hi⟩
theorem zan:(Tryz.prog.info? 5).map (fun i=>(i.zero,i.size,i.bytes))=some (some (.int .u8 0),1,1):=by kernel_rfl
theorem Wc {w w':World} {base:Nat} (h:Below base w w'):Fx (fun b=>base≤b) w w':=Fx.of_below h
theorem zab (t:List UInt8):Lib.strCells (bs t)=bc t:=rfl
theorem YT (d:Nat) (IH:∀ d',d=d'+1→jq d'):jq d:=by
 intro base n xs A c ov l w hrw hpc hn hown hl hbase;obtain ⟨iu,hiu,hzu,hsu,hbu⟩:=info_parts zan;have HRW:=hY hrw;have HPC:=hY hpc;have HO0:=hY hown;have HI:=hY IH;clear hrw hpc hown IH;go_enter Tryz.func183,Tryz.ntmps183;go_wp2_with fail;go_loopw [0,8,9] (fun t0 t8 t9 wr=>∃ (i:Nat) (l:List UInt8) (ok:Bool),i≤n∧t9=.int .i64 (i:Int)∧t8=.bool ok∧Hid (wr.ownsRow base 5 1 t0 l.length (bc l))∧l.length≤65536∧Hid (Below base w wr)) (fun _ _ t9 _=>n - (intOf t9).toNat)
 case atStart=>exact ⟨0,l,true,by omega,rfl,rfl,HO0,hl,hY (Ja _ _)⟩
 case round =>
  rename World=>wr;obtain ⟨i,l1,ok,hi,rfl,rfl,HO,hl1,HB⟩:=hrel;clear HO0 hl l;obtain ⟨A0,c0,rfl⟩:=zc HO.out;have hbw:base≤wr.heap.size:=Jg hbase HB.out.size;have j0:(0:Int)≤(i:Int):=by omega
  have hfin:∃ ov' l' ok',(Ending.returned (.tuple #[.slice A0 l1.length c0,.bool ok])=.returned (.tuple #[ov',.bool ok']))∧wr.ownsRow base 5 1 ov' (l':List UInt8).length (bc l')∧l'.length≤65536∧Below base w wr:=⟨_,l1,_,rfl,HO.out,hl1,HB.out⟩
  have HFIN:=hY hfin;clear hfin;rcases Jh i n with hin | hin
  · have i0:decide ((i:Int)<(n:Int))=true:=dT (by omega);have i1:(i:Int)<(n:Int):=by omega
    cases ok with
    | false =>go_wp2_with fail;go_ret2;exact HFIN.out
    | true =>
     obtain ⟨d',hd,t,nm,op,A2,m2,c2,ys,hx0,hx1,hx2,hx3,ht,hnm,hm2,hrw2,hpc2⟩:=HPC.out.get hin;obtain ⟨g,hA,hgX,hgl,hgc⟩:=HRW.out (by omega);subst hA;have hgb:g<base:=Nat.lt_of_not_le hgX;have cell:∀ j u,xs[j]?=some u→wr.cell? ⟨g,j,none⟩=some u:=fun j u hu=>(HB.out.cell (p:=⟨g,j,none⟩) hgb).trans (hgc j u hu);have e0:wr.cell? ⟨g,i*4,none⟩=some (.string (bs t)):=cell _ _ hx0;have e1:wr.cell? ⟨g,i*4+1,none⟩=some (.string (bs nm)):=cell _ _ hx1;have e2:wr.cell? ⟨g,i*4+2,none⟩=some (.int .u8 (op.toNat:Int)):=cell _ _ hx2;have e3:wr.cell? ⟨g,i*4+3,none⟩=some (.slice A2 m2 c2):=cell _ _ hx3;have hob:op.toNat<256:=Jm _;have HR2:=hY (hrw2.fx (X':=fun b=>base≤b) (Wc HB.out) (fun b _ h=>h.elim id id));have HP2:=hY (hpc2.fx (X':=fun b=>base≤b) (Wc HB.out) (fun b _ h=>h.elim id id));have HI2:=hY (HI.out d' hd);clear cell hgX hgl hgc hrw2 hpc2 hx0 hx1 hx2 hx3 hd HI;go_upto_region 6 with fail;have KP:Hid (Blk (wr.alloc (.cells #[.string (bs t),.string (bs nm),.int .u8 (op.toNat:Int),.slice A2 m2 c2] 203)) wr.heap.size 203 #[.string (bs t),.string (bs nm),.int .u8 (op.toNat:Int),.slice A2 m2 c2]):=hY (Blk.new wr 203 #[.string (bs t),.string (bs nm),.int .u8 (op.toNat:Int),.slice A2 m2 c2]);have HB1:Hid (Below wr.heap.size wr (wr.alloc (.cells #[.string (bs t),.string (bs nm),.int .u8 (op.toNat:Int),.slice A2 m2 c2] 203))):=hY ((Ja _ _).alloc (Jd _) _);obtain ⟨w1,hw1⟩:∃ y,wr.alloc (.cells #[.string (bs t),.string (bs nm),.int .u8 (op.toNat:Int),.slice A2 m2 c2] 203)=y:=⟨_,rfl⟩
     have hz1:w1.heap.size=wr.heap.size+1:=by rw [←hw1,Jb]
     rw [hw1] at KP HB1;rw [hw1];clear hw1 e0 e1 e2 e3;have k0:w1.cell? ⟨wr.heap.size,0,none⟩=some (.string (bs t)):=KP.out.cell 0;have k1:w1.cell? ⟨wr.heap.size,1,none⟩=some (.string (bs nm)):=KP.out.cell 1;have k2:w1.cell? ⟨wr.heap.size,2,none⟩=some (.int .u8 (op.toNat:Int)):=KP.out.cell 2;have k3:w1.cell? ⟨wr.heap.size,3,none⟩=some (.slice A2 m2 c2):=KP.out.cell 3;obtain ⟨x,hx⟩:∃ x,(bs nm).toList.isEmpty=x:=⟨_,rfl⟩
     obtain ⟨T,hT⟩:∃ T,(if x then t else [])=T:=⟨_,rfl⟩
     have hTl:T.length≤2000000:=by rw [←hT];split <;> simp [ht]
     have HT:=hY hT;clear hT;go_upto_if 30 with fail;go_cut [11] from 31 to 34 (fun s11 wx=>s11=.string (bs T)∧w1=wx)
     case first =>
      cases x with
      | true =>go_wp2_with fail;go_meet;exact ⟨by rw [←HT.out];rfl,by trivial⟩
      | false =>go_wp2_with fail;refine (Wu nm _).mono ?_;rintro a wv ⟨rfl,rfl⟩;go_wp2_with fail;go_meet;exact ⟨by rw [←HT.out];rfl,by trivial⟩
     case rest =>
      obtain ⟨rfl,rfl⟩:=hcut;clear hx HT k0 k1;obtain ⟨x45,e45⟩:∃ b,((op.toNat:Int)==45)=b:=⟨_,rfl⟩
      obtain ⟨x43,e43⟩:∃ b,((op.toNat:Int)==43)=b:=⟨_,rfl⟩
      obtain ⟨xe,ee⟩:∃ b,(bs T).toList.isEmpty=b:=⟨_,rfl⟩
      obtain ⟨tk,htk⟩:∃ b,Hid ((x45&&xe||x43&&!xe)=b):=⟨_,hY rfl⟩
      go_upto_region 9 with fail;go_cut [12] from 35 to 50 (fun s12 wx=>s12=.bool tk∧w1=wx)
      case first =>
       cases x45 <;> cases x43 <;> cases xe <;> (
        go_wp2_with fail;go_meet;exact ⟨by rw [←htk.out];rfl,by trivial⟩)
      case rest =>
       obtain ⟨rfl,rfl⟩:=hcut;clear ee htk e45;obtain ⟨S,hS⟩:∃ S,(if x43 then [] else T)=S:=⟨_,rfl⟩
       have hSl:S.length≤2000000:=by rw [←hS];split <;> simp [hTl]
       have HS:=hY hS;clear hS;go_upto_if 53 with fail;go_cut [11] from 34 to 34 (fun s11 wx=>s11=.string (bs S)∧w1=wx)
       case first =>
        cases x43 <;> (
         go_wp2_with fail;go_meet;exact ⟨by rw [←HS.out];rfl,by trivial⟩)
       case rest =>
        obtain ⟨rfl,rfl⟩:=hcut;clear HS e43;have hzs:(bs S).size=S.length:=zd S;have HZS:=hY hzs;have hzs2:(bs S).size≤2000000:=by omega
        rcases Jh 65536 (l1.length+S.length) with hbig | hfit
        · have q0:decide ((65536:Int)<(l1.length:Int)+((bs S).size:Int))=true:=dT (by omega);have q1:(65536:Int)<(l1.length:Int)+((bs S).size:Int):=by omega
          clear hzs;go_wp2_with fail;go_ret2;exact ⟨_,l1,false,rfl,zy HO.out HB1.out,hl1,za HB.out HB1.out hbw⟩
        · have q0:decide ((65536:Int)<(l1.length:Int)+((bs S).size:Int))=false:=dF (by omega);have q1:¬ (65536:Int)<(l1.length:Int)+((bs S).size:Int):=by omega
          have HO1:=hY (zy HO.out HB1.out);have hbw1:base≤w1.heap.size:=by omega
          clear hzs;go_upto_region 15 with (at_builtin;refine Lib.wpList_append_own_string _ rfl _ _ 98 9 rfl base 5 iu Tryz.underlying98 Tryz.underlying9 hiu hzu hsu hbu _ _ _ rfl HO1.out (bs S) rfl (by unfold maxLen;omega) (by omega) hbw1 ?_;intro v2 w2 ho2 hg2 _;obtain ⟨A4,c4,rfl⟩:=zc ho2)
          obtain ⟨l2,hl2⟩:∃ l2,l1++S=l2:=⟨_,rfl⟩
          have hn2:l1.length+(bs S).size=l2.length:=by rw [HZS.out,←hl2,Jf]
          rw [zab,←Qj,hl2,hn2] at ho2;rw [hn2];have hl2b:l2.length≤65536:=by have:=HZS.out;omega
          have hg3:w1.grownBy w2 (Value.slice A0 l1.length c0).ownBlock:=hg2;have hb2:Below base wr w2:=(HB1.out.mono hbw).grown hg3 hbw1 (fun k hk=>(HO1.out.lt k hk).1);have HB2:=hY hb2;have HBW:=hY (HB.out.trans hb2);have HO2:=hY ho2;have KP2:=hY ((Fx.of_grown hg3).blk KP.out (fun h=>by have:=(HO.out.lt _ h).2;omega));have HR3:=hY (HR2.out.fx (X':=fun b=>base≤b) (Wc hb2) (fun b _ h=>h.elim id id));have HP3:=hY (HP2.out.fx (X':=fun b=>base≤b) (Wc hb2) (fun b _ h=>h.elim id id));have hbw2:base≤w2.heap.size:=Jg hbw hb2.size;clear hg2 hg3 hb2 ho2 hl2 hn2 HO1 q0 q1 hzs2 HZS HR2 HP2 k2 k3;have k3:w2.cell? ⟨wr.heap.size,3,none⟩=some (.slice A2 m2 c2):=KP2.out.cell 3;cases tk with
          | true =>
           go_wp2_with fail;refine (HI2.out base m2 ys A2 c2 _ l2 w2 HR3.out HP3.out (by omega) HO2.out hl2b hbw2).mono ?_;rintro a w3 ⟨ov',l3,ok3,rfl,ho3,hl3,hb3⟩;have HO3:=hY ho3;have HB3:=hY (HBW.out.trans hb3);clear ho3 hb3;go_wp2_with fail;go_roundw
           case rel=>exact ⟨i+1,l3,ok3,by omega,by go_num,by trivial,HO3,hl3,HB3⟩
           case measure=>simp [intOf];omega
          | false =>
           go_wp2_with fail;go_roundw
           case rel=>exact ⟨i+1,l2,true,by omega,by go_num,by trivial,HO2,hl2b,HBW⟩
           case measure=>simp [intOf];omega
  · have i0:decide ((i:Int)<(n:Int))=false:=dF (by omega);have e0n:decide (i<n)=false:=dF (by omega);go_wp2_with fail;go_ret2;exact HFIN.out
theorem Xz:∀ d,jq d
 | 0=>YT 0 fun d' h=>by omega
 | d+1=>YT (d+1) fun d' h=>by
  obtain rfl:d=d':=by omega
  exact Xz d
theorem Vw (s:List UInt8) (p:Nat) (e:UInt8) (no:Int) (v:Value) (R:Nat) (n:Nat) (xs:List Value) (lv:Value) (w:World) (hb:Blk w R 180 (yC s p e no v)) (hown:w.ownsRow 0 203 4 lv n xs) (hpc:PC w (fun b=>w.heap.size≤b) n xs) (hn:n≤2000010):
  Calls Tryz.prog 156 #[.pointer (some ⟨R,0,none⟩),lv,.slice none 0 0] w fun r w'=>(∃ (t:ByteArray) (k:Int),r=.returned (.tuple #[.string t,.int .i64 k])∧(no=0→k=0∨k=5)∧(no≠0→k=no))∧Below w.heap.size w w':=by
 obtain ⟨A,c,rfl⟩:=zc hown;have hrw:Rw4 w (fun b=>w.heap.size≤b) A n xs:=Rw4.own hown (fun b hb hx=>by have:=(hown.lt b hb).2;omega);obtain ⟨d,hd⟩:=hpc;have HC:=hY (Xz (d+1) w.heap.size n xs A c (.slice none 0 0) [] w hrw hd hn (Kj _ _ _ _) (by simp) (Jd _));have b3:w.cell? ⟨R,3,none⟩=some (.int .i64 no):=hb.cell 3;clear hb hrw hd hown
 by_cases h0:no=0
 · subst h0;go_enter Tryz.func156,Tryz.ntmps156;go_wp2_with fail;refine HC.out.mono ?_;rintro a w3 ⟨ov',l3,ok3,rfl,ho3,hl3,hb3⟩;obtain ⟨A3,c3,rfl⟩:=zc ho3;have HB3:=hY hb3;have hstr:=WL (P:=Tryz.prog) (t:=98) Tryz.underlying98 Tryz.underlying5 ho3 9 Tryz.underlying9;clear ho3 hb3;cases ok3 with
   | true =>go_wp2_with fail;go_ret2;exact ⟨⟨_,_,rfl,fun _=>.inl rfl,fun h=>absurd rfl h⟩,HB3.out⟩
   | false =>go_wp2_with fail;go_ret2;exact ⟨⟨_,_,rfl,fun _=>.inr rfl,fun h=>absurd rfl h⟩,HB3.out⟩
 · have k0:(no==0)=false:=by rw [Jr];exact h0
   have HB1:=hY ((Ja w.heap.size w).drew);go_enter Tryz.func156,Tryz.ntmps156;go_upto_region 2 with fail;go_region
   all_goals (
    go_wp2_with fail;go_ret2;exact ⟨⟨_,_,rfl,fun h=>absurd h h0,fun _=>rfl⟩,HB1.out⟩)
end Go.Proofs.YtdaejggcjjdhkaaGreatDoor
