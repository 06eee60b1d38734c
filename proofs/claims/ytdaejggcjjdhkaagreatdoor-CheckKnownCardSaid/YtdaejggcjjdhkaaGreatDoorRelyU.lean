/- CkRi, RelyU, CkLp -/
import Derived.Test.YtdaejggcjjdhkaaGreatDoorMkK
import Derived.Test.YtdaejggcjjdhkaaGreatDoorCkRd
import Derived.Test.YtdaejggcjjdhkaaGreatDoorCkRg
import Derived.Test.YtdaejggcjjdhkaaGreatDoorCkRh
import Derived.Test.YtdaejggcjjdhkaaGreatDoorMkD
import Derived.StillTail
import Derived.Test.YtdaejggcjjdhkaaGreatDoorCkLt
set_option maxHeartbeats 1000000
set_option maxRecDepth 100000
namespace Go.Proofs.YtdaejggcjjdhkaaGreatDoor
open Go Go.RowKit
theorem ZD {s:List UInt8} {e:UInt8} (hs:s.length≤2000000):∀ (N:Nat) (b:Bool) (p0 R:Nat) (v:Value) (w:World),s.length - p0<N→p0≤s.length→RS15 w R s p0 e 0 v→
  Calls Tryz.prog 157 #[.pointer (some ⟨R,0,none⟩),.bool b] w (XO (if b then .braces else .plain) w R s p0 e v (Ex.er (Ex.readL e (if b then .braces else .plain) (s.drop p0))))
 | 0,_,_,_,_,_,h,_,_=>absurd h (by omega)
 | N+1,b,p0,R,v,w,hN,hp0,h=>by have hv:∀ (p:Nat) (R:Nat) (v:Value) (w:World),p0≤p→p<s.length→RS15 w R s p e 0 v→Calls Tryz.prog 182 #[.pointer (some ⟨R,0,none⟩)] w (Ya w R s p e v (Ex.er (Ex.vR e (s.drop (p+1))))):=fun p R v w h1 h2 h3 =>Zu hs h2 (fun p' R v w h4 h5 h6=>ZD hs N true p' R v w (by omega) h5 h6) h3 (hY rfl);exact X3 hs hp0 hv (fun q R v w h1 h2 h3=>X0 hs h2 (fun p R v w h4 h5 h6=>hv p R v w (by omega) h5 h6) h3 (hY rfl)) rfl h (hY rfl)
theorem UM {s:List UInt8} {e:UInt8} (hs:s.length≤2000000) (p:Nat) (R:Nat) (v:Value) (w:World) (h2:p<s.length) (h3:RS15 w R s p e 0 v):Calls Tryz.prog 182 #[.pointer (some ⟨R,0,none⟩)] w (Ya w R s p e v (Ex.er (Ex.vR e (s.drop (p+1))))):=
 Zu hs h2 (fun p' R v w h4 h5 h6=>ZD hs (s.length+1) true p' R v w (by omega) h5 h6) h3 (hY rfl)
theorem WU {w:World} {base n k:Nat} {e:TypeId} {v:Value} {xs:List Value} (h:w.ownsRow base e k v n xs):w.ownsRow 0 e k v n xs:=by
 refine ⟨h.1,?_⟩;rcases h.2 with h1 | ⟨g,cap,cur,e1,h2,h3⟩
 · exact .inl h1
 · exact .inr ⟨g,cap,cur,e1,Nat.zero_le _,h3⟩
theorem YL {k:Ex.Kd} {s:List UInt8} {e:UInt8} {w w1 w2:World} {R p' n:Nat} {no:Int} {v v' lv:Value} {xs:List Value} (hL:L15 w1 w2 R s p' e no v v' lv n xs) (hn:n≤p'+1) (hs:s.length≤2000000) (hd:Zp k s (Ex.er (Ex.readL e k s)) no p') (hB:Below w.heap.size w w1) (hR:w.heap.size≤R) (hv:v.ownBlock=none):
  Calls Tryz.prog 156 #[.pointer (some ⟨R,0,none⟩),lv,.slice none 0 0] w2 fun r w'=>(∃ (t:ByteArray) (q:Int),r=.returned (.tuple #[.string t,.int .i64 q])∧(Ck.errR (Ex.readL e k s)=0→q=0∨q=5)∧(Ck.errR (Ex.readL e k s)≠0→q=(Ck.errR (Ex.readL e k s):Nat)))∧Below w.heap.size w w':=by
 have hp':p'≤s.length+1:=by
  cases hr:Ex.readL e k s with
  | inl z=>rw [hr] at hd;have:=hd.2.2.2;omega
  | inr pr=>rw [hr] at hd;have:=hd.2;omega
 refine (Vw s p' e no v' R n xs lv w2 hL.rs.1 (WU hL.own) (hL.pc.fx (S:=fun _=>False) Fx.refl (fun b hb h=>h.elim False.elim fun h=>absurd h (by show ¬ _≤b;omega))) (by omega)).mono ?_;rintro r w' ⟨⟨t,q,rfl,h1,h2⟩,hb⟩;have hb2:Below w.heap.size w w2:=hB.trans (hL.fx.to_below hB.size (fun b h=>by
  rcases h with h | h
  · omega
  · rw [hv] at h;cases h))
 refine ⟨⟨t,q,rfl,fun h=>?_,fun h=>?_⟩,za hb2 hb hb2.size⟩
 · cases hr:Ex.readL e k s with
   | inl z=>rw [hr] at hd h;exact absurd h hd.2.1
   | inr pr=>rw [hr] at hd;exact h1 hd.1
 · cases hr:Ex.readL e k s with
   | inl z=>rw [hr] at hd h;rw [h2 (by rw [hd.1];have:=hd.2.1;omega),hd.1];rfl
   | inr pr=>rw [hr] at h;exact absurd rfl h
theorem WN (w:World) (s:List UInt8) (e:UInt8):RS15 (w.alloc (.cells (yC s 0 e 0 (.slice none 0 0)) 180)) w.heap.size s 0 e 0 (.slice none 0 0):=
 ⟨Blk.new _ _ _,⟨0,[],Kj _ _ _ _,Nat.zero_le _,by simp⟩,by intro h;cases h⟩
theorem Vt (s:List UInt8) (hs:s.length≤2000000) (e:UInt8) (w:World):Calls Tryz.prog 128 #[.string (bs s),.int .u8 (e.toNat:Int),.slice none 0 0] w fun r w'=>(∃ (t:ByteArray) (q:Int),r=.returned (.tuple #[.string t,.int .i64 q])∧(Ck.wordL e s=0→q=0∨q=5)∧(Ck.wordL e s≠0→q=(Ck.wordL e s:Nat)))∧Below w.heap.size w w':=by
 have H1:=hY (WN w s e);have HB1:=hY ((Ja w.heap.size w).alloc (Jd _) (.cells (yC s 0 e 0 (.slice none 0 0)) 180));go_enter Tryz.func128,Tryz.ntmps128;go_upto_region 2 with fail;obtain ⟨w1,hw1⟩:∃ y,w.alloc (.cells (yC s 0 e 0 (.slice none 0 0)) 180)=y:=⟨_,rfl⟩
 rw [hw1] at H1 HB1;have hw1':w.alloc (.cells #[.string (bs s),.int .i64 0,.int .u8 (e.toNat:Int),.int .i64 0,.slice none 0 0] 180)=w1:=hw1;rw [hw1'];clear hw1 hw1';have HC:=hY (ZD hs (s.length+1) false 0 w.heap.size _ w1 (by omega) (Nat.zero_le _) H1.out);go_wp2_with fail;refine HC.out.mono ?_;rintro a w2 ⟨p',no,v',lv,n,xs,rfl,hL,hn,hd⟩;have HT:=hY (YL (k:=.plain) hL (by omega) hs hd HB1.out (Jd _) rfl);clear hL hn hd HC H1;go_wp2_with fail;refine HT.out.mono ?_;rintro a w3 ⟨⟨t,q,rfl,h1,h2⟩,hb⟩;have HF:=hY (And.intro (And.intro h1 h2) hb);clear HT h1 h2 hb HB1;go_wp2_with fail;go_ret2;exact ⟨⟨t,q,rfl,HF.out.1.1,HF.out.1.2⟩,HF.out.2⟩
theorem Qd (s:List UInt8) (hs:s.length≤2000000) (e:UInt8) (w:World):Calls Tryz.prog 127 #[.string (bs s),.int .u8 (e.toNat:Int),.slice none 0 0] w fun r w'=>(∃ (t:ByteArray) (q:Int),r=.returned (.tuple #[.string t,.int .i64 q])∧(Ck.docL e s=0→q=0∨q=5)∧(Ck.docL e s≠0→q=(Ck.docL e s:Nat)))∧Below w.heap.size w w':=by
 have H1:=hY (WN w s e);have HB1:=hY ((Ja w.heap.size w).alloc (Jd _) (.cells (yC s 0 e 0 (.slice none 0 0)) 180));go_enter Tryz.func127,Tryz.ntmps127;go_upto_region 2 with fail;obtain ⟨w1,hw1⟩:∃ y,w.alloc (.cells (yC s 0 e 0 (.slice none 0 0)) 180)=y:=⟨_,rfl⟩
 rw [hw1] at H1 HB1;have hw1':w.alloc (.cells #[.string (bs s),.int .i64 0,.int .u8 (e.toNat:Int),.int .i64 0,.slice none 0 0] 180)=w1:=hw1;rw [hw1'];clear hw1 hw1';have HC:=hY (Xc (X:=Ex.er (Ex.readL e .document (s.drop 0))) hs (p0:=0) (Nat.zero_le _) (fun p R v w _ h2 h3=>UM hs p R v w h2 h3) H1.out (hY rfl));go_wp2_with fail;refine HC.out.mono ?_;rintro a w2 ⟨p',no,v',lv,n,xs,rfl,hL,hn,hd⟩;have HT:=hY (YL (k:=.document) hL (by omega) hs hd HB1.out (Jd _) rfl);clear hL hn hd HC H1;go_wp2_with fail;refine HT.out.mono ?_;rintro a w3 ⟨⟨t,q,rfl,h1,h2⟩,hb⟩;have HF:=hY (And.intro (And.intro h1 h2) hb);clear HT h1 h2 hb HB1;go_wp2_with fail;go_ret2;exact ⟨⟨t,q,rfl,HF.out.1.1,HF.out.1.2⟩,HF.out.2⟩
theorem Qp (e:UInt8) (s:List UInt8):Ck.wordL e s=0∨Ck.wordL e s=4∨Ck.wordL e s=18:=by
 unfold Ck.wordL;cases h:Ex.readL e .plain s with
 | inl z=>exact .inr (Ex.readL_err h)
 | inr pr=>exact .inl rfl
theorem jU (e:UInt8) (s:List UInt8):Ck.docL e s=0∨Ck.docL e s=4∨Ck.docL e s=18:=by
 unfold Ck.docL;cases h:Ex.readL e .document s with
 | inl z=>exact .inr (Ex.readL_err h)
 | inr pr=>exact .inl rfl
theorem ZX (s:List UInt8) (hs:s.length≤2000000) (e:UInt8) (w:World) {x:Nat} (H:Hid (Ck.wordL e s=x)):Calls Tryz.prog 87 #[.string (bs s),.int .u8 (e.toNat:Int)] w fun r w'=>r=.returned (.int .i64 (x:Int))∧Below w.heap.size w w':=by
 have hx:=Qp e s;rw [H.out] at hx;have HC:=hY (Vt s hs e w);rw [H.out] at HC;clear H;go_enter Tryz.func87,Tryz.ntmps87;go_wp2_with fail;refine HC.out.mono ?_;rintro a w3 ⟨⟨t,q,rfl,h1,h2⟩,hb⟩;have HB:=hY hb;clear hb HC
 by_cases hx0:x=0
 · subst hx0;rcases h1 rfl with rfl | rfl
   · clear h1 h2;go_wp2_with fail;go_ret;exact ⟨rfl,HB.out⟩
   · clear h1 h2;go_wp2_with fail;go_ret;exact ⟨rfl,HB.out⟩
 · have hq:=h2 hx0;subst hq;clear h1 h2;have k5:((x:Int)==5)=false:=bF (by omega);have k5n:(x==5)=false:=bF (by omega);clear hx hx0;go_wp2_with fail;go_ret;exact ⟨rfl,HB.out⟩
end Go.Proofs.YtdaejggcjjdhkaaGreatDoor
namespace Go.Proofs.YtdaejggcjjdhkaaGreatDoor
open Go
section
variable {P:Program} {ops:Array Oper} {Q:Exit→Act→World→Prop}
theorem Yx (n:Nat) (a0:Act) (init:Nat→Value) (F:(Nat→Value)→Act) (hF:∀ xs,(∀ j,n≤j→xs j=init j)→zB ops a0 xs=F xs) (S:World→Prop) (V:Nat→Value→World→Prop) (L0:Array Bool) (hL0:L0=(Array.range ops.size).map fun j=>decide (j<n))
  (hd:ZJ ops=true) (hacyc:backB 0 ops.toList=true) (hn:n<ops.size) (hs:Region.sinkB .any ops n=true) (hc:Region.chainB .any ops n=true) (hseq:Region.seqB .any ops (ops.size - n) n L0=true) (hstep:Steps P ops Q F S V 0 (ops.toList.take n))
  (hT:∀ (xs:Nat→Value) (w:World),S w→(∀ j,j<n→V j (xs j) w)→wpList P ops Q (ops.toList.drop n) (F xs) w):
  ∀ (fuel:Nat) (listed:Array Bool) (xs:Nat→Value) (w:World),(∀ j,n≤j→xs j=init j)→HeadInv .any ops n listed→((List.range n).filter fun j=>!zi listed j).length=fuel→S w→(∀ j,j<n→zi listed j=true→V j (xs j) w)→
   wpAny P .any ops Q (fuel+(ops.size - n)) listed (zB ops a0 xs) w:=by
 have hback:∀ (i:Nat) (o:Oper),ops[i]?=some o→∀ e∈o.after,e.on<i:=fun i o h e he=>by have:=backB.get _ 0 i o hacyc (by simpa using h) e he;omega
 intro fuel
 induction fuel with
 | zero =>
  intro listed xs w hx0 inv hf hS hV;have hall:∀ j,j<n→zi listed j=true:=fun j hj=>by
   rcases hx:zi listed j with _ | _
   · exfalso;have:j∈(List.range n).filter fun j=>!zi listed j:=List.mem_filter.2 ⟨List.mem_range.2 hj,by simp [hx]⟩;rw [Ki hf] at this;cases this
   · rfl
  have hl:listed=L0:=by
   rw [hL0];apply Array.ext
   · simp [inv.size]
   · intro k h1 h2;have hk:k<ops.size:=by rw [←inv.size];exact h1
     simp only [Array.getElem_map,Array.getElem_range]
     by_cases hkn:k<n
     · have:=hall k hkn;simp only [zi,Array.getD,h1,dif_pos] at this;rw [decide_eq_true hkn];exact this
     · have:=inv.tail k (by omega) hk;simp only [Array.getD,h1,dif_pos] at this;rw [decide_eq_false hkn];exact this
  rw [Jq,hl,hF xs hx0];have hlen:(ops.toList.drop n).length=ops.size - n:=by simp
  have:=wpAny_of_seq (P:=P) (md:=.any) (ops:=ops) (Q':=Q) (ops.toList.drop n) n L0 (F xs) w (fun j=>by simp) (by rw [hlen];exact hseq) (hT xs w hS fun j hj=>hV j hj (hall j hj))
  rwa [hlen] at this
 | succ fuel ih =>
  intro listed xs w hx0 inv hf hS hV;obtain ⟨i0,hi0,hun0⟩:∃ i,i<n∧zi listed i=false:=by obtain ⟨i,hi⟩:=List.exists_mem_of_ne_nil ((List.range n).filter fun j=>!zi listed j) (fun h=>by rw [h] at hf;cases hf);obtain ⟨h1,h2⟩:=List.mem_filter.1 hi;exact ⟨i,List.mem_range.1 h1,by simpa using h2⟩
  rw [show fuel+1+(ops.size - n)=(fuel+(ops.size - n))+1 by omega];refine ⟨fun hr=>?_,fun i hi=>?_⟩
  · exfalso;have hall:∀ j,j<n→zi listed j=true:=by
     intro j
     induction j using Nat.strongRecOn with
     | _ j ihj =>
      intro hj;rcases hx:zi listed j with _ | _
      · exfalso;have hjs:j<ops.size:=by omega
        have hm:j∈Region.ready .any ops listed:=mem_ready.2 ⟨hx,ops[j],Array.getElem?_eq_getElem hjs,fun e he _=>by
         have h1:=hback j _ (Array.getElem?_eq_getElem hjs) e he;have h2:=ihj e.on h1 (by omega);have h3:e.on<listed.size:=by rw [inv.size];omega
         simp only [zi,Array.getD,h3,dif_pos] at h2 ⊢;exact h2⟩
        rw [hr] at hm;cases hm
      · rfl
    rw [hall i0 hi0] at hun0;cases hun0
  · have hin:i<n:=by
     rcases Jh i n with h | h
     · exact h
     · exact absurd hi (tail_waits hs hc hn inv _ i0 rfl hi0 hun0 i h)
    obtain ⟨h1,o,h2,h3⟩:=mem_ready.1 hi;have his:i<ops.size:=by omega
    have hon:zi listed i=false:=h1;have hset:∀ j,zi (listed.setIfInBounds i true) j=yS (zi listed) i true j:=by
     intro j
     by_cases hj:j=i
     · subst hj;simp [zi,yS,Array.getD,inv.size,his]
     · simp only [yS,hj,if_false];exact getD_set_ne true (Ne.symm hj)
    have e1:o.dst=zY ops i:=by simp [zY,h2]
    have hst:=Steps.take_get hstep hin h2;have hneed:AllV V xs w (yW o):=AllV.of _ fun j hj=>by
     obtain ⟨e,he,rfl⟩:=List.mem_map.1 hj;obtain ⟨he1,he2⟩:=List.mem_filter.1 he;have he1:e∈o.after:=by simpa using he1
     have h4:=h3 e he1 he2;have hlt:=hback i o h2 e he1;have h5:e.on<listed.size:=by rw [inv.size];omega
     refine hV _ (by omega) ?_;simp only [zi,Array.getD,h5,dif_pos] at h4 ⊢;exact h4
    refine wpOp_step h2 fun K hK=>?_;rw [hF xs hx0];refine hst xs w hS hneed K fun v w' hS' hVi hkeep=>?_;have hfr:(F xs).put o.dst v=zB ops a0 (yS xs i v):=by rw [←hF xs hx0,e1,zB,zB,ZF (zY ops) xs i v _ _ List.nodup_range (List.mem_range.2 his) fun j hj hne t ht hc=>?_];have:=List.all_eq_true.1 (List.all_eq_true.1 hd i (List.mem_range.2 his)) j hj;rw [ht,hc] at this;simp [hne] at this
    rw [hfr];refine hK _ _ (ih _ _ _ (fun j hj=>by rw [yS,if_neg (by omega)];exact hx0 j hj) (inv.set hi hin) ?_ hS' ?_)
    · have hlt:((List.range n).filter fun j=>!zi (listed.setIfInBounds i true) j).length+1=((List.range n).filter fun j=>!zi listed j).length:=by
       have key:∀ l:List Nat,l.Nodup→i∈l→(l.filter fun j=>!zi (listed.setIfInBounds i true) j).length+1=(l.filter fun j=>!zi listed j).length:=by
        intro l
        induction l with
        | nil=>intro _ h;cases h
        | cons k l ihl =>
         intro hnd hm;obtain ⟨hk,hnd⟩:=List.nodup_cons.1 hnd
         by_cases hki:k=i
         · subst hki;have e2:l.filter (fun j=>!zi (listed.setIfInBounds k true) j)=l.filter fun j=>!zi listed j:=List.filter_congr fun j hj=>by rw [hset];have:j≠k:=fun e=>hk (e ▸ hj);simp [yS,this]
           have a1:zi (listed.setIfInBounds k true) k=true:=by rw [hset];simp [yS]
           rw [List.filter_cons_of_neg (by rw [a1];decide),List.filter_cons_of_pos (by rw [hon];rfl),e2,Ji]
         · have hm2:i∈l:=by
            rcases Kn.1 hm with h | h
            · exact absurd h.symm hki
            · exact h
           have a1:zi (listed.setIfInBounds i true) k=zi listed k:=by rw [hset];simp [yS,hki]
           rw [List.filter_cons,List.filter_cons,a1]
           split
           · rw [Ji,Ji,←ihl hnd hm2]
           · exact ihl hnd hm2
       exact key _ List.nodup_range (List.mem_range.2 hin)
      omega
    · intro j hj hjon;rw [hset] at hjon
      by_cases hji:j=i
      · subst hji;simpa [yS] using hVi
      · simp only [yS,hji,if_false] at hjon ⊢;exact hkeep j _ (hV j hj hjon)
theorem yE (n:Nat) {id:Nat} {a:Act} {w:World} (S:World→Prop) (V:Nat→Value→World→Prop) (F:(Nat→Value)→Act) (hF:∀ xs,(∀ j,n≤j→xs j=WJ a (zY ops j))→zB ops a xs=F xs)
  (hm:P.follows .mixedOrders=true) (hd:ZJ ops=true) (hacyc:backB 0 ops.toList=true) (hn:n<ops.size) (hs:Region.sinkB .any ops n=true) (hc:Region.chainB .any ops n=true)
  (hseq:Region.seqB .any ops (ops.size - n) n ((Array.range ops.size).map fun j=>decide (j<n))=true) (hS:S w.drew) (hstep:Steps P ops Q F S V 0 (ops.toList.take n))
  (hT:∀ (xs:Nat→Value) (w:World),S w→(∀ j,j<n→V j (xs j) w)→wpList P ops Q (ops.toList.drop n) (F xs) w):(Code.region id ops true).wp P Q a w:=by
 refine wp_region_any hm ?_;have hinv:HeadInv .any ops n (Array.replicate ops.size false):=⟨by simp,(fun j oj _ h=>by rw [getD_replicate_false] at h;cases h),fun t _ ht=>by simp [Array.getD,ht]⟩
 have hcount:((List.range n).filter fun j=>!zi (Array.replicate ops.size false) j).length=n:=by rw [List.filter_eq_self.2 fun j hj=>by have:=List.mem_range.1 hj;simp [zi,Array.getD,show j<ops.size by omega]];simp
 have h:=Yx n a (fun j=>WJ a (zY ops j)) F hF S V _ rfl hd hacyc hn hs hc hseq hstep hT n (Array.replicate ops.size false) (fun j=>WJ a (zY ops j)) w.drew (fun _ _=>rfl) hinv hcount hS (fun j hj h=>by simp [zi,Array.getD,show j<ops.size by omega] at h);rw [zB,Ze,show n+(ops.size - n)=ops.size by omega] at h;exact h
end
end Go.Proofs.YtdaejggcjjdhkaaGreatDoor
namespace Go.Proofs.YtdaejggcjjdhkaaGreatDoor
open Go Go.RowKit
theorem lpT:Vq Tryz.prog 61 2:=⟨⟨_,Tryz.underlying61⟩,by kernel_rfl⟩
theorem lpK:yP Tryz.prog 37 61 (.agg #[.string ⟨#[]⟩,.string ⟨#[]⟩]) 2 32:=⟨Tryz.underlying37,by kernel_rfl,rfl,by decide⟩
theorem WP (l:List Ck.Pr) (x:Ck.Pr):yV (l++[x])=yV l++prL x:=by simp [yV]
def jL (k i:Int):Ck.Pr:=⟨bl (Y2 k i),[109,97,114,107]⟩
def zP (n:Nat):List Ck.Pr:=(List.range n).map fun i:Nat=>jL 90 (i:Int)
theorem W2 (n:Nat):zP (n+1)=zP n++[jL 90 (n:Int)]:=by simp [zP,List.range_succ]
theorem Z3 (n:Nat):(zP n).length=n:=by simp [zP]
theorem yZ (k i:Int) (w:World) {m:Ck.Pr} (H:Hid (jL k i=m)):Calls Tryz.prog 186 #[.int .i64 k,.int .i64 i] w fun e w'=>e=.returned (.agg #[.string (bs m.key),.string (bs m.val)])∧Below w.heap.size w w':=by
 have hmt:=fun w2=>Zm k i w2;obtain ⟨S,hS⟩:∃ S,Y2 k i=S:=⟨_,rfl⟩
 have HM:Hid (m=⟨bl S,[109,97,114,107]⟩):=by show _=_;rw [←H.out,jL,hS]
 rw [hS] at hmt;clear hS H;go_enter Tryz.func186,Tryz.ntmps186;go_upto_region 1 with fail;have hK0:=Blk.new w 61 #[.string ⟨#[]⟩,.string ⟨#[]⟩];have hB0:=(Ja w.heap.size w).alloc (Jd _) (.cells #[.string ⟨#[]⟩,.string ⟨#[]⟩] 61);obtain ⟨w0,hw0⟩:∃ w0,w.alloc (.cells #[.string ⟨#[]⟩,.string ⟨#[]⟩] 61)=w0:=⟨_,rfl⟩
 rw [hw0] at hK0 hB0;rw [hw0];clear hw0;have hlt:=hK0.lt;go_wp2_with (first | (go_at_call 196;refine (hmt _).mono ?_;rintro e w1 ⟨rfl,hb1⟩;have hg1:=hK0.below hb1 hlt) | (refine ze rfl _ _ _ rfl lpT w.heap.size _ _ rfl rfl hg1 rfl rfl rfl ?_;intro w2 hB2 hg2 hz2));have hB1:Below w.heap.size w w1:=za hB0 hb1 hB0.size;have hBf:=hB1.grown hg2 hB1.size (fun k e=>by cases e;exact Jd _);refine bodyPost_ret (v:=.agg #[.string S,.string ⟨#[109,97,114,107]⟩]) (zo rfl lpT rfl hB2 rfl) rfl ?_;exact ⟨by rw [HM.out];rfl,hBf⟩
theorem U8 (ms:List Ck.Pr) (At:Option Addr) (ct:Nat) (w:World) (hR:SlA w (.slice At ms.length ct) ms.length (yV ms)) (hn:ms.length≤1100000):Calls Tryz.prog 158 #[.slice At ms.length ct] w fun e w'=>(∃ g c,e=.returned (.slice (some ⟨g,0,none⟩) (ms.length+16) c)∧w'.ownsRow w.heap.size 61 2 (.slice (some ⟨g,0,none⟩) (ms.length+16) c) (ms.length+16) (yV (ms++zP 16)))∧Below w.heap.size w w':=by
 have HR:=hY hR;clear hR;go_enter Tryz.func158,Tryz.ntmps158;go_wp2_with fail;go_loopw [3,4] (fun t3 t4 wr=>∃ i:Nat,i≤ms.length∧t4=.int .i64 (i:Int)∧wr.ownsRow w.heap.size 61 2 t3 i (yV (ms.take i))∧Below w.heap.size w wr) (fun _ t4 _=>ms.length - (intOf t4).toNat)
 case atStart=>exact ⟨0,by omega,rfl,Kj _ _ _ _,Ja _ _⟩
 case round =>
  obtain ⟨i,hi,rfl,hown,hB⟩:=hrel;obtain ⟨AA,ca,rfl⟩:=zc hown;have j0:(0:Int)≤(i:Int):=by omega
  rcases Jh i ms.length with hin | hin
  · have i0:decide ((i:Int)<(ms.length:Int))=true:=dT (by omega);have i1:(i:Int)<(ms.length:Int):=by omega
    have hE:=HR.out.new hB;obtain ⟨g,o,c,hvl,c0,c1⟩:=ZB hE hin;obtain ⟨hA,hcc⟩:At=some ⟨g,o,none⟩∧ct=c:=by injection hvl with e1 _ e3;exact ⟨e1,e3⟩
    subst hA hcc;have hT:Hid (yV (ms.take (i+1))=yV (ms.take i)++prL ms[i]):=hY (by rw [List.take_add_one,Jk hin];exact WP _ _);obtain ⟨x,hxe⟩:∃ x,ms[i]=x:=⟨_,rfl⟩
    rw [hxe] at c0 c1 hT;have hbs:=hB.size;clear hvl hE hxe;go_wp2_with (at_builtin;refine zg rfl _ _ _ rfl lpK _ _ _ _ rfl (hown.alloc _) _ _ _ _ rfl rfl (zA _ _ (by simp) _ _) (by simp [Value.oneCell']) (by omega) (by omega) (hB.alloc hbs _) (by rw [Jb];omega) ?_;intro v1 w1 ho1 hb1 hg1 hat1;obtain ⟨B1,q1,rfl⟩:=zc ho1);go_roundw
    case rel=>exact ⟨i+1,by omega,by go_num,by rw [hT.out];exact ho1,hb1⟩
    case measure=>simp [intOf];omega
  · have i0:decide ((i:Int)<(ms.length:Int))=false:=dF (by omega);obtain rfl:i=ms.length:=by omega
    rw [Ks] at hown;have HO:Hid (wr.ownsRow w.heap.size 61 2 (.slice AA ms.length ca) (ms.length+0) (yV (ms++zP 0))):=hY (by rw [show zP 0=[] from rfl,Kw];exact hown);clear hown;go_wp2_with fail;go_loopw [3,5] (fun t3 t5 wv=>∃ j:Nat,j≤16∧t5=.int .i64 (j:Int)∧wv.ownsRow w.heap.size 61 2 t3 (ms.length+j) (yV (ms++zP j))∧Below w.heap.size w wv) (fun _ t5 _=>16 - (intOf t5).toNat)
    case atStart=>exact ⟨0,by omega,rfl,HO.out,hB⟩
    case round =>
     clear HO hB;obtain ⟨j,hj,rfl,hown,hB⟩:=hrel;obtain ⟨A2,c2,rfl⟩:=zc hown;rcases Jh j 16 with hjn | hjn
     · have j1:(j:Int)<16:=by omega
       obtain ⟨y,hy⟩:∃ y,Hid (jL 90 (j:Int)=y):=⟨_,hY rfl⟩
       have hT:Hid (yV (ms++zP (j+1))=yV (ms++zP j)++prL y):=hY (by rw [W2,hy.out,←Kv,WP]);go_wp2_with (first | (go_at_call 186;refine (yZ _ _ _ hy).mono ?_;rintro e w1 ⟨rfl,hb1⟩;have hownW:=zy hown hb1;have hBW:=za hB hb1 hB.size;have hbs:=hBW.size) | (at_builtin;refine zg rfl _ _ _ rfl lpK _ _ _ _ rfl (hownW.alloc _) _ _ _ _ rfl rfl (zA _ _ (by simp) _ _) (by simp [Value.oneCell']) (by omega) (by omega) (hBW.alloc hbs _) (by rw [Jb];omega) ?_;intro v1 w2 ho1 hb2 hg1 hat1;obtain ⟨B1,q1,rfl⟩:=zc ho1));go_roundw
       case rel=>exact ⟨j+1,by omega,by go_num,by rw [hT.out];exact ho1,hb2⟩
       case measure=>simp [intOf];omega
     · obtain rfl:j=16:=by omega
       obtain ⟨g,cap,hv,_⟩:=hown.form (by omega);rw [hv] at hown;rw [hv];clear hv;go_wp2_with fail;go_ret;exact ⟨⟨g,cap,rfl,hown⟩,hB⟩
theorem U2 (ms:List Ck.Pr) (At:Option Addr) (ct:Nat) (w:World) (hR:SlA w (.slice At ms.length ct) ms.length (yV ms)) (hn:ms.length≤1100000):Calls Tryz.prog 131 #[.slice At ms.length ct] w fun e w'=>(∃ g c,e=.returned (.slice (some ⟨g,0,none⟩) ms.length c)∧ms.length+16≤c∧w'.ownsRow w.heap.size 61 2 (.slice (some ⟨g,0,none⟩) (ms.length+16) c) (ms.length+16) (yV (ms++zP 16)))∧Below w.heap.size w w':=by
 have HR:=hY hR;clear hR;go_enter Tryz.func131,Tryz.ntmps131;go_wp2_with fail;refine (U8 ms At ct _ HR.out hn).mono ?_;rintro e w1 ⟨⟨g,c,rfl,ho⟩,b1⟩;have hc:ms.length+16≤c:=by
  rcases Zc ho with ⟨h,_⟩ | ⟨b,c',h,hc⟩
  · cases h
  · simp only [Value.slice.injEq] at h;omega
 have HO:=hY ho;have i1:(0:Int)≤(ms.length:Int):=by omega
 have i2:(ms.length:Int)≤(c:Int):=by omega
 have i3:ms.length≤c:=by omega
 clear ho;go_wp2_with fail;go_ret;exact ⟨⟨g,c,rfl,hc,HO.out⟩,b1⟩
theorem U0 (n i:Nat) (h:i<n):(zP n)[i]?=some (jL 90 (i:Int)):=by simp [zP,h]
theorem QY (es:List Ck.Pr) (i:Nat) (h:i<(es++zP 16).length):(es++zP 16)[i]=if h2:i<es.length then es[i] else jL 90 ((i:Int) - (es.length:Int)):=by
 split
 · rename_i h2;rw [List.getElem_append_left h2]
 · rename_i h2;rw [List.getElem_append_right (by omega)];have h3:i - es.length<(zP 16).length:=by rw [Jf] at h;omega
   have e:=U0 16 (i - es.length) (by rw [Z3] at h3;exact h3);rw [Jk h3] at e;rw [Jc e];congr 1;omega
theorem VY (z:Ck.Pr) (w:World):(Op.equalIn 10000 61 (.agg #[.string (bs z.key),.string (bs z.val)]) (.agg #[.string (bs z.key),.string (bs z.val)])).run Tryz.prog w=.ok true w:=by rw [run_equalIn_struct w 9999 _ _ _ (by kernel_rfl) (by kernel_rfl)];simp only [Program.fieldsOf,Tryz.underlying61];simp [go_sem,zh]
theorem zah (z:Ck.Pr) (w:World):(binOp .neq 61 (.agg #[.string (bs z.key),.string (bs z.val)]) (.agg #[.string (bs z.key),.string (bs z.val)])).run Tryz.prog w=.ok (.bool false) w:=by rw [run_neq_struct,VY];rfl
theorem Xp (es E:List Ck.Pr) (hE:E=es++zP 16) (A1 At:Option Addr) (c1 ct:Nat) (w:World) (hR1:SlA w (.slice A1 E.length c1) E.length (yV E)) (hR2:SlA w (.slice At es.length ct) es.length (yV es)) (hn:es.length≤1100000):Calls Tryz.prog 165 #[.slice A1 E.length c1,.slice At es.length ct] w fun e w'=>e=.returned (.bool true)∧Below w.heap.size w w':=by
 have hl:E.length=es.length+16:=by rw [hE,Jf,Z3]
 have HE:Hid (∀ i (h:i<E.length),E[i]=if h2:i<es.length then es[i] else jL 90 ((i:Int) - (es.length:Int))):=hY (by subst hE;exact QY es);have HR1:=hY hR1;have HR2:=hY hR2;have t0:((E.length:Int) != (es.length:Int)+16)=false:=by rw [hl];simp
 have hl1:E.length≤es.length+16:=by omega
 have hl2:es.length+16≤E.length:=by omega
 clear hR1 hR2 hE hl;go_enter Tryz.func165,Tryz.ntmps165;go_wp2_with fail;go_loopw [5,6] (fun t5 _ wr=>∃ i:Nat,i≤E.length∧t5=.int .i64 (i:Int)∧Below w.heap.size w wr) (fun t5 _ _=>E.length - (intOf t5).toNat)
 case atStart=>exact ⟨0,by omega,rfl,Ja _ _⟩
 case round =>
  obtain ⟨i,hi,rfl,hB⟩:=hrel;have j0:(0:Int)≤(i:Int):=by omega
  rcases Jh i E.length with hin | hin
  · have i0:decide ((i:Int)<(E.length:Int))=true:=dT (by omega);have i1:(i:Int)<(E.length:Int):=by omega
    have hw:IntKind.i64.wrap ((i:Int) - (es.length:Int))=(i:Int) - (es.length:Int):=by unfold IntKind.wrap;simp [IntKind.bits,IntKind.signed];omega
    obtain ⟨y,hy⟩:∃ y,Hid (jL 90 ((i:Int) - (es.length:Int))=y):=⟨_,hY rfl⟩
    have hEi:=HE.out i hin;obtain ⟨z,hz⟩:∃ z,Hid (E[i]=z):=⟨_,hY rfl⟩
    have xn:=zah z;have HOUT:Hid (∀ w2,Below w.heap.size w w2→∃ g o,A1=some ⟨g,o,none⟩∧w2.cell? ⟨g,o+i*2,none⟩=some (.string (bs z.key))∧w2.cell? ⟨g,o+i*2+1,none⟩=some (.string (bs z.val))):=hY fun w2 hb2=>by obtain ⟨g,o,c,hvl,c0,c1'⟩:=ZB (HR1.out.new hb2) hin;rw [hz.out] at c0 c1';injection hvl with e1 _ _;exact ⟨g,o,e1,c0,c1'⟩
    by_cases hlt:i<es.length
    · rw [dif_pos hlt,hz.out] at hEi;have k0:decide ((i:Int)<(es.length:Int))=true:=dT (by omega);have k1:(i:Int)<(es.length:Int):=by omega
      have HIN:Hid (∀ w2,Below w.heap.size w w2→∃ g o,At=some ⟨g,o,none⟩∧w2.cell? ⟨g,o+i*2,none⟩=some (.string (bs z.key))∧w2.cell? ⟨g,o+i*2+1,none⟩=some (.string (bs z.val))):=hY fun w2 hb2=>by obtain ⟨g,o,c,hvl,c0,c1'⟩:=ZB (HR2.out.new hb2) hlt;rw [←hEi] at c0 c1';injection hvl with e1 _ _;exact ⟨g,o,e1,c0,c1'⟩
      obtain ⟨g2,o2,hA2,_⟩:=HIN.out wr hB;subst hA2;obtain ⟨g1,o1,hA1,_⟩:=HOUT.out wr hB;subst hA1;have HIN1:Hid (∀ w2,Below w.heap.size w w2→w2.cell? ⟨g2,o2+i*2,none⟩=some (.string (bs z.key))∧w2.cell? ⟨g2,o2+i*2+1,none⟩=some (.string (bs z.val))):=hY fun w2 hb2=>by obtain ⟨g',o',e,h⟩:=HIN.out w2 hb2;injection e with e;injection e with e3 e4;subst e3 e4;exact h
      have HOUT1:Hid (∀ w2,Below w.heap.size w w2→w2.cell? ⟨g1,o1+i*2,none⟩=some (.string (bs z.key))∧w2.cell? ⟨g1,o1+i*2+1,none⟩=some (.string (bs z.val))):=hY fun w2 hb2=>by obtain ⟨g',o',e,h⟩:=HOUT.out w2 hb2;injection e with e;injection e with e3 e4;subst e3 e4;exact h
      clear hEi;go_upto_region 9 with (first | (go_at_call 186;refine (yZ _ _ _ hy).mono ?_;rintro e w1 ⟨rfl,hb1⟩;have hbw1:=za hB hb1 hB.size) | (refine ze rfl _ _ _ rfl lpT w1.heap.size #[.string (bs y.key),.string (bs y.val)] _ rfl rfl (Blk.new _ _ _) rfl rfl rfl ?_;intro w3 hB3 hg3 hz3;have hbw3:=(hbw1.alloc hbw1.size _).grown hg3 (hbw1.alloc hbw1.size _).size (fun k e=>by cases e;exact hbw1.size);obtain ⟨d0,d1⟩:=HIN1.out w3 hbw3) | (refine ze rfl _ _ _ rfl lpT w1.heap.size #[.string (bs z.key),.string (bs z.val)] _ rfl rfl hB3 rfl rfl rfl ?_;intro w4 hB4 hg4 hz4;have hbw4:=hbw3.grown hg4 hbw3.size (fun k e=>by cases e;exact hbw1.size)))
      obtain ⟨e0,e1⟩:=HOUT1.out w4 hbw4;have f0:w4.cell? ⟨w1.heap.size,0,none⟩=some (.string (bs z.key)):=hB4.cell 0;have f1:w4.cell? ⟨w1.heap.size,1,none⟩=some (.string (bs z.val)):=hB4.cell 1
      try simp only [Act.put]
      go_cut [37] (fun s37 wx=>s37=.bool false∧Below w.heap.size w wx)
      case first =>go_quiet (fail);go_wp2_with fail;go_meet;exact ⟨rfl,by first | exact hbw4 | exact zj hbw4 _⟩
      case rest =>
       obtain ⟨rfl,hbx⟩:=hcut;clear e0 e1 f0 f1 xn;go_wp2_with fail;go_roundw
       case rel=>exact ⟨i+1,by omega,by go_num,hbx⟩
       case measure=>simp [intOf];omega
    · rw [dif_neg hlt,hz.out,hy.out] at hEi;subst hEi;have k0:decide ((i:Int)<(es.length:Int))=false:=dF (by omega);have k1:¬ (i<es.length):=hlt;obtain ⟨g1,o1,hA1,_⟩:=HOUT.out wr hB;subst hA1;have HOUT1:Hid (∀ w2,Below w.heap.size w w2→w2.cell? ⟨g1,o1+i*2,none⟩=some (.string (bs z.key))∧w2.cell? ⟨g1,o1+i*2+1,none⟩=some (.string (bs z.val))):=hY fun w2 hb2=>by obtain ⟨g',o',e,h⟩:=HOUT.out w2 hb2;injection e with e;injection e with e3 e4;subst e3 e4;exact h
      go_upto_region 9 with (first | (go_at_call 186;refine (yZ _ _ _ hy).mono ?_;rintro e w1 ⟨rfl,hb1⟩;have hbw1:=za hB hb1 hB.size) | (refine ze rfl _ _ _ rfl lpT w1.heap.size #[.string (bs z.key),.string (bs z.val)] _ rfl rfl (Blk.new _ _ _) rfl rfl rfl ?_;intro w3 hB3 hg3 hz3;have hbw3:=(hbw1.alloc hbw1.size _).grown hg3 (hbw1.alloc hbw1.size _).size (fun k e=>by cases e;exact hbw1.size)))
      obtain ⟨e0,e1⟩:=HOUT1.out w3 hbw3;have f0:w3.cell? ⟨w1.heap.size,0,none⟩=some (.string (bs z.key)):=hB3.cell 0;have f1:w3.cell? ⟨w1.heap.size,1,none⟩=some (.string (bs z.val)):=hB3.cell 1
      try simp only [Act.put]
      go_cut [37] (fun s37 wx=>s37=.bool false∧Below w.heap.size w wx)
      case first =>go_quiet (fail);go_wp2_with fail;go_meet;exact ⟨rfl,by first | exact hbw3 | exact zj hbw3 _⟩
      case rest =>
       obtain ⟨rfl,hbx⟩:=hcut;clear e0 e1 f0 f1 xn;go_wp2_with fail;go_roundw
       case rel=>exact ⟨i+1,by omega,by go_num,hbx⟩
       case measure=>simp [intOf];omega
  · have i0:decide ((i:Int)<(E.length:Int))=false:=dF (by omega);go_wp2_with fail;go_ret;exact ⟨rfl,hB⟩
theorem U4 (es:List Ck.Pr) (g c:Nat) (At:Option Addr) (ct:Nat) (w:World) (ho:SlA w (.slice (some ⟨g,0,none⟩) (es.length+16) c) (es.length+16) (yV (es++zP 16))) (hc:es.length+16≤c) (hR2:SlA w (.slice At es.length ct) es.length (yV es)) (hn:es.length≤1100000):
  Calls Tryz.prog 140 #[.slice (some ⟨g,0,none⟩) es.length c,.slice At es.length ct] w fun e w'=>e=.returned (.bool true)∧Below w.heap.size w w':=by
 obtain ⟨E,hE⟩:∃ E,E=es++zP 16:=⟨_,rfl⟩
 have hl:E.length=es.length+16:=by rw [hE,Jf,Z3]
 have HR1:Hid (SlA w (.slice (some ⟨g,0,none⟩) E.length c) E.length (yV E)):=hY (by rw [←hE,←hl] at ho;exact ho);have HR2:=hY hR2;have HE:=hY hE;have t0:((es.length:Int) != (es.length:Int))=false:=by simp
 have i1:(0:Int)≤(es.length:Int)+16:=by omega
 have i2:(es.length:Int)+16≤(c:Int):=by omega
 clear hR2 hE ho;go_enter Tryz.func140,Tryz.ntmps140;go_wp2_with fail;have hk:=Xp es E HE.out (some ⟨g,0,none⟩) At c ct w HR1.out HR2.out hn;rw [hl] at hk;refine hk.mono ?_;rintro e w1 ⟨rfl,b1⟩;go_wp2_with fail;go_ret;exact ⟨rfl,b1⟩
end Go.Proofs.YtdaejggcjjdhkaaGreatDoor
