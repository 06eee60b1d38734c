/- expand, walked: its smaller functions. -/
import Derived.Deep.RegionHeld
import Derived.StillTail
import Derived.Test.YtdaejggcjjdhkaaGreatDoorMkB
import Derived.Test.YtdaejggcjjdhkaaGreatDoorMkA
import Derived.Test.YtdaejggcjjdhkaaGreatDoorProg
import Derived.Ground.NamesProg
import Derived.Shelf.Abstract
import Derived.Shelf.RegionOpen
import Derived.Shelf.Strings.BuilderK
import Derived.WalkKit
import Derived.Lib.Builder
import Derived.Maps.Own
import Derived.StringKeys
import Derived.Deep.QuietTactic
import Derived.BigQuiet
import Derived.Deep.RegionWith
import Derived.Deep.DeepCutAuto
import Derived.Test.YtdaejggcjjdhkaaGreatDoorMkC
import Derived.Deep.RegionLaw
import Derived.Deep.RegionHeld3
set_option maxHeartbeats 2000000
set_option maxRecDepth 100000
namespace Go.Proofs.YtdaejggcjjdhkaaGreatDoor
open Go

def Zs (D:Nat→Option Tmp) (xs:Nat→Value):Act→List Nat→Act
 | a,[]=>a
 | a,j::l=>Zs D xs (a.put (D j) (xs j)) l
def WJ (a:Act):Option Tmp→Value
 | none=>undef
 | some t=>a.tmps.getD t undef
theorem QM (a:Act) (d:Option Tmp):a.put d (WJ a d)=a:=by
 rcases d with _ | d
 · rfl
 · show ({ a with tmps:=a.tmps.setIfInBounds d (a.tmps.getD d undef) }:Act)=a;have:a.tmps.setIfInBounds d (a.tmps.getD d undef)=a.tmps:=by
    apply Array.ext
    · simp
    · intro k h1 h2;rw [Array.getElem_setIfInBounds]
      split
      · subst_vars;simp [Array.getD,h2]
      · rfl
   rw [this]
theorem jD (a:Act) (d:Option Tmp) (u v:Value):(a.put d u).put d v=a.put d v:=by
 rcases d with _ | d
 · rfl
 · show ({ a with tmps:=(a.tmps.setIfInBounds d u).setIfInBounds d v }:Act)={ a with tmps:=a.tmps.setIfInBounds d v }
   rw [Array.setIfInBounds_setIfInBounds]
theorem Ze (D:Nat→Option Tmp) (a:Act):∀ l,Zs D (fun j=>WJ a (D j)) a l=a
 | []=>rfl
 | j::l=>by rw [Zs,QM];exact Ze D a l
theorem W9 (D:Nat→Option Tmp) (xs:Nat→Value) (d:Option Tmp) (v:Value):∀ (l:List Nat) (a:Act),(∀ j∈l,∀ t,D j=some t→d≠some t)→Zs D xs (a.put d v) l=(Zs D xs a l).put d v
 | [],_,_=>rfl
 | j::l,a,h=>by rw [Zs,Zs,←Act.put_comm a (xs j) v (fun t ht=>h j (Kh ..) t ht)];exact W9 D xs d v l _ fun k hk=>h k (Kg _ hk)
theorem Y9 (D:Nat→Option Tmp) {xs ys:Nat→Value}:∀ (l:List Nat) (a:Act),(∀ j∈l,xs j=ys j)→Zs D xs a l=Zs D ys a l
 | [],_,_=>rfl
 | j::l,a,h=>by rw [Zs,Zs,h j (Kh ..)];exact Y9 D l _ fun k hk=>h k (Kg _ hk)
def yS {α:Type} (f:Nat→α) (i:Nat) (x:α):Nat→α:=fun j=>if j=i then x else f j
theorem ZF (D:Nat→Option Tmp) (xs:Nat→Value) (i:Nat) (v:Value):∀ (l:List Nat) (a:Act),l.Nodup→i∈l→(∀ j∈l,j≠i→∀ t,D j=some t→D i≠some t)→
  Zs D (yS xs i v) a l=(Zs D xs a l).put (D i) v
 | [],_,_,h,_=>by cases h
 | j::l,a,hn,hi,hd=>by
  obtain ⟨hn1,hn2⟩:=List.nodup_cons.1 hn;rw [Zs,Zs]
  by_cases hj:j=i
  · subst hj;have e2:yS xs j v j=v:=by simp [yS]
    rw [e2,Y9 (ys:=xs) D l _ (fun k hk=>by have:k≠j:=fun e=>hn1 (e ▸ hk);simp [yS,this]),←W9 D xs (D j) v l _ fun k hk t ht=>hd k (Kg _ hk) (fun e=>hn1 (e ▸ hk)) t ht,jD]
  · have e2:yS xs i v j=xs j:=by simp [yS,hj]
    rw [e2];have hi':i∈l:=by
     rw [Kn] at hi;rcases hi with rfl | hi
     · exact absurd rfl hj
     · exact hi
    exact ZF D xs i v l _ hn2 hi' fun k hk=>hd k (Kg _ hk)
theorem XK {p q:Nat→Bool}:∀ (l:List Nat),(∀ j,p j=true→q j=true)→(l.filter p).length≤(l.filter q).length
 | [],_=>Jd _
 | j::l,h=>by
  have:=XK l h;rw [List.filter_cons,List.filter_cons];rcases hp:p j with _ | _
  · rcases hq:q j with _ | _
    · simpa using this
    · simp only [Bool.false_eq_true,if_false,if_true,Ji];omega
  · simp only [h j hp,if_true,Ji];omega
theorem XJ {p q:Nat→Bool} {i:Nat} (hp:p i=false) (hq:q i=true):∀ (l:List Nat),i∈l→(∀ j,p j=true→q j=true)→(l.filter p).length<(l.filter q).length
 | [],h,_=>by cases h
 | j::l,hi,h=>by
  have hle:=XK l h;rw [List.filter_cons,List.filter_cons]
  by_cases hj:j=i
  · subst hj;simp only [hp,hq,Bool.false_eq_true,if_false,if_true,Ji];omega
  · have hi':i∈l:=by
     rw [Kn] at hi;rcases hi with rfl | hi
     · exact absurd rfl hj
     · exact hi
    have:=XJ hp hq l hi' h;rcases hpj:p j with _ | _
    · rcases hqj:q j with _ | _
      · simpa using this
      · simp only [Bool.false_eq_true,if_false,if_true,Ji];omega
    · simp only [h j hpj,if_true,Ji];omega

section
variable {P:Program} {ops:Array Oper} {Q:Exit→Act→World→Prop}
def zY (ops:Array Oper) (j:Nat):Option Tmp:=(ops[j]?).bind (·.dst)
def zi (listed:Array Bool) (j:Nat):Bool:=listed.getD j true
def zB (ops:Array Oper) (a0:Act) (xs:Nat→Value):Act:=Zs (zY ops) xs a0 (List.range ops.size)
def zR (xs:Nat→Value):Act→Nat→List Oper→Act
 | a,_,[]=>a
 | a,k,o::l=>zR xs (a.put o.dst (xs k)) (k+1) l
theorem XI (ops:Array Oper) (xs:Nat→Value):∀ (l:List Oper) (k:Nat) (a:Act),(∀ i,l[i]?=ops[k+i]?)→k+l.length=ops.size→Zs (zY ops) xs a ((List.range' k l.length))=zR xs a k l
 | [],_,_,_,_=>rfl
 | o::l,k,a,h,hs=>by
  have h0:zY ops k=o.dst:=by have:=h 0;simp only [Ku,Nat.add_zero] at this;simp [zY,←this]
  rw [Ji,List.range'_succ,Zs,zR,h0];refine XI ops xs l (k+1) _ (fun i=>?_) (by simp only [Ji] at hs;omega);have:=h (i+1);rw [List.getElem?_cons_succ] at this;rw [this,Nat.add_assoc,Kr 1 i]
theorem zz (ops:Array Oper) (a:Act) (xs:Nat→Value):zB ops a xs=zR xs a 0 ops.toList:=by rw [zB,List.range_eq_range'];exact XI ops xs ops.toList 0 a (fun i=>by simp) (by simp)
def yW (o:Oper):List Nat:=(o.after.toList.filter (Region.binds .any)).map (·.on)
def AllV (V:Nat→Value→World→Prop) (xs:Nat→Value) (w:World):List Nat→Prop
 | []=>True
 | j::l=>V j (xs j) w∧AllV V xs w l
theorem AllV.of {V:Nat→Value→World→Prop} {xs:Nat→Value} {w:World}:∀ l,(∀ j∈l,V j (xs j) w)→AllV V xs w l
 | [],_=>trivial
 | j::l,h=>⟨h j (Kh ..),AllV.of l fun k hk=>h k (Kg _ hk)⟩
def Ub (P:Program) (ops:Array Oper) (Q:Exit→Act→World→Prop) (F:(Nat→Value)→Act) (S:World→Prop) (V:Nat→Value→World→Prop) (i:Nat) (o:Oper):Prop:=
 ∀ (xs:Nat→Value) (w:World),S w→AllV V xs w (yW o)→
  ∀ K:Act→World→Prop,Shut (∀ v w',S w'→V i v w'→(∀ j u,V j u w→V j u w')→K ((F xs).put o.dst v) w')→
   if Region.wanted o (yielded ops (F xs).tmps)=true then Oper.wp P o (F xs) w K Q else K ((F xs).put o.dst undef) w
def Steps (P:Program) (ops:Array Oper) (Q:Exit→Act→World→Prop) (F:(Nat→Value)→Act) (S:World→Prop) (V:Nat→Value→World→Prop):Nat→List Oper→Prop
 | _,[]=>True
 | i,o::l=>Ub P ops Q F S V i o∧Steps P ops Q F S V (i+1) l
theorem Steps.nil {F:(Nat→Value)→Act} {S:World→Prop} {V:Nat→Value→World→Prop} {i:Nat}:Steps P ops Q F S V i []:=trivial
theorem AllV.get {V:Nat→Value→World→Prop} {xs:Nat→Value} {w:World}:∀ l,AllV V xs w l→∀ j∈l,V j (xs j) w
 | [],_,_,h=>by cases h
 | i::l,h,j,hj=>by
  rw [Kn] at hj;rcases hj with rfl | hj
  · exact h.1
  · exact AllV.get l h.2 j hj
theorem Steps.cons {F:(Nat→Value)→Act} {S:World→Prop} {V:Nat→Value→World→Prop} {i k:Nat} {o:Oper} {l:List Oper} {n:List Nat} (hk:i+1=k) (hn:(n.all fun j=>(yW o).contains j)=true)
  (h:∀ (xs:Nat→Value) (w:World),S w→AllV V xs w n→
  ∀ K:Act→World→Prop,Shut (∀ v w',S w'→V i v w'→(∀ j u,V j u w→V j u w')→K ((F xs).put o.dst v) w')→
   if Region.wanted o (yielded ops (F xs).tmps)=true then Oper.wp P o (F xs) w K Q else K ((F xs).put o.dst undef) w) (hs:Steps P ops Q F S V k l):Steps P ops Q F S V i (o::l):=by
 subst hk;refine ⟨fun xs w hS hV=>h xs w hS (AllV.of _ fun j hj=>AllV.get _ hV j ?_),hs⟩;have:=List.all_eq_true.1 hn j hj;simpa using this
theorem Steps.c {F:(Nat→Value)→Act} {S:World→Prop} {V:Nat→Value→World→Prop} {i k:Nat} {o:Oper} {l:List Oper} {n:List Nat} (h:∀ (xs:Nat→Value) (w:World),S w→AllV V xs w n→∀ K:Act→World→Prop,Shut (∀ v w',S w'→V i v w'→(∀ j u,V j u w→V j u w')→K ((F xs).put o.dst v) w')→if Region.wanted o (yielded ops (F xs).tmps)=true then Oper.wp P o (F xs) w K Q else K ((F xs).put o.dst undef) w) (hs:Steps P ops Q F S V k l) (hk:i+1=k:=by rfl) (hn:(n.all fun j=>(yW o).contains j)=true:=by kernel_rfl):Steps P ops Q F S V i (o::l):=Steps.cons hk hn h hs
theorem Steps.get {F:(Nat→Value)→Act} {S:World→Prop} {V:Nat→Value→World→Prop}:∀ (l:List Oper) (i k:Nat) (o:Oper),Steps P ops Q F S V i l→l[k]?=some o→Ub P ops Q F S V (i+k) o
 | [],_,_,_,_,h=>by simp at h
 | x::l,i,0,o,hs,h=>by simp at h;subst h;exact hs.1
 | x::l,i,k+1,o,hs,h=>by
  have:=Steps.get l (i+1) k o hs.2 (by simpa using h)
  rwa [Nat.add_assoc,Kr 1 k] at this
def ZJ (ops:Array Oper):Bool:=(List.range ops.size).all fun i=>(List.range ops.size).all fun j=>j==i||(zY ops j).isNone||zY ops j != zY ops i
def backB:Nat→List Oper→Bool
 | _,[]=>true
 | i,o::l=>(o.after.toList.all fun e=>decide (e.on<i))&&backB (i+1) l
theorem backB.get:∀ (l:List Oper) (i k:Nat) (o:Oper),backB i l=true→l[k]?=some o→∀ e∈o.after,e.on<i+k
 | [],_,_,_,_,h=>by simp at h
 | x::l,i,0,o,hs,h=>by simp at h;subst h;rw [backB,Jy,List.all_eq_true] at hs;intro e he;simpa using hs.1 e (by simpa using he)
 | x::l,i,k+1,o,hs,h=>by rw [backB,Jy] at hs;intro e he;have:=backB.get l (i+1) k o hs.2 (by simpa using h) e he;omega
theorem Vr (a0:Act) (F:(Nat→Value)→Act) (hF:∀ xs,zB ops a0 xs=F xs) (S:World→Prop) (V:Nat→Value→World→Prop)
  (hd:ZJ ops=true) (hacyc:backB 0 ops.toList=true) (hstep:Steps P ops Q F S V 0 ops.toList)
  (hQ:∀ (xs:Nat→Value) (w:World),S w→(∀ j,j<ops.size→V j (xs j) w)→Q .normal (F xs) w):
  ∀ (fuel:Nat) (listed:Array Bool) (xs:Nat→Value) (w:World),listed.size=ops.size→((List.range ops.size).filter fun j=>!zi listed j).length≤fuel→S w→(∀ j,j<ops.size→zi listed j=true→V j (xs j) w)→
   wpAny P .any ops Q fuel listed (zB ops a0 xs) w:=by
 have hback:∀ (i:Nat) (o:Oper),ops[i]?=some o→∀ e∈o.after,e.on<i:=fun i o h e he=>by have:=backB.get _ 0 i o hacyc (by simpa using h) e he;omega
 have hend:∀ (listed:Array Bool) (xs:Nat→Value) (w:World),listed.size=ops.size→S w→(∀ j,j<ops.size→zi listed j=true→V j (xs j) w)→Region.ready .any ops listed=[]→Q .normal (zB ops a0 xs) w:=by
  intro listed xs w hl hS hV hr;have hall:∀ j,j<ops.size→zi listed j=true:=by
   intro j
   induction j using Nat.strongRecOn with
   | _ j ih =>
    intro hj;rcases hx:zi listed j with _ | _
    · exfalso;have hm:j∈Region.ready .any ops listed:=mem_ready.2 ⟨hx,ops[j],Array.getElem?_eq_getElem hj,fun e he _=>by
       have h1:=hback j _ (Array.getElem?_eq_getElem hj) e he;have h2:=ih e.on h1 (by omega);have h3:e.on<listed.size:=by omega
       simp only [zi,Array.getD,h3,dif_pos] at h2 ⊢;exact h2⟩
      rw [hr] at hm;cases hm
    · rfl
  rw [hF];exact hQ xs w hS fun j hj=>hV j hj (hall j hj)
 intro fuel
 induction fuel with
 | zero =>
  intro listed xs w hl hf hS hV;have hr:Region.ready .any ops listed=[]:=by apply List.eq_nil_iff_forall_not_mem.2;intro j hj;obtain ⟨h1,o,h2,_⟩:=mem_ready.1 hj;have hjs:j<ops.size:=(Array.getElem?_eq_some_iff.1 h2).1;have:j∈(List.range ops.size).filter fun j=>!zi listed j:=List.mem_filter.2 ⟨List.mem_range.2 hjs,by simp [zi,h1]⟩;rw [Ki (Nat.le_zero.1 hf)] at this;cases this
  exact ⟨hr,hend listed xs w hl hS hV hr⟩
 | succ fuel ih =>
  intro listed xs w hl hf hS hV;refine ⟨fun hr=>hend listed xs w hl hS hV hr,fun i hi=>?_⟩;obtain ⟨h1,o,h2,h3⟩:=mem_ready.1 hi;have his:i<ops.size:=(Array.getElem?_eq_some_iff.1 h2).1;have hon:zi listed i=false:=h1;have hset:∀ j,zi (listed.setIfInBounds i true) j=yS (zi listed) i true j:=by
   intro j
   by_cases hj:j=i
   · subst hj;simp [zi,yS,Array.getD,hl,his]
   · simp only [yS,hj,if_false];exact getD_set_ne true (Ne.symm hj)
  have e1:o.dst=zY ops i:=by simp [zY,h2]
  have hst:=Steps.get _ 0 i o hstep (by simpa using h2);rw [Jq] at hst;have hneed:AllV V xs w (yW o):=AllV.of _ fun j hj=>by
   obtain ⟨e,he,rfl⟩:=List.mem_map.1 hj;obtain ⟨he1,he2⟩:=List.mem_filter.1 he;have he1:e∈o.after:=by simpa using he1
   have h4:=h3 e he1 he2;have hlt:=hback i o h2 e he1;have h5:e.on<listed.size:=by omega
   refine hV _ (by omega) ?_;simp only [zi,Array.getD,h5,dif_pos] at h4 ⊢;exact h4
  refine wpOp_step h2 fun K hK=>?_;rw [hF];refine hst xs w hS hneed K fun v w' hS' hVi hkeep=>?_;have hfr:(F xs).put o.dst v=zB ops a0 (yS xs i v):=by rw [←hF,e1,zB,zB,ZF (zY ops) xs i v _ _ List.nodup_range (List.mem_range.2 his) fun j hj hne t ht hc=>?_];have:=List.all_eq_true.1 (List.all_eq_true.1 hd i (List.mem_range.2 his)) j hj;rw [ht,hc] at this;simp [hne] at this
  rw [hfr];refine hK _ _ (ih _ _ _ (by simp [hl]) ?_ hS' ?_)
  · have:((List.range ops.size).filter fun j=>!zi (listed.setIfInBounds i true) j).length<((List.range ops.size).filter fun j=>!zi listed j).length:=by
     refine XJ (i:=i) (by rw [hset];simp [yS]) (by simp [hon]) _ (List.mem_range.2 his) fun j hj=>?_;rw [hset] at hj
     by_cases hji:j=i
     · subst hji;simp [hon]
     · simpa [yS,hji] using hj
    omega
  · intro j hj hjon;rw [hset] at hjon
    by_cases hji:j=i
    · subst hji;simpa [yS] using hVi
    · simp only [yS,hji,if_false] at hjon ⊢;exact hkeep j _ (hV j hj hjon)
theorem z8 {id:Nat} {a:Act} {w:World} (S:World→Prop) (V:Nat→Value→World→Prop) (F:(Nat→Value)→Act) (hF:∀ xs,zB ops a xs=F xs)
  (hm:P.follows .mixedOrders=true) (hd:ZJ ops=true) (hacyc:backB 0 ops.toList=true) (hS:S w.drew) (hstep:Steps P ops Q F S V 0 ops.toList)
  (hQ:∀ (xs:Nat→Value) (w:World),S w→(∀ j,j<ops.size→V j (xs j) w)→Q .normal (F xs) w):(Code.region id ops true).wp P Q a w:=by
 refine wp_region_any hm ?_;have h:=Vr a F hF S V hd hacyc hstep hQ ops.size (Array.replicate ops.size false) (fun j=>WJ a (zY ops j)) w.drew (by simp) (Jg (List.length_filter_le _ _) (by simp)) hS (fun j hj h=>by simp [zi,Array.getD,hj] at h);rw [zB,Ze] at h;exact h
end
end Go.Proofs.YtdaejggcjjdhkaaGreatDoor
namespace Go.Proofs.YtdaejggcjjdhkaaGreatDoor
open Go
section
variable {P:Program} {ops:Array Oper} {Q:Exit→Act→World→Prop}
theorem Steps.take_get {F:(Nat→Value)→Act} {S:World→Prop} {V:Nat→Value→World→Prop} {n i:Nat} {o:Oper} (h:Steps P ops Q F S V 0 (ops.toList.take n)) (hi:i<n) (ho:ops[i]?=some o):Ub P ops Q F S V i o:=by
 have:=Steps.get _ 0 i o h (by rw [List.getElem?_take,if_pos hi];simpa using ho)
 rwa [Jq] at this
theorem Yy (n:Nat) (a0:Act) (F:(Nat→Value)→Act) (hF:∀ xs,zB ops a0 xs=F xs) (S:World→Prop) (V:Nat→Value→World→Prop) (L0:Array Bool) (hL0:L0=(Array.range ops.size).map fun j=>decide (j<n))
  (hd:ZJ ops=true) (hacyc:backB 0 ops.toList=true) (hn:n<ops.size) (hs:Region.sinkB .any ops n=true) (hc:Region.chainB .any ops n=true) (hseq:Region.seqB .any ops (ops.size - n) n L0=true) (hstep:Steps P ops Q F S V 0 (ops.toList.take n))
  (hT:∀ (xs:Nat→Value) (w:World),S w→(∀ j,j<n→V j (xs j) w)→wpList P ops Q (ops.toList.drop n) (F xs) w):
  ∀ (fuel:Nat) (listed:Array Bool) (xs:Nat→Value) (w:World),HeadInv .any ops n listed→((List.range n).filter fun j=>!zi listed j).length=fuel→S w→(∀ j,j<n→zi listed j=true→V j (xs j) w)→
   wpAny P .any ops Q (fuel+(ops.size - n)) listed (zB ops a0 xs) w:=by
 have hback:∀ (i:Nat) (o:Oper),ops[i]?=some o→∀ e∈o.after,e.on<i:=fun i o h e he=>by have:=backB.get _ 0 i o hacyc (by simpa using h) e he;omega
 intro fuel
 induction fuel with
 | zero =>
  intro listed xs w inv hf hS hV;have hall:∀ j,j<n→zi listed j=true:=fun j hj=>by
   rcases hx:zi listed j with _ | _
   · exfalso;have:j∈(List.range n).filter fun j=>!zi listed j:=List.mem_filter.2 ⟨List.mem_range.2 hj,by simp [hx]⟩;rw [Ki hf] at this;cases this
   · rfl
  have hl:listed=L0:=by
   rw [hL0];apply Array.ext
   · simp [inv.size]
   · intro k h1 h2;have hk:k<ops.size:=by rw [←inv.size];exact h1
     simp only [Array.getElem_map,Array.getElem_range]
     by_cases hkn:k<n
     · have:=hall k hkn;simp only [zi,Array.getD,h1,dif_pos] at this;rw [decide_eq_true hkn];exact this
     · have:=inv.tail k (by omega) hk;simp only [Array.getD,h1,dif_pos] at this;rw [decide_eq_false hkn];exact this
  rw [Jq,hl,hF];have hlen:(ops.toList.drop n).length=ops.size - n:=by simp
  have:=wpAny_of_seq (P:=P) (md:=.any) (ops:=ops) (Q':=Q) (ops.toList.drop n) n L0 (F xs) w (fun j=>by simp) (by rw [hlen];exact hseq) (hT xs w hS fun j hj=>hV j hj (hall j hj))
  rwa [hlen] at this
 | succ fuel ih =>
  intro listed xs w inv hf hS hV;obtain ⟨i0,hi0,hun0⟩:∃ i,i<n∧zi listed i=false:=by obtain ⟨i,hi⟩:=List.exists_mem_of_ne_nil ((List.range n).filter fun j=>!zi listed j) (fun h=>by rw [h] at hf;cases hf);obtain ⟨h1,h2⟩:=List.mem_filter.1 hi;exact ⟨i,List.mem_range.1 h1,by simpa using h2⟩
  rw [show fuel+1+(ops.size - n)=(fuel+(ops.size - n))+1 by omega];refine ⟨fun hr=>?_,fun i hi=>?_⟩
  · exfalso;have hall:∀ j,j<n→zi listed j=true:=by
     intro j
     induction j using Nat.strongRecOn with
     | _ j ihj =>
      intro hj;rcases hx:zi listed j with _ | _
      · exfalso;have hjs:j<ops.size:=by omega
        have hm:j∈Region.ready .any ops listed:=mem_ready.2 ⟨hx,ops[j],Array.getElem?_eq_getElem hjs,fun e he _=>by
         have h1:=hback j _ (Array.getElem?_eq_getElem hjs) e he;have h2:=ihj e.on h1 (by omega);have h3:e.on<listed.size:=by rw [inv.size];omega
         simp only [zi,Array.getD,h3,dif_pos] at h2 ⊢;exact h2⟩
        rw [hr] at hm;cases hm
      · rfl
    rw [hall i0 hi0] at hun0;cases hun0
  · have hin:i<n:=by
     rcases Jh i n with h | h
     · exact h
     · exact absurd hi (tail_waits hs hc hn inv _ i0 rfl hi0 hun0 i h)
    obtain ⟨h1,o,h2,h3⟩:=mem_ready.1 hi;have his:i<ops.size:=by omega
    have hon:zi listed i=false:=h1;have hset:∀ j,zi (listed.setIfInBounds i true) j=yS (zi listed) i true j:=by
     intro j
     by_cases hj:j=i
     · subst hj;simp [zi,yS,Array.getD,inv.size,his]
     · simp only [yS,hj,if_false];exact getD_set_ne true (Ne.symm hj)
    have e1:o.dst=zY ops i:=by simp [zY,h2]
    have hst:=Steps.take_get hstep hin h2;have hneed:AllV V xs w (yW o):=AllV.of _ fun j hj=>by
     obtain ⟨e,he,rfl⟩:=List.mem_map.1 hj;obtain ⟨he1,he2⟩:=List.mem_filter.1 he;have he1:e∈o.after:=by simpa using he1
     have h4:=h3 e he1 he2;have hlt:=hback i o h2 e he1;have h5:e.on<listed.size:=by rw [inv.size];omega
     refine hV _ (by omega) ?_;simp only [zi,Array.getD,h5,dif_pos] at h4 ⊢;exact h4
    refine wpOp_step h2 fun K hK=>?_;rw [hF];refine hst xs w hS hneed K fun v w' hS' hVi hkeep=>?_;have hfr:(F xs).put o.dst v=zB ops a0 (yS xs i v):=by rw [←hF,e1,zB,zB,ZF (zY ops) xs i v _ _ List.nodup_range (List.mem_range.2 his) fun j hj hne t ht hc=>?_];have:=List.all_eq_true.1 (List.all_eq_true.1 hd i (List.mem_range.2 his)) j hj;rw [ht,hc] at this;simp [hne] at this
    rw [hfr];refine hK _ _ (ih _ _ _ (inv.set hi hin) ?_ hS' ?_)
    · have hlt:((List.range n).filter fun j=>!zi (listed.setIfInBounds i true) j).length+1=((List.range n).filter fun j=>!zi listed j).length:=by
       have key:∀ l:List Nat,l.Nodup→i∈l→(l.filter fun j=>!zi (listed.setIfInBounds i true) j).length+1=(l.filter fun j=>!zi listed j).length:=by
        intro l
        induction l with
        | nil=>intro _ h;cases h
        | cons k l ihl =>
         intro hnd hm;obtain ⟨hk,hnd⟩:=List.nodup_cons.1 hnd
         by_cases hki:k=i
         · subst hki;have e2:l.filter (fun j=>!zi (listed.setIfInBounds k true) j)=l.filter fun j=>!zi listed j:=List.filter_congr fun j hj=>by rw [hset];have:j≠k:=fun e=>hk (e ▸ hj);simp [yS,this]
           have a1:zi (listed.setIfInBounds k true) k=true:=by rw [hset];simp [yS]
           rw [List.filter_cons_of_neg (by rw [a1];decide),List.filter_cons_of_pos (by rw [hon];rfl),e2,Ji]
         · have hm2:i∈l:=by
            rcases Kn.1 hm with h | h
            · exact absurd h.symm hki
            · exact h
           have a1:zi (listed.setIfInBounds i true) k=zi listed k:=by rw [hset];simp [yS,hki]
           rw [List.filter_cons,List.filter_cons,a1]
           split
           · rw [Ji,Ji,←ihl hnd hm2]
           · exact ihl hnd hm2
       exact key _ List.nodup_range (List.mem_range.2 hin)
      omega
    · intro j hj hjon;rw [hset] at hjon
      by_cases hji:j=i
      · subst hji;simpa [yS] using hVi
      · simp only [yS,hji,if_false] at hjon ⊢;exact hkeep j _ (hV j hj hjon)
theorem zk (n:Nat) {id:Nat} {a:Act} {w:World} (S:World→Prop) (V:Nat→Value→World→Prop) (F:(Nat→Value)→Act) (hF:∀ xs,zB ops a xs=F xs)
  (hm:P.follows .mixedOrders=true) (hd:ZJ ops=true) (hacyc:backB 0 ops.toList=true) (hn:n<ops.size) (hs:Region.sinkB .any ops n=true) (hc:Region.chainB .any ops n=true)
  (hseq:Region.seqB .any ops (ops.size - n) n ((Array.range ops.size).map fun j=>decide (j<n))=true) (hS:S w.drew) (hstep:Steps P ops Q F S V 0 (ops.toList.take n))
  (hT:∀ (xs:Nat→Value) (w:World),S w→(∀ j,j<n→V j (xs j) w)→wpList P ops Q (ops.toList.drop n) (F xs) w):(Code.region id ops true).wp P Q a w:=by
 refine wp_region_any hm ?_;have hinv:HeadInv .any ops n (Array.replicate ops.size false):=⟨by simp,(fun j oj _ h=>by rw [getD_replicate_false] at h;cases h),fun t _ ht=>by simp [Array.getD,ht]⟩
 have hcount:((List.range n).filter fun j=>!zi (Array.replicate ops.size false) j).length=n:=by rw [List.filter_eq_self.2 fun j hj=>by have:=List.mem_range.1 hj;simp [zi,Array.getD,show j<ops.size by omega]];simp
 have h:=Yy n a F hF S V _ rfl hd hacyc hn hs hc hseq hstep hT n (Array.replicate ops.size false) (fun j=>WJ a (zY ops j)) w.drew hinv hcount hS (fun j hj h=>by simp [zi,Array.getD,show j<ops.size by omega] at h);rw [zB,Ze,show n+(ops.size - n)=ops.size by omega] at h;exact h
end
end Go.Proofs.YtdaejggcjjdhkaaGreatDoor
namespace Go.Proofs.YtdaejggcjjdhkaaGreatDoor
open Go Go.RowKit
def Rx (w:World) (X:Nat→Prop) (A:Option Addr) (n:Nat) (xs:List Value):Prop:=
 xs.length=n∧(0<n→∃ b,A=some ⟨b,0,none⟩∧¬ X b∧b<w.heap.size∧∀ j u,xs[j]?=some u→w.cell? ⟨b,j,none⟩=some u)
section
variable {w w':World} {X X' S:Nat→Prop} {A:Option Addr} {n:Nat} {xs:List Value}
theorem Rx.fx (h:Rx w X A n xs) (k:Fx S w w') (hX:∀ b,b<w.heap.size→S b∨X' b→X b):Rx w' X' A n xs:=
 ⟨h.1,fun hn=>by obtain ⟨b,e,hb,hl,hc⟩:=h.2 hn;exact ⟨b,e,fun hx=>hb (hX b hl (.inr hx)),Nat.lt_of_lt_of_le hl k.size,fun j u hu=>k.cell (hc j u hu) fun hs=>hb (hX b hl (.inl hs))⟩⟩
theorem Rx.own {base:Nat} {e:TypeId} {c:Nat} (h:w.ownsRow base e 1 (.slice A n c) n xs) (hX:∀ b,base≤b→¬ X b):Rx w X A n xs:=by
 refine ⟨by have:=h.1;omega,fun hn=>?_⟩;obtain ⟨g,cap,hv,hb,hlt⟩:=h.form hn;have hA:A=some ⟨g,0,none⟩:=by injection hv
 subst hA;exact ⟨g,rfl,hX g hb,hlt,fun j u hu=>by have:=h.cells (g:=g) rfl j u hu;rwa [Addr.add_lit,Jq] at this⟩
end
def yR (s:List UInt8):Value:=.iface 212 (.string (bs s))
def jv (n:List UInt8) (op:UInt8) (v:Value):Value:=.iface 227 (.agg #[.string (bs n),.int .u8 (op.toNat:Int),v])
def zw:Nat:=2000000
def PVs (V:List Ex.Tk→Value→Prop):List Ex.Tk→List Value→Prop
 | ts,[]=>ts=[]
 | ts,v::vs=>∃ a b,ts=a++b∧V a v∧PVs V b vs
def PV (w:World) (X:Nat→Prop):Nat→List Ex.Tk→Value→Prop
 | 0,ts,v=>∃ s,ts=s.map .b∧s.length≤zw∧v=yR s
 | d+1,ts,v=>(∃ s,ts=s.map .b∧s.length≤zw∧v=yR s)∨∃ n op l A m c xs,ts=[.v n op l]∧n.length≤zw∧v=jv n op (.slice A m c)∧Rx w X A m xs∧m≤zw∧PVs (PV w X d) l xs
theorem PVs.mono {V V':List Ex.Tk→Value→Prop} (h:∀ t v,V t v→V' t v):∀ {xs:List Value} {ts:List Ex.Tk},PVs V ts xs→PVs V' ts xs
 | [],_,k=>k
 | _::_,_,⟨a,b,e,k1,k2⟩=>⟨a,b,e,h _ _ k1,PVs.mono h k2⟩
theorem PVs.append {V:List Ex.Tk→Value→Prop}:∀ {xs ys:List Value} {a b:List Ex.Tk},PVs V a xs→PVs V b ys→PVs V (a++b) (xs++ys)
 | [],_,_,_,h,k=>by rw [show _=[] from h];exact k
 | _::_,_,_,b,⟨a1,a2,e,k1,k2⟩,k=>⟨a1,a2++b,by rw [e,Kv],k1,PVs.append k2 k⟩
theorem PVs.one {V:List Ex.Tk→Value→Prop} {a:List Ex.Tk} {v:Value} (h:V a v):PVs V a [v]:=⟨a,[],by simp,h,rfl⟩
theorem PVs.nil {V:List Ex.Tk→Value→Prop}:PVs V [] []:=rfl
section
variable {w w':World} {X X' S:Nat→Prop}
theorem PV.lit (d:Nat) {s:List UInt8} (hs:s.length≤zw):PV w X d (s.map .b) (yR s):=by
 cases d with
 | zero=>exact ⟨s,rfl,hs,rfl⟩
 | succ d=>exact .inl ⟨s,rfl,hs,rfl⟩
theorem PV.up:∀ {d:Nat} {ts:List Ex.Tk} {v:Value},PV w X d ts v→PV w X (d+1) ts v
 | 0,_,_,h=>.inl h
 | _+1,_,_,.inl h=>.inl h
 | _+1,_,_,.inr ⟨n,op,l,A,m,c,xs,e1,e2,e3,h1,e4,h2⟩=>.inr ⟨n,op,l,A,m,c,xs,e1,e2,e3,h1,e4,h2.mono fun _ _=>PV.up⟩
theorem PV.upto {d d':Nat} (hd:d≤d') {ts:List Ex.Tk} {v:Value} (h:PV w X d ts v):PV w X d' ts v:=by
 induction hd with
 | refl=>exact h
 | step _ ih=>exact PV.up ih
theorem PV.fx (k:Fx S w w') (hX:∀ b,b<w.heap.size→S b∨X' b→X b):∀ {d:Nat} {ts:List Ex.Tk} {v:Value},PV w X d ts v→PV w' X' d ts v
 | 0,_,_,h=>h
 | _+1,_,_,.inl h=>.inl h
 | _+1,_,_,.inr ⟨n,op,l,A,m,c,xs,e1,e2,e3,h1,e4,h2⟩=>.inr ⟨n,op,l,A,m,c,xs,e1,e2,e3,h1.fx k hX,e4,h2.mono fun _ _=>PV.fx k hX⟩
theorem PV.var {d:Nat} {n:List UInt8} {op:UInt8} {l:List Ex.Tk} {A:Option Addr} {m c:Nat} {xs:List Value} (hn:n.length≤zw) (h1:Rx w X A m xs) (hm:m≤zw) (h2:PVs (PV w X d) l xs):PV w X (d+1) [.v n op l] (jv n op (.slice A m c)):=
 .inr ⟨n,op,l,A,m,c,xs,rfl,hn,rfl,h1,hm,h2⟩
end
def PL (w:World) (X:Nat→Prop) (ts:List Ex.Tk) (xs:List Value):Prop:=∃ d,PVs (PV w X d) ts xs
section
variable {w w':World} {X X' S:Nat→Prop} {a b:List Ex.Tk} {xs ys:List Value}
theorem PL.nil:PL w X [] []:=⟨0,rfl⟩
theorem PL.append (h:PL w X a xs) (k:PL w X b ys):PL w X (a++b) (xs++ys):=by obtain ⟨d,h⟩:=h;obtain ⟨d',k⟩:=k;exact ⟨d+d',(h.mono fun _ _=>PV.upto (Nat.le_add_right _ _)).append (k.mono fun _ _=>PV.upto (Nat.le_add_left _ _))⟩
theorem PL.one {d:Nat} {v:Value} (h:PV w X d a v):PL w X a [v]:=⟨d,PVs.one h⟩
theorem PL.fx (k:Fx S w w') (hX:∀ b,b<w.heap.size→S b∨X' b→X b) (h:PL w X a xs):PL w' X' a xs:=by obtain ⟨d,h⟩:=h;exact ⟨d,h.mono fun _ _=>PV.fx k hX⟩
end
def Rdr (w:World) (R:Nat) (s:List UInt8) (p:Nat) (e:UInt8):Prop:=Blk w R 187 #[.string (bs s),.int .i64 (p:Int),.int .u8 (e.toNat:Int)]
end Go.Proofs.YtdaejggcjjdhkaaGreatDoor
namespace Go.Proofs.YtdaejggcjjdhkaaGreatDoor
open Go Go.RowKit Go.Shelf
def Tryz.lays169_ren : Go.Shelf.Ren := ⟨fun | 169 => 164 | n => n, fun | 70 => 192 | 9 => 9 | 0 => 0 | 72 => 194 | 37 => 98 | 127 => 219 | 3 => 3 | 5 => 5 | n => n, fun | n => n⟩
theorem Tryz.lays169 : Go.Proofs.Lays.n169 Tryz.prog Tryz.lays169_ren := {
  mixed := by kernel_rfl
  f169 := Tryz.func164.trans (congrArg some (by kernel_rfl))
  t0 := Tryz.underlying0
  a0 := Tryz.isAgg0
  z0 := Tryz.sizeOf0
  v0 := Tryz.zeroValue0
  t3 := Tryz.underlying3
  a3 := Tryz.isAgg3
  z3 := Tryz.sizeOf3
  v3 := Tryz.zeroValue3
  t9 := Tryz.underlying9
  a9 := Tryz.isAgg9
  z9 := Tryz.sizeOf9
  v9 := Tryz.zeroValue9
  t37 := Tryz.underlying98
  a37 := Tryz.isAgg98
  z37 := Tryz.sizeOf98
  v37 := Tryz.zeroValue98
  t70 := Tryz.underlying192
  a70 := Tryz.isAgg192
  z70 := Tryz.sizeOf192
  v70 := Tryz.zeroValue192
  t72 := Tryz.underlying194
  a72 := Tryz.isAgg194
  z72 := Tryz.sizeOf194
  v72 := Tryz.zeroValue194
  t127 := Tryz.underlying219
  a127 := Tryz.isAgg219
  z127 := Tryz.sizeOf219
  v127 := Tryz.zeroValue219 }
theorem ju:Builder.Extra Tryz.prog Tryz.lays169_ren where
 sizeBuilder:=by kernel_rfl
 liesBuilder:=by kernel_rfl
 t5:=Tryz.underlying5
 a5:=Tryz.isAgg5
 z5:=Tryz.sizeOf5
 v5:=Tryz.zeroValue5
 infoByte:=by kernel_rfl
 cellsByte:=by kernel_rfl
 sizeByte:=by kernel_rfl
 neB5:=by decide
def Bd (w:World) (B b:Nat) (l:List UInt8):Prop:=Lib.IsBuilderF 194 5 B b (Lib.byteCells l) w
theorem Bd.fresh (w:World):Bd (w.alloc (.cells #[.pointer none,.slice none 0 0] 194)) w.heap.size w.heap.size []:=Lib.IsBuilderF.of (Lib.fresh_isBuilder 194 5 w)
theorem Bd.keep {w w':World} {B b:Nat} {l:List UInt8} (h:Bd w B b l) (hk:∀ k,B≤k→k<w.heap.size→w'.heap[k]?=w.heap[k]?):Bd w' B b l:=by
 have key:∀ p,Lib.BuilderAtF 194 5 B b p (Lib.byteCells l) w→Lib.BuilderAtF 194 5 B b p (Lib.byteCells l) w':=by
  rintro p ⟨hB,v,hb,ho,hne⟩;have lt:∀ {k:Nat} {o:Obj},w.heap[k]?=some o→k<w.heap.size:=fun {k o} e=>by
   rcases Jh k w.heap.size with h1 | h1
   · exact h1
   · rw [Array.getElem?_eq_none h1] at e;cases e
  refine ⟨hB,v,(hk b hB (lt hb)).trans hb,⟨ho.1,?_⟩,hne⟩;rcases ho.2 with h1 | ⟨g,cap,cur,fz,h1,h2,h3,h4⟩
  · exact .inl h1
  · exact .inr ⟨g,cap,cur,fz,h1,h2,(hk g h2 (lt h3)).trans h3,h4⟩
 rcases h with h | h
 · exact .inl (key _ h)
 · exact .inr (key _ h)
theorem Bd.new {w w':World} {B b:Nat} {l:List UInt8} (h:Bd w B b l) (hb:Below w.heap.size w w'):Bd w' B b l:=h.keep fun k _ hk=>hb.block k hk
theorem QH:(Tryz.prog.info? 194).map (·.size)=some 2:=by kernel_rfl
theorem zal:liesAt Tryz.prog Tryz.prog.depth 194 (2 / Tryz.prog.cellsOf 194) 0 194 1=true:=by kernel_rfl
theorem Xe (b:Nat) (w:World) (h0:w.cell? ⟨b,0,none⟩=some (.pointer (some ⟨b,0,none⟩))):
  Calls Tryz.prog 237 #[.pointer (some ⟨b,0,none⟩)] w fun e w'=>e=.returned (.tuple #[])∧w'=w:=by
 obtain ⟨j,hj,_⟩:=Option.map_eq_some_iff.1 QH;have hq:=fun w:World=>Lib.run_neq_ptr_same (P:=Tryz.prog) w ⟨b,0,none⟩ Tryz.underlying192 hj;go_enter Tryz.func237,Tryz.ntmps237;go_wp2_with fail;go_end0;exact ⟨rfl,rfl⟩
theorem YB (b:Nat) (w:World) (h0:w.cell? ⟨b,0,none⟩=some (.pointer none)) (hsh:w.shape? b=some (194,2)) (hfz:w.frozen? ⟨b,0,none⟩=false):
  Calls Tryz.prog 237 #[.pointer (some ⟨b,0,none⟩)] w fun e w'=>e=.returned (.tuple #[])∧w'=w.setCell ⟨b,0,none⟩ (.pointer (some ⟨b,0,none⟩)):=by
 obtain ⟨j,hj,hjs⟩:=Option.map_eq_some_iff.1 QH;go_enter Tryz.func237,Tryz.ntmps237;go_wp2_with fail;rw [Lib.run_to_unsafe w ⟨b,0,none⟩ Tryz.underlying192 Tryz.underlying107 hj (by rw [hjs];decide) hsh (Nat.zero_lt_succ 1)];simp only [Result.andThen];rw [Oper.upon_value];go_wp2_with fail;rw [run_callFunc_extern Tryz.func238 (by kernel_rfl) (by kernel_rfl) (by kernel_rfl) (e:=Extern.AbiNoEscape.same) (by kernel_rfl)];rw [Lib.run_noEscape];simp only [Result.andThen];rw [Oper.upon_value];go_wp2_with fail;rw [Lib.run_from_unsafe w ⟨b,0,none⟩ Tryz.underlying107 Tryz.underlying192 hj hsh zal];simp only [Result.andThen];rw [Oper.upon_value];go_wp2_with fail;go_end0;exact ⟨rfl,rfl⟩
theorem Xs (B b:Nat) (l:List Value) (w:World) (h:Lib.IsBuilderF 194 5 B b l w):
  Calls Tryz.prog 237 #[.pointer (some ⟨b,0,none⟩)] w fun e w'=>e=.returned (.tuple #[])∧Lib.BuilderAtF 194 5 B b (.pointer (some ⟨b,0,none⟩)) l w'∧Below B w w':=by
 rcases h with h | h
 · refine (YB b w h.cell0 h.shape h.frozen0).mono ?_;rintro e w' ⟨rfl,rfl⟩;exact ⟨rfl,h.used _,(Ja B w).setCell (p:=⟨b,0,none⟩) h.1 _⟩
 · refine (Xe b w h.cell0).mono ?_;rintro e w' ⟨rfl,rfl⟩;exact ⟨rfl,h,Ja B _⟩
theorem infoB:(Tryz.prog.info? 5).map (fun i=>(i.zero,i.size,i.bytes))=some (some (.int .u8 0),1,1):=by kernel_rfl
theorem UK (B b:Nat) (l:List UInt8) (s:List UInt8) (w:World) (h:Bd w B b l) (hlen:l.length+s.length≤140737488355328) (hBw:B≤w.heap.size):
  Calls Tryz.prog 236 #[.pointer (some ⟨b,0,none⟩),.string (bs s)] w fun e w'=>e=.returned (.tuple #[.int .i64 (s.length:Int),.nilIface])∧Bd w' B b (l++s)∧Below B w w':=by
 obtain ⟨i0,hi,hz0,hz1,hz2⟩:=info_parts infoB;have hsz:(bs s).size=s.length:=zd s;have HSZ:=hY hsz;have hl2:(Lib.byteCells l).length=l.length:=Lib.byteCells_length l;have HL2:=hY hl2;have hlen2:(Lib.byteCells l).length+(bs s).size≤140737488355328:=by rw [hl2,hsz];exact hlen
 clear hsz hl2 hlen;go_enter Tryz.func236,Tryz.ntmps236;go_wp2_with fail;refine (Xs B b _ _ h).mono ?_;rintro e w1 ⟨rfl,h1,hb1⟩;obtain ⟨hB,v,hbk,hown,hne⟩:=h1;have c0:w1.cell? ⟨b,0,none⟩=some (.pointer (some ⟨b,0,none⟩)):=by rw [Lib.cell_of_heap hbk];rfl
 have c1:w1.cell? ⟨b,1,none⟩=some v:=by rw [Lib.cell_of_heap hbk];rfl
 go_wp2_with (at_builtin;refine Lib.wpList_append_own_stringF _ rfl _ _ 98 9 rfl B 5 i0 Tryz.underlying98 Tryz.underlying9 hi hz0 hz1 hz2 _ _ _ rfl hown (bs s) rfl ?c3 ?c4 ?c5 ?_)
 case c3=>unfold maxLen;omega
 case c4=>omega
 case c5=>have:=hb1.size;omega
 intro v' w2 hown' hgrow _;have hlt:b<w1.heap.size:=by
  rcases Jh b w1.heap.size with h' | h'
  · exact h'
  · simp [Array.getElem?_eq_none h'] at hbk
 have hb2:w2.heap[b]?=some (.cells #[.pointer (some ⟨b,0,none⟩),v] 194 (0,0)):=by rw [hgrow.block b hlt (fun e=>hne e.symm)];exact hbk
 have d0:w2.cell? ⟨b,0,none⟩=some (.pointer (some ⟨b,0,none⟩)):=by rw [Lib.cell_of_heap hb2];rfl
 have d1:w2.cell? ⟨b,1,none⟩=some v:=by rw [Lib.cell_of_heap hb2];rfl
 have f1:w2.frozen? ⟨b,1,none⟩=false:=Lib.frozen_of_heap hb2 1;obtain ⟨ao,n',cap,rfl⟩:∃ ao n' cap,v'=.slice ao n' cap:=by
  rcases hown'.2 with ⟨hv,_⟩ | ⟨g,cap,cur,fz,hv,_⟩
  · exact ⟨_,_,_,hv⟩
  · exact ⟨_,_,_,hv⟩
 go_wp2_with fail;go_ret2;refine ⟨by rw [←HSZ.out];rfl,.inr ?_,?_⟩
 · have hcells:Lib.byteCells (l++s)=Lib.byteCells l++Lib.strCells (bs s):=by rw [Lib.byteCells_append];rfl
   rw [hcells];exact Lib.BuilderAtF.put (T:=194) (e:=5) hB hb2 (bs':=Lib.byteCells l++Lib.strCells (bs s)) (by rw [Jf,Lib.strCells_length];exact hown') (by decide)
 · exact (hb1.grown hgrow (by have:=hb1.size;omega) (fun k hk=>(hown.lt k hk).1)).setCell (p:=⟨b,1,none⟩) hB _
theorem Vx (B b:Nat) (l:List UInt8) (w:World) (h:Bd w B b l) (hBw:B≤w.heap.size):
  Calls Tryz.prog 164 #[.pointer (some ⟨b,0,none⟩)] w fun e w'=>e=.returned (.string (bs l))∧Bd w' B b l∧Below B w w':=by
 refine (Any.Builder_String_any_k Tryz.lays169 ju B b l w h hBw).mono ?_;rintro e w' ⟨rfl,h1,h2,_⟩;exact ⟨rfl,h1,h2⟩
end Go.Proofs.YtdaejggcjjdhkaaGreatDoor
namespace Go.Proofs.YtdaejggcjjdhkaaGreatDoor
open Go Go.RowKit Go.Shelf Go.Maps Go.WideMaps
def EM (w:World) (M:Nat):Prop:=w.heap[M]?=some (.map #[] 0)
theorem EM.below {w w':World} {M B:Nat} (h:EM w M) (hb:Below B w w') (hM:M<B):EM w' M:=(hb.block M hM).trans h
theorem keyS:Keyed Tryz.prog 9:=string_keyed Tryz.underlying9
theorem zeroS (w:World):(zeroValue 9).run Tryz.prog w=.ok (.string ⟨#[]⟩) w:=by kernel_rfl
theorem UT {v:Value} {ps:List MemPlace} {d:DataW Unit} (hd:d=.lit (.string [])) (hv:plainElem (H:=Unit) Tryz.prog 9 v=some (d,ps)):v=.string ⟨#[]⟩:=by
 subst hd;unfold plainElem at hv;rw [Tryz.underlying9] at hv;cases v with
 | string s =>
  have h2:(if s.size≤maxLen then some ((DataW.lit (.string s.data.toList):DataW Unit),([]:List MemPlace)) else none)=some (DataW.lit (.string []),ps):=hv
  split at h2
  · injection h2 with h2;injection h2 with h2 _;injection h2 with h2;injection h2 with h2;have:s=⟨#[]⟩:=ByteArray.ext (Array.toList_inj.1 h2);rw [this]
  · cases h2
 | _=>cases hv
theorem EM.look {w:World} {M:Nat} (h:EM w M) (k:List UInt8) (hk:k.length≤zw):(Instr.lookup 191 (.map (some M)) (.string (bs k)) false).run Tryz.prog w=.ok (.string ⟨#[]⟩) w:=by
 have hown:w.ownsMap (H:=Unit) Tryz.prog 9 (plainElem Tryz.prog 9) M 0 (.map []):=⟨#[],0,h,⟨by simp,MapKept.stamped_empty 0,by simp⟩,Jd _,rfl⟩
 have hkl:(bs k).size≤maxLen:=by rw [zd];unfold maxLen;unfold zw at hk;omega
 obtain ⟨v,ps,hr,hv⟩:=hown.lookup keyS Tryz.underlying191 (zeroS w) (plainElem_string Tryz.underlying9 (s:=⟨#[]⟩) (Nat.zero_le _)) (keyOf_string_mk Tryz.underlying9 hkl);have hv2:v=.string ⟨#[]⟩:=UT rfl hv;rw [hv2] at hr;exact hr
theorem XB {w:World} {base k n:Nat} {e:TypeId} {v:Value} {xs:List Value} (h:w.ownsRowF base e k v n xs):∃ A c,v=.slice A n c:=by
 rcases h.2 with ⟨rfl,rfl⟩ | ⟨g,cap,cur,fz,rfl,_⟩
 · exact ⟨_,_,rfl⟩
 · exact ⟨_,_,rfl⟩
theorem Uu {B b:Nat} {l:List UInt8} {w:World} (h:Bd w B b l):Calls Tryz.prog 235 #[.pointer (some ⟨b,0,none⟩)] w fun e w'=>e=.returned (.int .i64 (l.length:Int))∧w=w':=by
 have key:∃ A c,w.cell? ⟨b,1,none⟩=some (.slice A (Lib.byteCells l).length c):=by
  rcases h with h | h
  · obtain ⟨hB,v,hb,ho,hne⟩:=h;obtain ⟨A,c,rfl⟩:=XB ho;exact ⟨A,c,by rw [Lib.cell_of_heap hb];rfl⟩
  · obtain ⟨hB,v,hb,ho,hne⟩:=h;obtain ⟨A,c,rfl⟩:=XB ho;exact ⟨A,c,by rw [Lib.cell_of_heap hb];rfl⟩
 obtain ⟨A,c,c1⟩:=key;rw [Lib.byteCells_length] at c1;clear h;go_enter Tryz.func235,Tryz.ntmps235;go_wp2_with fail;go_ret;exact ⟨rfl,rfl⟩
def Wr (w:World) (B b:Nat) (r:Ending) (w':World):Prop:=∃ (q:Bool) (l:List UInt8),r=.returned (.bool q)∧Bd w' B b l∧l.length≤65536∧Below B w w'
theorem Y4 (s:List UInt8) (hs:s.length≤zw) {B b:Nat} {l:List UInt8} {w:World} (h:Bd w B b l) (hl:l.length≤65536) (hB:B≤w.heap.size) (M:Value):Calls Tryz.prog 234 #[.string (bs s),.pointer (some ⟨b,0,none⟩),M] w (Wr w B b):=by
 have hz:(bs s).size≤2000000:=by rw [zd];exact hs
 have HZ:Hid ((bs s).size=s.length):=hY (zd s);have H:=hY h;clear h;obtain ⟨t,et⟩:∃ t,decide ((65536:Int)<(l.length:Int)+((bs s).size:Int))=t:=⟨_,rfl⟩
 cases t with
 | true =>go_enter Tryz.func234,Tryz.ntmps234;go_wp2_with fail;refine (Uu H.out).mono ?_;rintro e w1 ⟨rfl,rfl⟩;go_wp2_with fail;go_ret;exact ⟨false,l,rfl,H.out,hl,Ja _ _⟩
 | false =>
  have hle:l.length+s.length≤65536:=by have:=of_decide_eq_false et;have:=HZ.out;omega
  go_enter Tryz.func234,Tryz.ntmps234;go_wp2_with fail;refine (Uu H.out).mono ?_;rintro e w1 ⟨rfl,rfl⟩;go_wp2_with fail;refine (UK B b l s _ H.out (by omega) hB).mono ?_;rintro e w1 ⟨rfl,h1,p1⟩;go_wp2_with fail;go_ret;exact ⟨true,l++s,rfl,h1,by rw [Jf];exact hle,p1⟩
theorem mLit (s : List UInt8) (w : World) : (method 358 212 (.string (bs s)) "strata/expand.put").run Tryz.prog w = .ok (234, .string (bs s)) w := by kernel_rfl
theorem mVar (x y z : Value) (w : World) : (method 358 227 (.agg #[x, y, z]) "strata/expand.put").run Tryz.prog w = .ok (240, .agg #[x, y, z]) w := by kernel_rfl
def Ua (d:Nat):Prop:=∀ (B b M:Nat) (w:World) (n:List UInt8) (op:UInt8) (A:Option Addr) (m c:Nat) (ts:List Ex.Tk) (l:List UInt8),Bd w B b l→l.length≤65536→B≤w.heap.size→EM w M→M<B→PV w (fun g=>B≤g) d ts (jv n op (.slice A m c))→
 Calls Tryz.prog 240 #[.agg #[.string (bs n),.int .u8 (op.toNat:Int),.slice A m c],.pointer (some ⟨b,0,none⟩),.map (some M)] w (Wr w B b)
def Uc (d:Nat):Prop:=∀ (B b M:Nat) (w:World) (A:Option Addr) (m c:Nat) (xs:List Value) (ts:List Ex.Tk) (l:List UInt8),Bd w B b l→l.length≤65536→B≤w.heap.size→EM w M→M<B→Rx w (fun g=>B≤g) A m xs→m≤zw→PVs (PV w (fun g=>B≤g) d) ts xs→
 Calls Tryz.prog 163 #[.slice A m c,.pointer (some ⟨b,0,none⟩),.map (some M)] w (Wr w B b)
theorem PVs.get {V:List Ex.Tk→Value→Prop}:∀ {xs:List Value} {ts:List Ex.Tk} (_:PVs V ts xs) (i:Nat) (hi:i<xs.length),∃ t,V t xs[i]
 | [],_,_,i,hi=>absurd hi (by simp)
 | _::_,_,⟨a,_,_,k1,_⟩,0,_=>⟨a,k1⟩
 | _::_,_,⟨_,_,_,_,k2⟩,i+1,hi=>PVs.get k2 i (by simpa using hi)
theorem PV.form {w:World} {X:Nat→Prop} {d:Nat} {ts:List Ex.Tk} {v:Value} (h:PV w X d ts v):(∃ s,s.length≤zw∧v=yR s)∨∃ n op A m c,v=jv n op (.slice A m c):=by
 cases d with
 | zero=>obtain ⟨s,_,h1,rfl⟩:=h;exact .inl ⟨s,h1,rfl⟩
 | succ d =>
  rcases h with ⟨s,_,h1,rfl⟩ | ⟨n,op,l,A,m,c,xs,_,_,rfl,_⟩
  · exact .inl ⟨s,h1,rfl⟩
  · exact .inr ⟨n,op,A,m,c,rfl⟩
theorem Vp {d:Nat} (HV0:Ua d):Uc d:=by
 intro B b M w A m c xs ts l h hl hB hM hMB hr hm hp;have HR:=hY hr;have HB:=hY h;have HP:=hY hp;have HE:=hY hM;have HV:=hY HV0;have hm2:m≤2000000:=hm;clear hr h hp hM HV0;go_enter Tryz.func163,Tryz.ntmps163;go_wp2_with fail;go_loopw [11] (fun t11 wr=>∃ (i:Nat) (l':List UInt8),i≤m∧t11=.int .i64 (i:Int)∧Hid (Bd wr B b l')∧l'.length≤65536∧Hid (Below B w wr)) (fun t11 _=>m - (intOf t11).toNat)
 case atStart=>exact ⟨0,l,by omega,rfl,HB,hl,hY (Ja _ _)⟩
 case round =>
  rename World=>wr;obtain ⟨i,l',hi,rfl,HBi,hli,HW⟩:=hrel;rcases Jh i m with hin | hin
  · have i0:decide ((i:Int)<(m:Int))=true:=dT (by omega);have i1:(i:Int)<(m:Int):=by omega
    have j0:(0:Int)≤(i:Int):=by omega
    obtain ⟨g,rfl,hg,hgl,hcell⟩:=HR.out.2 (by omega);have hxl:i<xs.length:=by rw [HR.out.1];exact hin
    have c0:wr.cell? ⟨g,i,none⟩=some xs[i]:=(HW.out.cell (p:=⟨g,i,none⟩) (by show g<B;exact Nat.lt_of_not_le hg)).trans (hcell i _ (Jk hxl));obtain ⟨t,ht⟩:=HP.out.get i hxl;obtain ⟨v,hv⟩:∃ v,xs[i]=v:=⟨_,rfl⟩
    rw [hv] at c0 ht;have hBr:B≤wr.heap.size:=Jg hB HW.out.size;rcases ht.form with ⟨s,hs,rfl⟩ | ⟨n,op,A2,m2,c2,rfl⟩
    · have hml:=mLit s;replace c0:wr.cell? ⟨g,i,none⟩=some (.iface 212 (.string (bs s))):=c0;clear hv ht hcell hg hgl hxl;go_wp2_with fail;refine (Y4 s hs HBi.out hli hBr _).mono ?_;rintro r w5 ⟨q,l5,rfl,h5,hl5,p5⟩;have HW5:=hY (HW.out.trans p5);have HB5:=hY h5;clear h5 p5;cases q with
      | false =>go_wp2_with fail;go_ret;exact ⟨false,l5,rfl,HB5.out,hl5,HW5.out⟩
      | true =>
       go_wp2_with fail;go_roundw
       case rel=>exact ⟨i+1,l5,by omega,by go_num,HB5,hl5,HW5⟩
       case measure=>simp [intOf];omega
    · have hmv:=mVar (.string (bs n)) (.int .u8 (op.toNat:Int)) (.slice A2 m2 c2);replace c0:wr.cell? ⟨g,i,none⟩=some (.iface 227 (.agg #[.string (bs n),.int .u8 (op.toNat:Int),.slice A2 m2 c2])):=c0;have hcall:=HV.out _ _ _ _ _ _ _ _ _ _ _ HBi.out hli hBr (HE.out.below HW.out hMB) hMB (PV.fx (X':=fun g=>B≤g) (Fx.of_below HW.out) (fun b _ h=>h.elim id id) ht);have HC:=hY hcall;clear hv ht hcell hg hgl hxl hcall;go_wp2_with fail;refine HC.out.mono ?_;rintro r w5 ⟨q,l5,rfl,h5,hl5,p5⟩;have HW5:=hY (HW.out.trans p5);have HB5:=hY h5;clear h5 p5;cases q with
      | false =>go_wp2_with fail;go_ret;exact ⟨false,l5,rfl,HB5.out,hl5,HW5.out⟩
      | true =>
       go_wp2_with fail;go_roundw
       case rel=>exact ⟨i+1,l5,by omega,by go_num,HB5,hl5,HW5⟩
       case measure=>simp [intOf];omega
  · have i0:decide ((i:Int)<(m:Int))=false:=dF (by omega);go_wp2_with fail;go_ret;exact ⟨true,l',rfl,HBi.out,hli,HW.out⟩
theorem VR {B b:Nat} {l:List UInt8} {w:World} (h:Bd w B b l) (hl:l.length≤65536) (hB:B≤w.heap.size) (M:Value):Calls Tryz.prog 234 #[.string ⟨#[]⟩,.pointer (some ⟨b,0,none⟩),M] w (Wr w B b):=Y4 [] (Nat.zero_le _) h hl hB M
theorem Qs {d:Nat} (HA0:Uc d):Ua (d+1):=by
 intro B b M w n op A m c ts l h hl hB hM hMB hp;obtain ⟨l2,xs,hn,hr,hm,hps⟩:∃ l2 xs,n.length≤zw∧Rx w (fun g=>B≤g) A m xs∧m≤zw∧PVs (PV w (fun g=>B≤g) d) l2 xs:=by
  rcases hp with ⟨s,_,_,e⟩ | ⟨n',op',l2,A',m',c',xs,_,hn,e,hr,hm,hps⟩
  · injection e with e1 _;exact absurd e1 (by decide)
  · injection e with _ e;injection e with e;have e2:=congrArg Array.toList e;simp only at e2;injection e2 with q1 e2;injection e2 with q2 e2;injection e2 with q3 _;injection q3 with q4 q5 q6;subst q4 q5 q6;injection q1 with q1;have hnn:n=n':=by have:=congrArg bl q1;exact this
    exact ⟨l2,xs,by rw [hnn];exact hn,hr,hm,hps⟩
 have hal:=(Ja w.heap.size w).alloc (Jd _) (.cells #[.string (bs n),.int .u8 (op.toNat:Int),.slice A m c] 227);have HK:=hY (Blk.new w 227 #[.string (bs n),.int .u8 (op.toNat:Int),.slice A m c]);obtain ⟨w1,hw1⟩:∃ x,w.alloc (.cells #[.string (bs n),.int .u8 (op.toNat:Int),.slice A m c] 227)=x:=⟨_,rfl⟩
 rw [hw1] at hal HK;have hBl:Below B w w1:=hal.mono hB;have HB1:=hY (h.new hal);have HM1:=hY (hM.below hBl hMB);have HLK:=hY (EM.look HM1.out n hn);have HR1:=hY (hr.fx (X':=fun g=>B≤g) (Fx.of_below hBl) (fun b _ h=>h.elim id id));have HP1:=hY (hps.mono fun _ _=>PV.fx (X':=fun g=>B≤g) (Fx.of_below hBl) (fun b _ h=>h.elim id id));have HBl:=hY hBl;have HW1:=hY hw1;have hB1:B≤w1.heap.size:=Jg hB hBl.size;have HA:=hY HA0;have ho:op.toNat<256:=Jm _;obtain ⟨x1,e1⟩:∃ x,((op.toNat:Int)==43)=x:=⟨_,rfl⟩
 obtain ⟨x2,e2⟩:∃ x,((op.toNat:Int)==0)=x:=⟨_,rfl⟩
 have e3:((op.toNat:Int) != 43)=!x1:=by rw [bne,e1]
 clear h hM hp hr hps hal hw1 hBl HA0;go_enter Tryz.func240,Tryz.ntmps240;go_upto_region 1 with fail;rw [HW1.out];have b0:w1.cell? ⟨w.heap.size,0,none⟩=some (.string (bs n)):=HK.out.cell 0;have b1:w1.cell? ⟨w.heap.size,1,none⟩=some (.int .u8 (op.toNat:Int)):=HK.out.cell 1;have b2:w1.cell? ⟨w.heap.size,2,none⟩=some (.slice A m c):=HK.out.cell 2;have hlk:=HLK.out;cases x1 with
 | true =>go_wp2_with fail;go_ret;exact ⟨true,l,rfl,HB1.out,hl,HBl.out⟩
 | false =>
  cases x2 with
  | true =>go_wp2_with fail;refine (VR HB1.out hl hB1 _).mono ?_;rintro r w5 ⟨q,l5,rfl,h5,hl5,p5⟩;go_wp2_with fail;go_ret;exact ⟨q,l5,rfl,h5,hl5,HBl.out.trans p5⟩
  | false =>go_wp2_with fail;refine (HA.out _ _ _ _ _ _ _ _ _ _ HB1.out hl hB1 HM1.out hMB HR1.out hm HP1.out).mono ?_;rintro r w5 ⟨q,l5,rfl,h5,hl5,p5⟩;go_wp2_with fail;go_ret;exact ⟨q,l5,rfl,h5,hl5,HBl.out.trans p5⟩
theorem Qr:Ua 0:=by intro B b M w n op A m c ts l h hl hB hM hMB hp;obtain ⟨s,_,_,e⟩:=hp;injection e with e1 _;exact absurd e1 (by decide)
theorem UF:∀ d,Uc d
 | 0=>Vp Qr
 | d+1=>Vp (Qs (UF d))
end Go.Proofs.YtdaejggcjjdhkaaGreatDoor
namespace Go.Proofs.YtdaejggcjjdhkaaGreatDoor
open Go Go.RowKit
def js:Ex.Kd→Int
 | .plain=>0
 | .braces=>1
 | .quoted=>2
 | .document=>3
theorem yO (c k:UInt8):((c.toNat:Int)==(k.toNat:Int))=(c==k):=by have:=zO c k;rw [bne] at this;cases h:((c.toNat:Int)==(k.toNat:Int)) <;> cases h2:(c==k) <;> simp_all
def escB (x1 x2 x3:Bool):Ex.Kd→Bool
 | .quoted=>x1||x2||x3
 | .document=>x2||x3
 | _=>true
theorem Vd (k:Ex.Kd) (c:UInt8) {w:World} {R p:Nat} {s:List UInt8} {e:UInt8} (h:Rdr w R s p e) {b:Bool} (H:Hid (Ex.escs k e c=b)):Calls Tryz.prog 190 #[.pointer (some ⟨R,0,none⟩),.int .i64 (js k),.int .u8 (c.toNat:Int)] w fun r w'=>r=.returned (.bool b)∧w=w':=by
 have c2:w.cell? ⟨R,2,none⟩=some (.int .u8 (e.toNat:Int)):=h.cell 2;obtain ⟨x1,e1⟩:∃ x,((c.toNat:Int)==34)=x:=⟨_,rfl⟩
 obtain ⟨x2,e2⟩:∃ x,((c.toNat:Int)==36)=x:=⟨_,rfl⟩
 obtain ⟨x3,e3⟩:∃ x,((c.toNat:Int)==(e.toNat:Int))=x:=⟨_,rfl⟩
 have f1:(c==34)=x1:=by rw [←e1,show (34:Int)=(((34:UInt8).toNat:Nat):Int) from rfl,yO]
 have f2:(c==36)=x2:=by rw [←e2,show (36:Int)=(((36:UInt8).toNat:Nat):Int) from rfl,yO]
 have f3:(c==e)=x3:=by rw [←e3,yO]
 have HB:Hid (b=escB x1 x2 x3 k):=by show _=_;rw [←H.out,←f1,←f2,←f3];cases k <;> rfl
 clear f1 f2 f3 H h;cases k with
 | plain =>simp only [js];go_enter Tryz.func190,Tryz.ntmps190;go_wp2_with fail;go_ret;exact ⟨by rw [HB.out];rfl,rfl⟩
 | braces =>simp only [js];go_enter Tryz.func190,Tryz.ntmps190;go_wp2_with fail;go_ret;exact ⟨by rw [HB.out];rfl,rfl⟩
 | quoted =>
  simp only [js];cases x1 <;> cases x2 <;> cases x3 <;> (
   go_enter Tryz.func190,Tryz.ntmps190;go_wp2_with fail;go_ret;exact ⟨by rw [HB.out];rfl,rfl⟩)
 | document =>
  simp only [js];clear e1;cases x2 <;> cases x3 <;> (
   go_enter Tryz.func190,Tryz.ntmps190;go_wp2_with fail;go_ret;exact ⟨by rw [HB.out];rfl,rfl⟩)
namespace Ex
def ng (z:Bool) (c:UInt8):Bool:=letter c||(!z&&Ck.digit c)
def nmG:Bool→List UInt8→Nat
 | _,[]=>0
 | z,c::r=>if ng z c then 1+nmG false r else 0
theorem WY:∀ r:List UInt8,nmG false r=(r.takeWhile fun d=>letter d||Ck.digit d).length
 | []=>rfl
 | c::r=>by
  rw [nmG,List.takeWhile_cons];show (if (letter c||(!false&&Ck.digit c)) then _ else _)=_;rw [Bool.not_false,Bool.true_and,WY r];cases (letter c||Ck.digit c) with
  | true=>simp;omega
  | false=>rfl
theorem nmL_go (s:List UInt8):nmL s=nmG true s:=by
 cases s with
 | nil=>rfl
 | cons c r =>
  rw [nmL,nmG,WY];show _=if (letter c||(!true&&Ck.digit c)) then _ else _
  rw [Bool.not_true,Bool.false_and,Bool.or_false]
theorem ng_is (z:Bool) (c:UInt8):ng z c=(decide ((97:Int)≤(c.toNat:Int)∧(c.toNat:Int)≤122∨(65:Int)≤(c.toNat:Int)∧(c.toNat:Int)≤90∨(c.toNat:Int)=95∨z=false∧(48:Int)≤(c.toNat:Int)∧(c.toNat:Int)≤57)):=by
 have h95:(c==95)=decide ((c.toNat:Int)=95):=by rw [←yO,Jz,Jx,Jj];exact Iff.rfl
 unfold ng letter;rw [Zz,Wp,ZI,h95,Jz];cases z <;> simp only [Bool.or_eq_true,Jy,Jj,Bool.not_false,Bool.not_true] <;> simp <;> omega
end Ex
theorem WZ {w:World} {R p:Nat} {s:List UInt8} {e:UInt8} (h:Rdr w R s p e) (hp:p≤s.length) (hs:s.length≤zw) {n:Nat} (H:Hid (Ex.nmL (s.drop p)=n)):Calls Tryz.prog 197 #[.pointer (some ⟨R,0,none⟩)] w fun r w'=>r=.returned (.string (bs ((s.drop p).take n)))∧Below w.heap.size w w':=by
 have c0:w.cell? ⟨R,0,none⟩=some (.string (bs s)):=h.cell 0;have c1:w.cell? ⟨R,1,none⟩=some (.int .i64 (p:Int)):=h.cell 1;have hz:=zd s;have HZ:=hY hz;have hp2:p≤(bs s).size:=by omega
 have hs2:(bs s).size≤2000000:=by unfold zw at hs;omega
 have H0:Hid (p - p+Ex.nmG (p==p) (s.drop p)=n):=by show _=_;rw [←H.out,Ex.nmL_go,Nat.sub_self,Jq];simp
 have hn:n≤s.length - p:=by have:=Ex.nm_le (s.drop p);rw [H.out,Jn] at this;exact this
 have HN:=hY hn;clear hz H h hn hs;go_enter Tryz.func197,Tryz.ntmps197;go_wp2_with fail;go_loopw [3] (fun t3 wr=>∃ i:Nat,p≤i∧i≤(bs s).size∧t3=.int .i64 (i:Int)∧Hid (i - p+Ex.nmG (i==p) (s.drop i)=n)∧w=wr) (fun t3 _=>(bs s).size - (intOf t3).toNat)
 case atStart=>exact ⟨p,by omega,hp2,rfl,H0,by trivial⟩
 case round =>
  clear H0;obtain ⟨i,hpi,hi,rfl,HR,rfl⟩:=hrel;have j0:(0:Int)≤(i:Int):=by omega
  have fin:∀ m,m=n→i=p+m→Hid ((bs s).extract p i=bs ((s.drop p).take n)):=fun m hm hi=>by subst hm;show _=_;rw [←Ym ((bs s).extract p i),Zq,hi,show p+m - p=m by omega];rfl
  rcases Jh i (bs s).size with hin | hin
  · have i0:decide ((i:Int)<((bs s).size:Int))=true:=dT (by omega);have i1:(i:Int)<((bs s).size:Int):=by omega
    have hil:i<s.length:=by rw [←HZ.out];exact hin
    have hR:=HR.out;rw [Js hil,show s[i]=(bs s)[i]'hin from rfl,Ex.nmG] at hR;obtain ⟨c,hc⟩:∃ c,(bs s)[i]'hin=c:=⟨_,rfl⟩
    rw [hc] at hR;have hby:c.toNat<256:=Jm _;obtain ⟨q,hq⟩:∃ q,Ex.ng (i==p) c=q:=⟨_,rfl⟩
    rw [hq] at hR;rw [Ex.ng_is] at hq;have HQ:=hY hq;have HN2:=hY hR;have hcases:((c.toNat:Int)=95)∨((97:Int)≤(c.toNat:Int)∧(c.toNat:Int)≤122)∨((65:Int)≤(c.toNat:Int)∧(c.toNat:Int)≤90)∨((48:Int)≤(c.toNat:Int)∧(c.toNat:Int)≤57∧i=p)∨((48:Int)≤(c.toNat:Int)∧(c.toNat:Int)≤57∧p<i)∨((c.toNat:Int)<48)∨((57:Int)<(c.toNat:Int)∧(c.toNat:Int)<65)∨((90:Int)<(c.toNat:Int)∧(c.toNat:Int)<95)∨((c.toNat:Int)=96)∨((122:Int)<(c.toNat:Int)):=by omega
    have HC:=hY hcases;clear hR HR hq hil hcases;go_upto_region 4 with fail;go_cut [55] (fun s55 wx=>s55=.bool (!q)∧w=wx)
    case first =>
     clear fin;have hq:=HQ.out;rcases HC.out with h | h | h | h | h | h | h | h | h | h
     · have t:((c.toNat:Int) != 95)=false:=by rw [h];rfl
       have HF:Hid (q=true):=by show _=_;rw [←hq,Jj];omega
       clear hq h;go_wp2_with fail;go_meet;exact ⟨by rw [HF.out];rfl,by trivial⟩
     all_goals have t:((c.toNat:Int) != 95)=true:=by rw [bne_iff_ne];omega
     · obtain ⟨h1,h2⟩:=h;have t1:decide ((c.toNat:Int)<97)=false:=dF (by omega);have t2:decide ((122:Int)<(c.toNat:Int))=false:=dF (by omega);have HF:Hid (q=true):=by show _=_;rw [←hq,Jj];omega
       clear hq;go_wp2_with fail;go_meet;exact ⟨by rw [HF.out];rfl,by trivial⟩
     · obtain ⟨h1,h2⟩:=h;have t1:decide ((c.toNat:Int)<97)=true:=dT (by omega);have t3:decide ((c.toNat:Int)<65)=false:=dF (by omega);have t4:decide ((90:Int)<(c.toNat:Int))=false:=dF (by omega);have HF:Hid (q=true):=by show _=_;rw [←hq,Jj];omega
       clear hq;go_wp2_with fail;go_meet;exact ⟨by rw [HF.out];rfl,by trivial⟩
     · obtain ⟨h1,h2,h3⟩:=h;have t1:decide ((c.toNat:Int)<97)=true:=dT (by omega);have t3:decide ((c.toNat:Int)<65)=true:=dT (by omega);have t5:decide ((c.toNat:Int)<48)=false:=dF (by omega);have t6:decide ((57:Int)<(c.toNat:Int))=false:=dF (by omega);have t7:((i:Int)==(p:Int))=true:=bT (by omega);have hz:(i==p)=true:=by rw [Jx];exact h3
       rw [hz] at hq;have HF:Hid (q=false):=by show _=_;rw [←hq,Ka];simp;omega
       clear hq h3 hz;go_wp2_with fail;go_meet;exact ⟨by rw [HF.out];rfl,by trivial⟩
     · obtain ⟨h1,h2,h3⟩:=h;have t1:decide ((c.toNat:Int)<97)=true:=dT (by omega);have t3:decide ((c.toNat:Int)<65)=true:=dT (by omega);have t5:decide ((c.toNat:Int)<48)=false:=dF (by omega);have t6:decide ((57:Int)<(c.toNat:Int))=false:=dF (by omega);have t7:((i:Int)==(p:Int))=false:=bF (by omega);have hz:(i==p)=false:=bF (by omega);rw [hz] at hq;have HF:Hid (q=true):=by show _=_;rw [←hq,Jj];simp;omega
       clear hq h3 hz;go_wp2_with fail;go_meet;exact ⟨by rw [HF.out];rfl,by trivial⟩
     · have t1:decide ((c.toNat:Int)<97)=true:=dT (by omega);have t3:decide ((c.toNat:Int)<65)=true:=dT (by omega);have t5:decide ((c.toNat:Int)<48)=true:=dT (by omega);have HF:Hid (q=false):=by show _=_;rw [←hq,Ka];omega
       clear hq;go_wp2_with fail;go_meet;exact ⟨by rw [HF.out];rfl,by trivial⟩
     · obtain ⟨h1,h2⟩:=h;have t1:decide ((c.toNat:Int)<97)=true:=dT (by omega);have t3:decide ((c.toNat:Int)<65)=true:=dT (by omega);have t5:decide ((c.toNat:Int)<48)=false:=dF (by omega);have t6:decide ((57:Int)<(c.toNat:Int))=true:=dT (by omega);have HF:Hid (q=false):=by show _=_;rw [←hq,Ka];omega
       clear hq;go_wp2_with fail;go_meet;exact ⟨by rw [HF.out];rfl,by trivial⟩
     · obtain ⟨h1,h2⟩:=h;have t1:decide ((c.toNat:Int)<97)=true:=dT (by omega);have t3:decide ((c.toNat:Int)<65)=false:=dF (by omega);have t4:decide ((90:Int)<(c.toNat:Int))=true:=dT (by omega);have t5:decide ((c.toNat:Int)<48)=false:=dF (by omega);have t6:decide ((57:Int)<(c.toNat:Int))=true:=dT (by omega);have HF:Hid (q=false):=by show _=_;rw [←hq,Ka];omega
       clear hq;go_wp2_with fail;go_meet;exact ⟨by rw [HF.out];rfl,by trivial⟩
     · have t1:decide ((c.toNat:Int)<97)=true:=dT (by omega);have t3:decide ((c.toNat:Int)<65)=false:=dF (by omega);have t4:decide ((90:Int)<(c.toNat:Int))=true:=dT (by omega);have t5:decide ((c.toNat:Int)<48)=false:=dF (by omega);have t6:decide ((57:Int)<(c.toNat:Int))=true:=dT (by omega);have HF:Hid (q=false):=by show _=_;rw [←hq,Ka];omega
       clear hq h;go_wp2_with fail;go_meet;exact ⟨by rw [HF.out];rfl,by trivial⟩
     · have t1:decide ((c.toNat:Int)<97)=false:=dF (by omega);have t2:decide ((122:Int)<(c.toNat:Int))=true:=dT (by omega);have t3:decide ((c.toNat:Int)<65)=false:=dF (by omega);have t4:decide ((90:Int)<(c.toNat:Int))=true:=dT (by omega);have t5:decide ((c.toNat:Int)<48)=false:=dF (by omega);have t6:decide ((57:Int)<(c.toNat:Int))=true:=dT (by omega);have HF:Hid (q=false):=by show _=_;rw [←hq,Ka];omega
       clear hq;go_wp2_with fail;go_meet;exact ⟨by rw [HF.out];rfl,by trivial⟩
    case rest =>
     obtain ⟨rfl,rfl⟩:=hcut;clear HC HQ;cases q with
     | true =>
      have HF:Hid (i+1 - p+Ex.nmG (i+1==p) (s.drop (i+1))=n):=by show _=_;have:(i+1==p)=false:=bF (by omega);rw [this,←HN2.out,if_pos rfl];omega
      clear HN2 fin;go_wp2_with fail;go_roundw
      case rel=>exact ⟨i+1,by omega,by omega,by go_num,HF,by trivial⟩
      case measure=>simp [intOf];omega
     | false =>
      have HF:=fin (i - p) (by have h:=HN2.out;rw [if_neg (by simp)] at h;omega) (by omega);have hpi2:(p:Int)≤(i:Int):=by omega
      clear HN2 fin;go_wp2_with fail;go_quiet (fail);go_wp2_with fail;go_ret;exact ⟨by rw [HF.out];rfl,zj (Ja _ _) _⟩
  · have i0:decide ((i:Int)<((bs s).size:Int))=false:=dF (by omega);have hil:s.length≤i:=by rw [←HZ.out];exact hin
    have HF:=fin (i - p) (by have:=HR.out;rw [Jt hil,Ex.nmG] at this;omega) (by omega);have hpi2:(p:Int)≤(i:Int):=by omega
    clear HR hil fin;go_wp2_with fail;go_quiet (fail);go_wp2_with fail;go_ret;exact ⟨by rw [HF.out];rfl,zj (Ja _ _) _⟩
theorem pieceK:yP Tryz.prog 188 215 .nilIface 1 16:=⟨Tryz.underlying188,by kernel_rfl,rfl,by decide⟩
theorem YS (w:World) (a:Addr) (v:Value):w.grownBy (w.setCell a v) (some a.block):=⟨rfl,rfl,rfl,by simp [World.setCell],fun k _ hk=>by have:a.block≠k:=fun e=>hk (by rw [e]);simp [World.setCell,Array.getElem?_modify,this]⟩
theorem Fx.set_ (w:World) (a:Addr) (v:Value):Fx (fun b=>b=a.block) w (w.setCell a v):=(Fx.of_grown (YS w a v)).mono fun b _ h=>by injection h with h;exact h.symm
structure RS (w:World) (R h:Nat) (s:List UInt8) (e:UInt8) (p q:Nat) (v:Value) (xs:List Value) (ts:List Ex.Tk):Prop where
 rd:Rdr w R s p e
 box:Blk w h 185 #[.pointer (some ⟨R,0,none⟩)]
 lb:Blk w (h+1) 188 #[v]
 fb:Blk w (h+2) 3 #[.int .i64 (q:Int)]
 own:w.ownsRow (h+3) 215 1 v xs.length xs
 pl:PL w (fun b=>b<h+3∨v.ownBlock=some b) ts xs
 lt:R<h
section
variable {w w':World} {R h:Nat} {s:List UInt8} {e:UInt8} {p q:Nat} {v:Value} {xs:List Value} {ts:List Ex.Tk}
theorem RS.size (H:RS w R h s e p q v xs ts):h+3≤w.heap.size:=H.fb.lt
theorem RS.fx {S:Nat→Prop} (H:RS w R h s e p q v xs ts) (k:Fx S w w') (hS:∀ b,b<w.heap.size→¬ S b):RS w' R h s e p q v xs ts:=
 ⟨k.blk H.rd (hS _ (Blk.lt H.rd)),k.blk H.box (hS _ H.box.lt),k.blk H.lb (hS _ H.lb.lt),k.blk H.fb (hS _ H.fb.lt),k.own H.own (fun g hg=>hS g (H.own.lt g hg).2),H.pl.fx k (fun b hb h=>h.elim (fun h=>absurd h (hS b hb)) id),H.lt⟩
theorem RS.drewN (H:RS w R h s e p q v xs ts) (n:Nat):RS (w.drewN n) R h s e p q v xs ts:=H.fx (S:=fun _=>False) (Fx.new (zj (Ja _ _) n)) (fun _ _ h=>h)
theorem RS.new (H:RS w R h s e p q v xs ts) (k:Below w.heap.size w w'):RS w' R h s e p q v xs ts:=H.fx (S:=fun _=>False) (Fx.new k) (fun _ _ h=>h)
theorem RS.move {S:Nat→Prop} (H:RS w R h s e p q v xs ts) (k:Fx S w w') (hS:∀ b,b<w.heap.size→S b→b=R) {p':Nat} (hr:Rdr w' R s p' e):RS w' R h s e p' q v xs ts:=by
 have hlt:=H.lt;have ne:∀ b,b<w.heap.size→h≤b→¬ S b:=fun b hb hh hs=>by have:=hS b hb hs;omega
 exact ⟨hr,k.blk H.box (ne _ H.box.lt (by omega)),k.blk H.lb (ne _ H.lb.lt (by omega)),k.blk H.fb (ne _ H.fb.lt (by omega)),k.own H.own (fun g hg=>ne g (H.own.lt g hg).2 (by have:=(H.own.lt g hg).1;omega)),H.pl.fx k (fun b hb h=>h.elim (fun h=>.inl (by have:=hS b hb h;omega)) id),hlt⟩
theorem RS.at_ (H:RS w R h s e p q v xs ts) (p':Nat):RS (w.setCell ⟨R,1,none⟩ (.int .i64 (p':Int))) R h s e p' q v xs ts:=
 H.move (Fx.set_ w ⟨R,1,none⟩ _) (fun _ _ h=>h) (by have:=H.rd.set_ 1 (.int .i64 (p':Int));unfold Rdr;simpa using this)
theorem RS.from_ (H:RS w R h s e p q v xs ts) (q':Nat):RS (w.setCell ⟨h+2,0,none⟩ (.int .i64 (q':Int))) R h s e p q' v xs ts:=by have k:=Fx.set_ w ⟨h+2,0,none⟩ (.int .i64 (q':Int));have hlt:=H.lt;refine ⟨k.blk H.rd (by show ¬ R=h+2;omega),k.blk H.box (by show ¬ h=h+2;omega),k.blk H.lb (by show ¬ h+1=h+2;omega),?_,k.own H.own (fun g hg=>by have:=(H.own.lt g hg).1;show ¬ g=h+2;omega),H.pl.fx k (fun b hb hh=>hh.elim (fun hh=>.inl (by have h2:b=h+2:=hh;omega)) id),hlt⟩;have:=H.fb.set_ 0 (.int .i64 (q':Int));simpa using this
theorem RS.push {v':Value} {ys:List Value} {us:List Ex.Tk} (H:RS w R h s e p q v xs ts) (k:w.grownBy w' v.ownBlock) (hown:w'.ownsRow (h+3) 215 1 v' (xs++ys).length (xs++ys)) (hv:v'.ownBlock=v.ownBlock∨∃ g,w.heap.size≤g∧v'.ownBlock=some g)
  (hu:PL w (fun b=>b<h+3∨v.ownBlock=some b) us ys):RS (w'.setCell ⟨h+1,0,none⟩ v') R h s e p q v' (xs++ys) (ts++us):=by
 have k1:=Fx.of_grown k;have k2:=Fx.set_ w' ⟨h+1,0,none⟩ v';have hlt:=H.lt;have hsz:=H.size;have ne:∀ b,b<h+3→¬ v.ownBlock=some b:=fun b hb hs=>by have:=(H.own.lt b hs).1;omega
 have hX:∀ b,b<w.heap.size→(v.ownBlock=some b)∨(b<h+3∨v'.ownBlock=some b)→b<h+3∨v.ownBlock=some b:=fun b hb hh=>by
  rcases hh with hh | hh | hh
  · exact .inr hh
  · exact .inl hh
  · rcases hv with e | ⟨g,hg,e⟩
    · exact .inr (e ▸ hh)
    · rw [e] at hh;injection hh with hh;omega
 have hp1:PL w' (fun b=>b<h+3∨v'.ownBlock=some b) (ts++us) (xs++ys):=(H.pl.append hu).fx k1 hX;refine ⟨k2.blk (k1.blk H.rd (ne _ (by omega))) (by show ¬ R=h+1;omega),k2.blk (k1.blk H.box (ne _ (by omega))) (by show ¬ h=h+1;omega),?_,k2.blk (k1.blk H.fb (ne _ (by omega))) (by show ¬ h+2=h+1;omega),k2.own hown (fun g hg=>by have:=(hown.lt g hg).1;show ¬ g=h+1;omega),hp1.fx k2 (fun b hb hh=>hh.elim (fun hh=>.inl (by have h2:b=h+1:=hh;omega)) id),hlt⟩;have:=(k1.blk H.lb (ne _ (by omega))).set_ 0 v';simpa using this
end
def zC (s:List UInt8) (q p:Nat):List UInt8:=(s.drop q).take (p - q)
theorem jx {w:World} {R h:Nat} {s:List UInt8} {e:UInt8} {p q:Nat} {v:Value} {xs:List Value} {ts:List Ex.Tk} (H:RS w R h s e p q v xs ts) (hpq:p≤q):
  Calls Tryz.prog 189 #[.pointer (some ⟨h,0,none⟩),.pointer (some ⟨h+2,0,none⟩),.pointer (some ⟨h+1,0,none⟩)] w fun r w'=>r=.returned (.tuple #[])∧∃ n,w'=w.drewN n:=by
 have b0:w.cell? ⟨h,0,none⟩=some (.pointer (some ⟨R,0,none⟩)):=H.box.cell 0;have b1:w.cell? ⟨R,1,none⟩=some (.int .i64 (p:Int)):=Blk.cell H.rd 1;have b2:w.cell? ⟨h+2,0,none⟩=some (.int .i64 (q:Int)):=H.fb.cell 0;have t0:decide ((q:Int)<(p:Int))=false:=dF (by omega);have t1:decide (q<p)=false:=dF (by omega);clear H hpq;go_enter Tryz.func189,Tryz.ntmps189;go_wp2_with fail;go_quiet (fail);go_wp2_with fail;go_end0;exact ⟨rfl,_,rfl⟩
def VT (R:Nat) (s:List UInt8) (p q:Nat) (A:Option Addr) (n c N:Nat):Nat→Value→World→Prop
 | 0,u,_=>u=.slice A n c
 | 1,u,_=>u=.pointer (some ⟨R,0,none⟩)
 | 2,u,_=>u=.pointer (some ⟨R,0,none⟩)
 | 3,u,_=>u=.pointer (some ⟨R,0,none⟩)
 | 4,u,_=>u=.string (bs s)
 | 5,u,_=>u=.int .i64 (q:Int)
 | 6,u,_=>u=.pointer (some ⟨R,0,none⟩)
 | 7,u,_=>u=.pointer (some ⟨R,0,none⟩)
 | 8,u,_=>u=.pointer (some ⟨R,1,none⟩)
 | 9,u,_=>u=.int .i64 (p:Int)
 | 10,u,_=>u=.string (bs (zC s q p))
 | 11,u,_=>u=yR (zC s q p)
 | 12,u,w=>∃ g,u=.slice (some ⟨g,0,none⟩) 1 1∧N≤g∧Blk w g 215 #[yR (zC s q p)]
 | _,_,_=>True
theorem VT.keep {R:Nat} {s:List UInt8} {p q:Nat} {A:Option Addr} {n c N:Nat} {w:World} (o:Obj) (j:Nat) (u:Value) (H:VT R s p q A n c N j u w):VT R s p q A n c N j u (w.alloc o):=by
 unfold VT at H ⊢
 split at H <;> first | exact H | (obtain ⟨g,e,hg,hb⟩:=H;exact ⟨g,e,hg,hb.alloc o⟩) | trivial
theorem Qw {w:World} {R h:Nat} {s:List UInt8} {e:UInt8} {p q:Nat} {v:Value} {xs0:List Value} {ts:List Ex.Tk} (H:RS w R h s e p q v xs0 ts) (hpq:q<p) (hp:p≤s.length) (hs:s.length≤zw) (hx:xs0.length≤zw):
  Calls Tryz.prog 189 #[.pointer (some ⟨h,0,none⟩),.pointer (some ⟨h+2,0,none⟩),.pointer (some ⟨h+1,0,none⟩)] w fun r w'=>r=.returned (.tuple #[])∧∃ v',RS w' R h s e p q v' (xs0++[yR (zC s q p)]) (ts++(zC s q p).map .b)∧Below (h+1) w w':=by
 have b0:w.cell? ⟨h,0,none⟩=some (.pointer (some ⟨R,0,none⟩)):=H.box.cell 0;have b1:w.cell? ⟨R,1,none⟩=some (.int .i64 (p:Int)):=Blk.cell H.rd 1;have b2:w.cell? ⟨h+2,0,none⟩=some (.int .i64 (q:Int)):=H.fb.cell 0;have t0:decide ((q:Int)<(p:Int))=true:=dT (by omega);have t1:decide (q<p)=true:=dT (by omega);have SL:=hY (QG s q p (by omega) hp);have HS:=hY H;clear H;go_enter Tryz.func189,Tryz.ntmps189;go_wp2_with fail;go_quiet (fail);go_wp2_with fail;have H1:=HS.out.drewN nq;have hB1:=zj (Ja (h+1) w) nq;obtain ⟨w1,hw1⟩:∃ w1,w.drewN nq=w1:=⟨_,rfl⟩
 rw [hw1] at H1 hB1;rw [hw1];clear b0 b1 b2 hw1 HS;obtain ⟨A,c,rfl⟩:=zc H1.own;have hx2:xs0.length≤2000000:=hx;have HS:=hY H1;have HV0:Hid (PL w1 (fun b=>b<h+3∨(Value.slice A xs0.length c).ownBlock=some b) ((zC s q p).map .b) [yR (zC s q p)]):=hY (PL.one (PV.lit 0 (by unfold zC;rw [Kt,Jn];omega)));clear H1 hx;refine' zk 13 (fun wx=>Below w1.heap.size w1 wx) (VT R s p q A xs0.length c w1.heap.size) ?F ?hF (by kernel_rfl) (by kernel_rfl) (by kernel_rfl) (by decide) (by kernel_rfl) (by kernel_rfl) (by kernel_rfl) (Ja _ _).drew ?hsteps ?hT
 case hF =>intro xs;refine (zz _ _ _).trans ?_;simp only [zR,Act.put,List.setIfInBounds_toArray,List.set_cons_zero,List.set_cons_succ,Nat.reduceAdd,Jq];exact rfl
 case hsteps =>
  simp only [List.take_succ_cons,List.take_zero];refine Steps.c (n:=[]) (k:=1) (fun xs wx hS hV K hK=>?_) ?_
  · clear hV;have HX:=HS.out.new hS;have c:=(show wx.cell? ⟨h+1,0,none⟩=some (.slice A xs0.length c) from HX.lb.cell 0)
    go_simp;exact hK.out _ _ hS rfl (fun _ _ h=>h)
  refine Steps.c (n:=[]) (k:=2) (fun xs wx hS hV K hK=>?_) ?_
  · clear hV;have HX:=HS.out.new hS;have c:=(show wx.cell? ⟨h,0,none⟩=some (.pointer (some ⟨R,0,none⟩)) from HX.box.cell 0)
    go_simp;exact hK.out _ _ hS rfl (fun _ _ h=>h)
  refine Steps.c (n:=[1]) (k:=3) (fun xs wx hS hV K hK=>?_) ?_
  · obtain ⟨d1,-⟩:=hV;replace d1:xs 1=.pointer (some ⟨R,0,none⟩):=d1;rw [d1] at hK ⊢;go_simp;exact hK.out _ _ hS rfl (fun _ _ h=>h)
  refine Steps.c (n:=[2]) (k:=4) (fun xs wx hS hV K hK=>?_) ?_
  · obtain ⟨d2,-⟩:=hV;replace d2:xs 2=.pointer (some ⟨R,0,none⟩):=d2;rw [d2] at hK ⊢;go_simp;exact hK.out _ _ hS rfl (fun _ _ h=>h)
  refine Steps.c (n:=[3]) (k:=5) (fun xs wx hS hV K hK=>?_) ?_
  · obtain ⟨d3,-⟩:=hV;replace d3:xs 3=.pointer (some ⟨R,0,none⟩):=d3;rw [d3] at hK ⊢;have HX:=HS.out.new hS;have c:=(show wx.cell? ⟨R,0,none⟩=some (.string (bs s)) from Blk.cell HX.rd 0)
    go_simp;exact hK.out _ _ hS rfl (fun _ _ h=>h)
  refine Steps.c (n:=[]) (k:=6) (fun xs wx hS hV K hK=>?_) ?_
  · clear hV;have HX:=HS.out.new hS;have c:=(show wx.cell? ⟨h+2,0,none⟩=some (.int .i64 (q:Int)) from HX.fb.cell 0)
    go_simp;exact hK.out _ _ hS rfl (fun _ _ h=>h)
  refine Steps.c (n:=[]) (k:=7) (fun xs wx hS hV K hK=>?_) ?_
  · clear hV;have HX:=HS.out.new hS;have c:=(show wx.cell? ⟨h,0,none⟩=some (.pointer (some ⟨R,0,none⟩)) from HX.box.cell 0)
    go_simp;exact hK.out _ _ hS rfl (fun _ _ h=>h)
  refine Steps.c (n:=[6]) (k:=8) (fun xs wx hS hV K hK=>?_) ?_
  · obtain ⟨d6,-⟩:=hV;replace d6:xs 6=.pointer (some ⟨R,0,none⟩):=d6;rw [d6] at hK ⊢;go_simp;exact hK.out _ _ hS rfl (fun _ _ h=>h)
  refine Steps.c (n:=[7]) (k:=9) (fun xs wx hS hV K hK=>?_) ?_
  · obtain ⟨d7,-⟩:=hV;replace d7:xs 7=.pointer (some ⟨R,0,none⟩):=d7;rw [d7] at hK ⊢;go_simp;exact hK.out _ _ hS rfl (fun _ _ h=>h)
  refine Steps.c (n:=[8]) (k:=10) (fun xs wx hS hV K hK=>?_) ?_
  · obtain ⟨d8,-⟩:=hV;replace d8:xs 8=.pointer (some ⟨R,1,none⟩):=d8;rw [d8] at hK ⊢;have HX:=HS.out.new hS;have c:=(show wx.cell? ⟨R,1,none⟩=some (.int .i64 (p:Int)) from Blk.cell HX.rd 1)
    go_simp;exact hK.out _ _ hS rfl (fun _ _ h=>h)
  refine Steps.c (n:=[4,5,9]) (k:=11) (fun xs wx hS hV K hK=>?_) ?_
  · obtain ⟨d4,d5,d9,-⟩:=hV;replace d4:xs 4=.string (bs s):=d4;replace d5:xs 5=.int .i64 (q:Int):=d5;replace d9:xs 9=.int .i64 (p:Int):=d9;rw [d4,d5,d9] at hK ⊢;have HX:=HS.out.new hS;have c:=SL.out;go_simp;exact hK.out _ _ hS rfl (fun _ _ h=>h)
  refine Steps.c (n:=[10]) (k:=12) (fun xs wx hS hV K hK=>?_) ?_
  · obtain ⟨d10,-⟩:=hV;replace d10:xs 10=.string (bs (zC s q p)):=d10;rw [d10] at hK ⊢;go_simp;exact hK.out _ _ hS rfl (fun _ _ h=>h)
  refine Steps.c (n:=[11]) (k:=13) (fun xs wx hS hV K hK=>?_) ?_
  · obtain ⟨d11,-⟩:=hV;replace d11:xs 11=yR (zC s q p):=d11;rw [d11] at hK ⊢;go_simp;exact hK.out _ _ (hS.alloc hS.size _) ⟨_,rfl,hS.size,Blk.new _ _ _⟩ (VT.keep _)
  exact Steps.nil
 case hT =>
  intro xs w2 hS hV;have d0:xs 0=.slice A xs0.length c:=hV 0 (by decide);obtain ⟨g,d12,hg,hb⟩:∃ g,xs 12=.slice (some ⟨g,0,none⟩) 1 1∧w1.heap.size≤g∧Blk w2 g 215 #[yR (zC s q p)]:=hV 12 (by decide);simp only [List.drop_succ_cons,Jw];rw [d0,d12];have H2:=HS.out.new hS;have hown:=H2.own;have hsz:=H2.size;have HB:=hY hb;have H2H:=hY H2;have hnews:Hid (∀ j u,[yR (zC s q p)][j]?=some u→w2.cell? ((⟨g,0,none⟩:Addr).add j)=some u):=hY fun j u hu=>by have:=HB.out.cell j;rw [Addr.add_lit,Jq,this];simpa using hu
  have hne:∀ g,(Value.slice A xs0.length c).ownBlock=some g→h+3≤g:=fun g hg=>(hown.lt g hg).1;have HNE:=hY hne;have HBS:=hY hS;clear hV d0 d12 hb H2 hne hS;go_wp2_with (refine zg rfl _ _ _ rfl pieceK (h+3) _ _ _ rfl hown _ 1 1 [yR (zC s q p)] rfl rfl hnews.out (by simp [yR,Value.oneCell']) (by omega) (by omega) (Ja (h+3) w2) hsz ?_;intro v1 w8 ho1 hb1 hg1 hat1;obtain ⟨B1,q1,rfl⟩:=zc ho1;have hbx1:=hg1.block (h+1) (by omega) (fun e=>by have:=HNE.out _ e.symm;omega);have hbx2:Blk w8 (h+1) 188 #[.slice A xs0.length c]:=hbx1.trans H2H.out.lb;have k0:w8.cell? ⟨h+1,0,none⟩=some (.slice A xs0.length c):=hbx2.cell 0;have f0:=hbx2.frozen 0;clear hbx1);have hP:=H2H.out.push hg1 (by rw [Jf];exact ho1) (hat1.imp id fun e=>⟨_,Jd _,e⟩) (HV0.out.fx (S:=fun _=>False) (Fx.new HBS.out) (fun b _ h=>h.elim False.elim id));have hB8:=(hB1.trans ((HBS.out.mono (by have:=HS.out.size;omega)).trans (hb1.mono (by omega)))).setCell (p:=⟨h+1,0,none⟩) (Jd _) (.slice B1 (xs0.length+1) q1);go_end0;exact ⟨rfl,_,hP,hB8⟩
theorem Zv {w:World} {R h:Nat} {s:List UInt8} {e:UInt8} {p q:Nat} {v:Value} {xs0:List Value} {ts:List Ex.Tk} (H:RS w R h s e p q v xs0 ts) (hpq:q≤p) (hp:p≤s.length) (hs:s.length≤zw) (hx:xs0.length≤zw):
  Calls Tryz.prog 189 #[.pointer (some ⟨h,0,none⟩),.pointer (some ⟨h+2,0,none⟩),.pointer (some ⟨h+1,0,none⟩)] w fun r w'=>r=.returned (.tuple #[])∧∃ v' xs',RS w' R h s e p q v' xs' (ts++(zC s q p).map .b)∧xs'.length+q≤xs0.length+p∧Below (h+1) w w':=by
 rcases Jh q p with hlt | hge
 · refine (Qw H hlt hp hs hx).mono ?_;rintro r w' ⟨hr,v',h1,h2⟩;exact ⟨hr,v',_,h1,by simp only [Jf,Ji,Jp];omega,h2⟩
 · refine (jx H hge).mono ?_;rintro r w' ⟨hr,n,rfl⟩;have e0:zC s q p=[]:=by unfold zC;rw [show p - q=0 by omega,List.take_zero]
   rw [e0,List.map_nil,Kw];exact ⟨hr,v,xs0,H.drewN n,by omega,zj (Ja _ _) n⟩
end Go.Proofs.YtdaejggcjjdhkaaGreatDoor
