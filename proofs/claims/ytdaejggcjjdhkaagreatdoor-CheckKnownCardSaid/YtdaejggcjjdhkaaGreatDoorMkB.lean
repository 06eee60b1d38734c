/- Check and expand, plain: the specs and the plain laws. -/
import Derived.Test.YtdaejggcjjdhkaaGreatDoorMkA
namespace Go.Proofs.YtdaejggcjjdhkaaGreatDoor
open Go Go.RowKit
namespace Ck
def small (c:UInt8):Bool:=decide (97≤c.toNat)&&decide (c.toNat≤122)
def big (c:UInt8):Bool:=decide (65≤c.toNat)&&decide (c.toNat≤90)
def digit (c:UInt8):Bool:=decide (48≤c.toNat)&&decide (c.toNat≤57)
def ofL (s others:List UInt8) (caps:Bool):Bool:=s.all (fun c=>small c||digit c||caps&&big c||others.contains c)&&!s.isEmpty
def tagP (t:List UInt8):Bool:=ofL t [95,46,45] true&&t.head? != some 46&&t.head? != some 45
def pieceP (p:List UInt8):Bool:=ofL p [46,95,45] false&&decide (Lib.trimS p [46,95,45]=p)
def latest:List UInt8:=[108,97,116,101,115,116]
def scratch:List UInt8:=[115,99,114,97,116,99,104]
def tagR (t:List UInt8):Bool:=match t with
 | []=>false
 | c::r=>(small c||big c||digit c||c==95)&&r.all (fun c=>small c||big c||digit c||c==95||c==46||c==45)
def edge (c:UInt8):Bool:=small c||digit c
def pieceR (p:List UInt8):Bool:=p.all (fun c=>edge c||c==46||c==95||c==45)&&p.head?.any edge&&p.getLast?.any edge
def refR (s:List UInt8):Bool:=decide (s.length≤96)&&match Gl.cutL 58 s with
 | [a]=>decide (a≠scratch)&&decide (s.length+7≤96)&&(Gl.cutL 47 a).all pieceR
 | [a,t]=>tagR t&&decide (a≠scratch)&&(Gl.cutL 47 a).all pieceR
 | _=>false
theorem Qy (t:List UInt8):tagP t=tagR t:=by
 cases t with
 | nil=>rfl
 | cons c r =>
  have e:∀ d:UInt8,(small d||digit d||true&&big d||([95,46,45]:List UInt8).contains d)=(small d||big d||digit d||d==95||d==46||d==45):=fun d=>by simp only [List.contains_cons,List.contains_nil,Bool.or_false,Bool.true_and];cases small d <;> cases digit d <;> cases big d <;> cases (d==95) <;> cases (d==46) <;> cases (d==45) <;> rfl
  have h1:(some c != some (46:UInt8))=!(c==46):=by cases h:c==46 <;> simp_all [bne]
  have h2:(some c != some (45:UInt8))=!(c==45):=by cases h:c==45 <;> simp_all [bne]
  have d46:c==46→(small c||big c||digit c||c==95)=false:=fun h=>by rw [Jx] at h;subst h;decide
  have d45:c==45→(small c||big c||digit c||c==95)=false:=fun h=>by rw [Jx] at h;subst h;decide
  show (((c::r).all _&&!(c::r).isEmpty)&&(c::r).head? != some 46&&(c::r).head? != some 45)=_;simp only [List.all_cons,List.isEmpty_cons,List.head?_cons,h1,h2,e,tagR,Bool.not_false,Bool.and_true];generalize r.all (fun c=>small c||big c||digit c||c==95||c==46||c==45)=R;cases h46:(c==46) with
  | true=>rw [d46 h46];simp
  | false =>
   cases h45:(c==45) with
   | true=>rw [d45 h45];simp
   | false=>simp
theorem jw (p:List UInt8) (cs:List UInt8):Lib.trimS p cs=p↔(∀ c,p.head?=some c→cs.contains c=false)∧(∀ c,p.getLast?=some c→cs.contains c=false):=by
 have hd:∀ l:List UInt8,l.dropWhile (cs.contains ·)=l↔∀ c,l.head?=some c→cs.contains c=false:=fun l=>by
  cases l with
  | nil=>simp
  | cons c r =>
   rw [List.dropWhile_cons];cases h:cs.contains c with
   | true =>
    simp only [h,if_true,List.head?_cons,Option.some.injEq,forall_eq'];constructor
    · intro e;have:=congrArg List.length e;have:=(List.dropWhile_sublist (l:=r) (cs.contains ·)).length_le;simp at *;omega
    · intro e;cases e
   | false =>simp only [h,List.head?_cons,Option.some.injEq,forall_eq'];simp
 have hr:Lib.trimRightS p cs=p↔∀ c,p.getLast?=some c→cs.contains c=false:=by unfold Lib.trimRightS;rw [List.reverse_eq_iff,hd,List.head?_reverse]
 have l1:(Lib.trimRightS p cs).length≤p.length:=by
  unfold Lib.trimRightS;rw [List.length_reverse];have:=(List.dropWhile_sublist (l:=p.reverse) (cs.contains ·)).length_le
  rwa [List.length_reverse] at this
 have l2:(Lib.trimS p cs).length≤(Lib.trimRightS p cs).length:=(List.dropWhile_sublist (cs.contains ·)).length_le;constructor
 · intro h;have hl:(Lib.trimRightS p cs).length=p.length:=by rw [h] at l2;omega
   have h1:Lib.trimRightS p cs=p:=by unfold Lib.trimRightS at hl ⊢;rw [List.reverse_eq_iff];rw [List.length_reverse] at hl;exact (List.dropWhile_sublist (cs.contains ·)).eq_of_length (by rw [List.length_reverse];exact hl)
   refine ⟨(hd p).1 ?_,hr.1 h1⟩;have h2:=h;unfold Lib.trimS Lib.trimLeftS at h2
   rwa [h1] at h2
 · rintro ⟨h1,h2⟩;unfold Lib.trimS Lib.trimLeftS;rw [hr.2 h2];exact (hd p).2 h1
theorem YV (p:List UInt8):pieceP p=pieceR p:=by
 have e:(fun c:UInt8=>small c||digit c||false&&big c||([46,95,45]:List UInt8).contains c)=fun c=>edge c||c==46||c==95||c==45:=by
  funext d
  simp only [List.contains_cons,List.contains_nil,Bool.or_false,Bool.false_and,edge];cases small d <;> cases digit d <;> cases (d==95) <;> cases (d==46) <;> cases (d==45) <;> rfl
 have ed:∀ d:UInt8,(edge d||d==46||d==95||d==45)=true→(edge d=true↔([46,95,45]:List UInt8).contains d=false):=fun d h=>by
  have q1:d==46→edge d=false:=fun h=>by rw [Jx] at h;subst h;decide
  have q2:d==95→edge d=false:=fun h=>by rw [Jx] at h;subst h;decide
  have q3:d==45→edge d=false:=fun h=>by rw [Jx] at h;subst h;decide
  simp only [List.contains_cons,List.contains_nil,Bool.or_false];cases h1:(d==46) <;> cases h2:(d==95) <;> cases h3:(d==45) <;> simp_all
 unfold pieceP pieceR ofL;rw [e];cases ha:p.all (fun c=>edge c||c==46||c==95||c==45) with
 | false=>simp
 | true =>
  rw [List.all_eq_true] at ha;cases p with
  | nil=>rfl
  | cons c r =>have hl:(c::r).getLast?=some ((c::r).getLast (by simp)):=List.getLast?_eq_some_getLast (by simp);have m1:=ed c (ha c (by simp));have m2:=ed _ (ha ((c::r).getLast (by simp)) (List.getLast_mem _));rw [hl];rw [Jz];simp only [List.isEmpty_cons,Bool.not_false,Bool.true_and,Jj,jw,List.head?_cons,Option.any_some,Jy,hl,Option.some.injEq,forall_eq'];rw [←m1,←m2]
theorem jV (k:UInt8) (r:List UInt8) (h:∃ c∈r,c=k):∃ a b l,Gl.cutL k r=a::b::l:=by
 obtain ⟨c,hc,rfl⟩:=h
 induction r with
 | nil=>cases hc
 | cons d r ih =>
  rw [Gl.cutL]
  split
  · rw [Gl.cutL_ne c r];exact ⟨_,_,_,rfl⟩
  · rename_i hd;rcases Kn.1 hc with h | h
    · exact absurd h.symm hd
    · obtain ⟨a,b,l,e⟩:=ih h;rw [e];exact ⟨_,b,l,rfl⟩
theorem Yg (a r:List UInt8) (ha:∀ c∈a,c≠58):refR (a++58::r)=(decide ((a++58::r).length≤96)&&decide (a≠scratch)&&tagP r&&(Gl.cutL 47 a).all pieceP):=by
 have e:(Gl.cutL 47 a).all pieceP=(Gl.cutL 47 a).all pieceR:=by congr 1;funext p;exact YV p
 rw [e,Qy];unfold refR;rw [Gl.cutL_cut 58 a r ha]
 by_cases h:∃ c∈r,c=58
 · obtain ⟨x,y,l,hx⟩:=jV 58 r h;have ht:tagR r=false:=by
    obtain ⟨c,hc,rfl⟩:=h;cases r with
    | nil=>cases hc
    | cons d r =>
     rcases Kn.1 hc with h | h
     · rw [←h];simp [tagR,small,big,digit]
     · have:r.all (fun c=>small c||big c||digit c||c==95||c==46||c==45)=false:=by rw [List.all_eq_false];exact ⟨58,h,by decide⟩
       simp only [tagR,this,Bool.and_false]
   rw [hx,ht];simp
 · have hr:∀ c∈r,c≠58:=fun c hc e=>h ⟨c,hc,e⟩;rw [Gl.cutL_no 58 r hr];show (decide ((a++58::r).length≤96)&&(tagR r&&decide (a≠scratch)&&(Gl.cutL 47 a).all pieceR))=_;rw [Bool.and_comm (tagR r),Bool.and_assoc,Bool.and_assoc,Bool.and_assoc]
theorem VC (s:List UInt8) (hs:∀ c∈s,c≠58):refR s=(decide (s.length+7≤96)&&decide (s≠scratch)&&(Gl.cutL 47 s).all pieceP):=by
 have e:(Gl.cutL 47 s).all pieceP=(Gl.cutL 47 s).all pieceR:=by congr 1;funext p;exact YV p
 rw [e];unfold refR;rw [Gl.cutL_no 58 s hs];show (decide (s.length≤96)&&(decide (s≠scratch)&&decide (s.length+7≤96)&&(Gl.cutL 47 s).all pieceR))=_
 by_cases h:s.length+7≤96
 · have h2:s.length≤96:=by omega
   simp [h,h2]
 · simp [h]
theorem YM:tagP latest=true:=by decide
end Ck
namespace Ex
inductive Kd
 | plain
 | braces
 | quoted
 | document
inductive Tk
 | b (c:UInt8)
 | v (n:List UInt8) (op:UInt8) (l:List Tk)
abbrev R:=Nat ⊕ (List Tk × List UInt8)
def letter (c:UInt8):Bool:=Ck.small c||Ck.big c||c==95
def nmL:List UInt8→Nat
 | []=>0
 | c::r=>if letter c then 1+(r.takeWhile fun d=>letter d||Ck.digit d).length else 0
theorem nm_le:∀ s:List UInt8,nmL s≤s.length
 | []=>Jd _
 | c::r=>by
  have:=(List.takeWhile_sublist (l:=r) fun d=>letter d||Ck.digit d).length_le;rw [nmL,Ji]
  split <;> omega
def escs (k:Kd) (e d:UInt8):Bool:=match k with
 | .quoted=>d==34||d==36||d==e
 | .document=>d==36||d==e
 | _=>true
def stops (k:Kd) (c:UInt8):Bool:=match k with
 | .quoted=>c==34
 | .braces=>c==125
 | _=>false
def quotes:Kd→Bool
 | .plain=>true
 | .braces=>true
 | _=>false
def endR:Kd→R
 | .quoted=>.inl 18
 | .braces=>.inl 4
 | _=>.inr ([],[])
def adds (t:List Tk):R→R
 | .inl z=>.inl z
 | .inr (l,r)=>.inr (t++l,r)
inductive Vs
 | bad
 | flat (t:List Tk) (r:List UInt8)
 | deep (n:List UInt8) (op:UInt8) (r:List UInt8)
def braceL (r:List UInt8):Vs:=
 if nmL r=0 then .bad else match r.drop (nmL r) with
 | 125::r'=>.flat [.v (r.take (nmL r)) 0 []] r'
 | 58::45::r'=>.deep (r.take (nmL r)) 45 r'
 | 58::43::r'=>.deep (r.take (nmL r)) 43 r'
 | _=>.bad
def yQ (r:List UInt8):Vs:=
 if 0<nmL r then .flat [.v (r.take (nmL r)) 0 []] (r.drop (nmL r)) else match r with
 | 123::r'=>braceL r'
 | _=>.flat [.b 36] r
def step (e:UInt8) (go:Kd→List UInt8→R) (k:Kd) (c:UInt8) (r:List UInt8):R:=
 if c=e then (match r with
  | []=>adds [.b c] (go k [])
  | d::r'=>if escs k e d then adds [.b d] (go k r') else adds [.b c] (go k (d::r')))
 else if c=36 then (match yQ r with
  | .bad=>.inl 4
  | .flat t r'=>adds t (go k r')
  | .deep n op r'=>match go .braces r' with
   | .inl z=>.inl z
   | .inr (l,r2)=>adds [.v n op l] (go k r2))
 else if stops k c then .inr ([],r)
 else if quotes k&&c==39 then (if r.contains 39 then adds ((r.takeWhile (· != 39)).map .b) (go k ((r.dropWhile (· != 39)).drop 1)) else .inl 18)
 else if quotes k&&c==34 then (match go .quoted r with
  | .inl z=>.inl z
  | .inr (l,r2)=>adds l (go k r2))
 else adds [.b c] (go k r)
def rd (e:UInt8):Nat→Kd→List UInt8→R
 | 0,_,_=>.inl 0
 | _+1,k,[]=>endR k
 | f+1,k,c::r=>step e (rd e f) k c r
theorem brace_len {r:List UInt8}:(∀ t r',braceL r=.flat t r'→r'.length≤r.length)∧(∀ n op r',braceL r=.deep n op r'→r'.length≤r.length):=by
 have hd:(r.drop (nmL r)).length≤r.length:=by rw [Jn];omega
 unfold braceL;constructor
 · intro t r' h
   split at h
   · cases h
   · split at h <;> first | (cases h;done) | (rename_i q;injection h with h1 h2;subst h2;rw [q] at hd;simp only [Ji] at hd;omega)
 · intro n op r' h
   split at h
   · cases h
   · split at h <;> first | (cases h;done) | (rename_i q;injection h with h1 h2 h3;subst h3;rw [q] at hd;simp only [Ji] at hd;omega)
theorem vst_len {r:List UInt8}:(∀ t r',yQ r=.flat t r'→r'.length≤r.length)∧(∀ n op r',yQ r=.deep n op r'→r'.length≤r.length):=by
 unfold yQ;constructor
 · intro t r' h
   split at h
   · injection h with _ h;subst h;rw [Jn];omega
   · split at h
     · have:=brace_len.1 t r' h;simp only [Ji];omega
     · injection h with _ h;subst h;exact Jd _
 · intro n op r' h
   split at h
   · cases h
   · split at h
     · have:=brace_len.2 n op r' h;simp only [Ji];omega
     · cases h
theorem zI {t:List Tk} {x:R} {l:List Tk} {r:List UInt8} (h:adds t x=.inr (l,r)):∃ l',x=.inr (l',r)∧l=t++l':=by
 cases x with
 | inl z=>cases h
 | inr p =>obtain ⟨l',r'⟩:=p;injection h with h;injection h with h1 h2;exact ⟨l',by rw [h2],h1.symm⟩
theorem Wl (r:List UInt8):((r.dropWhile (· != 39)).drop 1).length≤r.length:=by have:=(List.dropWhile_sublist (l:=r) (· != (39:UInt8))).length_le;rw [Jn];omega
theorem yk {e:UInt8}:∀ (f:Nat) (k:Kd) (s:List UInt8) (l:List Tk) (r:List UInt8),rd e f k s=.inr (l,r)→r.length≤s.length
 | 0,_,_,_,_,h=>by rw [rd] at h;cases h
 | f+1,k,[],l,r,h=>by have h:endR k=.inr (l,r):=h;cases k <;> first | (cases h;done) | (injection h with h;injection h with _ h;subst h;exact Jd _)
 | f+1,k,c::s,l,r,h=>by
  have h:step e (rd e f) k c s=.inr (l,r):=h;unfold step at h;rw [Ji]
  split at h
  · split at h
    · obtain ⟨l',h,_⟩:=zI h;have:=yk f k _ l' r h;simp only [Jp] at this ⊢;omega
    · split at h
      · obtain ⟨l',h,_⟩:=zI h;have:=yk f k _ l' r h;simp only [Ji] at this ⊢;omega
      · obtain ⟨l',h,_⟩:=zI h;have:=yk f k _ l' r h;simp only [Ji] at this ⊢;omega
  · split at h
    · cases hv:yQ s with
      | bad=>rw [hv] at h;cases h
      | flat t r' =>rw [hv] at h;obtain ⟨l',h,_⟩:=zI h;have:=yk f k _ l' r h;have:=vst_len.1 t r' hv;omega
      | deep n op r' =>
       rw [hv] at h;simp only at h;cases hb:rd e f .braces r' with
       | inl z=>rw [hb] at h;cases h
       | inr p =>obtain ⟨l2,r2⟩:=p;rw [hb] at h;obtain ⟨l',h,_⟩:=zI h;have:=yk f k _ l' r h;have:=yk f _ _ l2 r2 hb;have:=vst_len.2 n op r' hv;omega
    · split at h
      · injection h with h;injection h with _ h;subst h;omega
      · split at h
        · split at h
          · obtain ⟨l',h,_⟩:=zI h;have:=yk f k _ l' r h;have:=Wl s;omega
          · cases h
        · split at h
          · cases hb:rd e f .quoted s with
            | inl z=>rw [hb] at h;cases h
            | inr p =>obtain ⟨l2,r2⟩:=p;rw [hb] at h;obtain ⟨l',h,_⟩:=zI h;have:=yk f k _ l' r h;have:=yk f _ _ l2 r2 hb;omega
          · obtain ⟨l',h,_⟩:=zI h;have:=yk f k _ l' r h;omega
theorem Ul {e:UInt8}:∀ (f g:Nat) (k:Kd) (s:List UInt8),s.length<f→s.length<g→rd e f k s=rd e g k s
 | 0,_,_,_,h,_=>absurd h (by omega)
 | _,0,_,_,_,h=>absurd h (by omega)
 | f+1,g+1,k,[],_,_=>rfl
 | f+1,g+1,k,c::s,hf,hg=>by
  rw [Ji] at hf hg;have ih:∀ (k:Kd) (t:List UInt8),t.length≤s.length→rd e f k t=rd e g k t:=fun k t ht=>Ul f g k t (by omega) (by omega);show step e (rd e f) k c s=step e (rd e g) k c s;unfold step
  split
  · split
    · rw [ih k [] (by simp)]
    · rename_i d r';rw [ih k r' (by simp),ih k (d::r') (Jd _)]
  · split
    · cases hv:yQ s with
      | bad=>rfl
      | flat t r'=>simp only;rw [ih k r' (vst_len.1 t r' hv)]
      | deep n op r' =>
       have hr:=vst_len.2 n op r' hv;simp only;rw [ih .braces r' hr];cases hb:rd e g .braces r' with
       | inl z=>rfl
       | inr p =>obtain ⟨l2,r2⟩:=p;have:=yk g _ _ l2 r2 hb;simp only;rw [ih k r2 (by omega)]
    · split
      · rfl
      · split
        · rw [ih k _ (Wl s)]
        · split
          · rw [ih .quoted s (Jd _)];cases hb:rd e g .quoted s with
            | inl z=>rfl
            | inr p =>obtain ⟨l2,r2⟩:=p;have:=yk g _ _ l2 r2 hb;simp only;rw [ih k r2 (by omega)]
          · rw [ih k s (Jd _)]
def readL (e:UInt8) (k:Kd) (s:List UInt8):R:=rd e (s.length+1) k s
theorem UQ {e:UInt8} {k:Kd} {s:List UInt8} {f:Nat} (h:s.length<f):rd e f k s=readL e k s:=Ul _ _ _ _ h (by omega)
end Ex
namespace Ck
theorem has1 (a c:UInt8):([a]:List UInt8).contains c=(c==a):=by rw [List.contains_cons,List.contains_nil,Bool.or_false]
def varP (s:List UInt8):Bool:=ofL s [95] true&&!s.head?.any digit
def varR (s:List UInt8):Bool:=!s.isEmpty&&decide (Ex.nmL s=s.length)
theorem WB (p:UInt8→Bool):∀ r:List UInt8,(r.takeWhile p).length=r.length↔∀ c∈r,p c=true
 | []=>by simp
 | c::r=>by
  rw [List.takeWhile_cons];cases h:p c with
  | true=>simp [h,WB p r]
  | false=>simp [h]
theorem var_same (s:List UInt8):varP s=varR s:=by
 cases s with
 | nil=>rfl
 | cons c r =>
  have e:∀ d:UInt8,(small d||digit d||true&&big d||([95]:List UInt8).contains d)=(Ex.letter d||digit d):=fun d=>by rw [has1];unfold Ex.letter;cases small d <;> cases digit d <;> cases big d <;> cases (d==95) <;> rfl
  have hx:Ex.letter c=true→digit c=false:=fun h=>by
   cases hd:digit c with
   | false=>rfl
   | true =>
    simp only [digit,Jy,Jj] at hd;simp only [Ex.letter,small,big,Bool.or_eq_true,Jy,Jj,Jx] at h;rcases h with (h | h) | h
    · omega
    · omega
    · subst h;simp at hd
  have e1:varP (c::r)=((Ex.letter c||digit c)&&r.all (fun d=>Ex.letter d||digit d)&&!digit c):=by unfold varP ofL;rw [show (fun d:UInt8=>small d||digit d||true&&big d||([95]:List UInt8).contains d)=fun d=>Ex.letter d||digit d from funext e];simp [List.all_cons]
  have e2:varR (c::r)=(Ex.letter c&&r.all (fun d=>Ex.letter d||digit d)):=by
   show (true&&decide (Ex.nmL (c::r)=r.length+1))=_;rw [Bool.true_and,Jz,Jj,Jy,List.all_eq_true];show (if Ex.letter c then 1+(r.takeWhile fun d=>Ex.letter d||digit d).length else 0)=r.length+1↔_;rw [←WB];cases Ex.letter c with
   | true=>simp;omega
   | false=>simp
  rw [e1,e2];cases hl:Ex.letter c with
  | true=>rw [hx hl];simp
  | false=>cases digit c <;> simp
def labelR (s:List UInt8):Bool:=s.all (fun c=>small c||big c||digit c||c==46||c==45||c==95||c==47)&&!s.isEmpty
theorem label_same (s:List UInt8):ofL s [46,45,95,47] true=labelR s:=by
 unfold ofL labelR;congr 2
 funext d
 simp only [List.contains_cons,List.contains_nil,Bool.or_false,Bool.true_and];cases small d <;> cases digit d <;> cases big d <;> cases (d==95) <;> cases (d==46) <;> cases (d==45) <;> cases (d==47) <;> rfl
def stageP (s:List UInt8):Bool:=ofL s [45,95,46] false&&s.head?.any small&&decide (s.length≤96)&&decide (s≠scratch)
def stageR (s:List UInt8):Bool:=(match s with
 | []=>false
 | c::r=>small c&&r.all (fun c=>small c||digit c||c==45||c==95||c==46))&&decide (s.length≤96)&&decide (s≠scratch)
theorem stage_same (s:List UInt8):stageP s=stageR s:=by
 cases s with
 | nil=>rfl
 | cons c r =>
  have e:∀ d:UInt8,(small d||digit d||false&&big d||([45,95,46]:List UInt8).contains d)=(small d||digit d||d==45||d==95||d==46):=fun d=>by simp only [List.contains_cons,List.contains_nil,Bool.or_false,Bool.false_and];cases small d <;> cases digit d <;> cases (d==95) <;> cases (d==46) <;> cases (d==45) <;> rfl
  show (((c::r).all _&&!(c::r).isEmpty)&&(c::r).head?.any small&&_&&_)=_;unfold stageR;simp only [e,List.all_cons,List.isEmpty_cons,List.head?_cons,Option.any_some,Bool.not_false,Bool.and_true];cases h:small c <;> simp
theorem Ww (p cs:List UInt8):Lib.trimS p cs=[]↔∀ c∈p,cs.contains c=true:=by
 have hd:∀ l:List UInt8,l.dropWhile (cs.contains ·)=[]↔∀ c∈l,cs.contains c=true:=fun l=>by
  induction l with
  | nil=>simp
  | cons c r ih =>
   rw [List.dropWhile_cons];cases h:cs.contains c with
   | true=>simp only [if_true,ih,Kn,forall_eq_or_imp,h,true_and]
   | false =>
    constructor
    · intro e;cases e
    · intro hq;have:=hq c (by simp);rw [h] at this;cases this
 constructor
 · intro h;have h1:=(hd _).1 h
   by_cases hn:Lib.trimRightS p cs=[]
   · unfold Lib.trimRightS at hn;rw [List.reverse_eq_nil_iff,hd] at hn;exact fun c hc=>hn c (List.mem_reverse.2 hc)
   · exfalso;obtain ⟨c,hc⟩:∃ c,(Lib.trimRightS p cs).getLast?=some c:=⟨_,List.getLast?_eq_some_getLast hn⟩
     have hm:c∈Lib.trimRightS p cs:=List.mem_of_getLast? hc;have h2:=h1 c hm;unfold Lib.trimRightS at hc;rw [List.getLast?_reverse] at hc;have h3:=List.head?_dropWhile_not (p:=(cs.contains ·)) p.reverse;rw [hc] at h3;simp only at h3;rw [h2] at h3;cases h3
 · intro h;unfold Lib.trimS Lib.trimLeftS Lib.trimRightS;have:p.reverse.dropWhile (cs.contains ·)=[]:=(hd _).2 fun c hc=>h c (List.mem_reverse.1 hc);rw [this];rfl
def digitsR (s:List UInt8):Bool:=s.all digit&&!s.isEmpty
theorem Qe (c:UInt8):([48,49,50,51,52,53,54,55,56,57]:List UInt8).contains c=digit c:=by
 have hn:∀ k:UInt8,(c==k)=true↔c.toNat=k.toNat:=fun k=>by rw [Jx,UInt8.toNat_inj]
 rw [Jz];simp only [List.contains_cons,List.contains_nil,Bool.or_false,Bool.or_eq_true,hn,digit,Jy,Jj];simp only [UInt8.reduceToNat];omega
theorem digits_same (s:List UInt8):(decide (Lib.trimS s [48,49,50,51,52,53,54,55,56,57]=[])&&!s.isEmpty)=digitsR s:=by unfold digitsR;congr 1;rw [Jz,Jj,Ww,List.all_eq_true];simp only [Qe]
def oct (c:UInt8):Bool:=decide (48≤c.toNat)&&decide (c.toNat≤55)
def modeR (s:List UInt8):Bool:=s.all oct&&decide (1≤s.length)&&decide (s.length≤4)
theorem zag (c:UInt8):([48,49,50,51,52,53,54,55]:List UInt8).contains c=oct c:=by
 have hn:∀ k:UInt8,(c==k)=true↔c.toNat=k.toNat:=fun k=>by rw [Jx,UInt8.toNat_inj]
 rw [Jz];simp only [List.contains_cons,List.contains_nil,Bool.or_false,Bool.or_eq_true,hn,oct,Jy,Jj];simp only [UInt8.reduceToNat];omega
theorem mode_same (s:List UInt8):(!s.isEmpty&&decide (s.length≤4)&&decide (Lib.trimS s [48,49,50,51,52,53,54,55]=[]))=modeR s:=by
 unfold modeR;rw [Jz];simp only [Jy,Jj,Ww,zag,List.all_eq_true,Bool.not_eq_true',List.isEmpty_eq_false_iff];constructor
 · rintro ⟨⟨h1,h2⟩,h3⟩;exact ⟨⟨h3,List.length_pos_iff.2 h1⟩,h2⟩
 · rintro ⟨⟨h1,h2⟩,h3⟩;exact ⟨⟨List.length_pos_iff.1 h2,h3⟩,h1⟩
end Ck
namespace Lx
abbrev Bs:=List UInt8
end Lx
namespace Lx
def charN (n b0 b1 b2 b3:Nat):Nat:=
 if b0<128 then 1
 else if 194≤b0∧b0≤223 then (if 2≤n∧(128≤b1∧b1≤191) then 2 else 0)
 else if 224≤b0∧b0≤239 then (if 3≤n∧((if b0=224 then 160 else 128)≤b1∧b1≤(if b0=237 then 159 else 191))∧(128≤b2∧b2≤191) then 3 else 0)
 else if 240≤b0∧b0≤244 then (if 4≤n∧((if b0=240 then 144 else 128)≤b1∧b1≤(if b0=244 then 143 else 191))∧(128≤b2∧b2≤191)∧(128≤b3∧b3≤191) then 4 else 0)
 else 0
def charLen (l:Bs):Nat:=charN l.length (l.getD 0 0).toNat (l.getD 1 0).toNat (l.getD 2 0).toNat (l.getD 3 0).toNat
def wrongL:Bs→Nat→Nat→Nat→Nat→Option (Nat × Nat)
 | [],_,_,_,_=>none
 | _::r,k+1,i,line,f=>wrongL r k (i+1) line f
 | c::r,0,i,line,f=>match charLen (c::r) with
  | 0=>some (line,i - f+1)
  | n+1=>wrongL r n (i+1) (if c=10 then line+1 else line) (if c=10 then i+1 else f)
theorem wrongL_skip:∀ (k:Nat) (l:Bs) (i line f:Nat),wrongL l k i line f=wrongL (l.drop k) 0 (i+k) line f
 | 0,l,i,line,f=>by rw [Jw,Nat.add_zero]
 | k+1,[],i,line,f=>by rw [List.drop_nil,wrongL,wrongL]
 | k+1,c::r,i,line,f=>by rw [wrongL,List.drop_succ_cons,wrongL_skip k r,show i+1+k=i+(k+1) by omega]
theorem wrong_at {s:Bs} {i line f:Nat} (h:i<s.length) (h0:charLen (s.drop i)=0):wrongL (s.drop i) 0 i line f=some (line,i - f+1):=by rw [Js h] at h0 ⊢;rw [wrongL,h0]
theorem wrong_go {s:Bs} {i line f n:Nat} (h:i<s.length) (h0:charLen (s.drop i)=n+1):
  wrongL (s.drop i) 0 i line f=wrongL (s.drop (i+(n+1))) 0 (i+(n+1)) (if s[i]=10 then line+1 else line) (if s[i]=10 then i+1 else f):=by
 rw [Js h] at h0 ⊢;rw [wrongL,h0];simp only;rw [wrongL_skip,List.drop_drop,show i+1+n=i+(n+1) by omega]
theorem wrong_end {s:Bs} {i line f:Nat} (h:s.length≤i):wrongL (s.drop i) 0 i line f=none:=by rw [Jt h,wrongL]
theorem jf (n b0 b1 b2 b3:Nat) (h:1≤n):charN n b0 b1 b2 b3≤n:=by
 unfold charN
 repeat' split
 all_goals omega

structure Dc where
 name:Bs
 raw:Bool
 line:Int
 text:Bs
end Lx
namespace Ck
structure Pr where
 key:List UInt8
 val:List UInt8
structure St where
 op:Int
 line:Int
 from_:List UInt8
 mode:List UInt8
 force:Bool
 pairs:List Pr
 bare:Bool
 words:List (List UInt8)
 docs:List Lx.Dc
 exec:List (List UInt8)
structure Sg where
 line:Int
 base:List UInt8
 name:List UInt8
 steps:List St
structure Fl where
 escape:UInt8
 args:List St
 stages:List Sg
def errR:Ex.R→Nat
 | .inl z=>z
 | .inr _=>0
def wordL (e:UInt8) (s:List UInt8):Nat:=errR (Ex.readL e .plain s)
def docL (e:UInt8) (s:List UInt8):Nat:=errR (Ex.readL e .document s)
def badT (s:List UInt8):Bool:=(Lx.wrongL s 0 0 1 0).isSome
def textsL (s:St):List (List UInt8):=[s.from_,s.mode]++s.words++s.exec++s.pairs.flatMap (fun p=>[p.key,p.val])++s.docs.flatMap fun d=>[d.name,d.text]
def least (op:Int):Nat:=if op=9∨op=5∨op=6∨op=10 then 2 else if op=13∨op=14 then 0 else 1
def most (op:Int):Nat:=if op=1∨op=4∨op=11 then 1 else if op=9 then 2 else 64
def fieldsL (s:St):Nat:=
 if (s.from_≠[]∧s.op≠5)∨(s.mode≠[]∧s.op≠5∧s.op≠6∧s.op≠8)∨(s.force=true∧s.op≠7) then 20
 else if (s.pairs≠[]∧¬ (s.op=1∨s.op=2∨s.op=3))∨(s.words≠[]∧(s.op=1∨s.op=2∨s.op=3∨s.op=13∨s.op=14))∨(s.docs≠[]∧s.op≠5)∨(s.exec≠[]∧¬ (s.op=13∨s.op=14))∨(s.bare=true∧s.op≠1)∨(s.bare=true∧∃ p∈s.pairs,p.val≠[]) then 4
 else 0
def numbersL (s:St):Nat:=
 let n:=s.words.length+s.pairs.length+s.exec.length
 if n<least s.op then 2
 else if most s.op<n∧most s.op<64 then 3
 else if most s.op<n then 5
 else if s.from_≠[]∧digitsR s.from_=false∧stageR s.from_=false∧refR s.from_=false then 31
 else if s.mode≠[]∧modeR s.mode=false then 16
 else 0
def pairsL (op:Int) (e:UInt8):List Pr→Nat
 | []=>0
 | p::r=>if (if op=3 then labelR p.key else varR p.key)=false then 8 else if wordL e p.val≠0 then wordL e p.val else pairsL op e r
def opensL (w:List UInt8):Option (List UInt8 × Bool):=
 let s:=if w.head?=some 45 then w.drop 1 else w
 let q:=decide (2≤s.length)&&(s.head?==some 34||s.head?==some 39)&&s.getLast?==s.head?
 let t:=if q then (s.drop 1).dropLast else s
 if t.all (fun c=>Ex.letter c||digit c)∧1≤t.length∧t.length≤96 then some (t,q) else none
def opening (w:List UInt8):Bool:=w.take 2==[60,60]
def wordsL (op:Int) (e:UInt8):List (List UInt8)→List Lx.Dc→Nat ⊕ List Lx.Dc
 | [],ds=>.inr ds
 | w::r,ds =>
  if op≠5∨opening w=false then (if wordL e w≠0 then .inl (wordL e w) else wordsL op e r ds)
  else if r=[] then .inl 4
  else match opensL (w.drop 2),ds with
   | some (n,q),d::ds'=>if d.name=n∧d.raw=q then wordsL op e r ds' else .inl 26
   | _,_=>.inl 26
def docsL (e:UInt8):List Lx.Dc→Nat
 | []=>0
 | d::r=>if d.raw=false∧docL e d.text≠0 then docL e d.text else docsL e r
def bodyL (s:St) (e:UInt8):Nat:=match wordsL s.op e s.words s.docs with
 | .inl z=>z
 | .inr (_::_)=>26
 | .inr []=>docsL e s.docs
def stepL (s:St) (e:UInt8):Nat:=
 if s.op<1∨14<s.op then 19
 else if (textsL s).any badT then 6
 else if fieldsL s≠0 then fieldsL s
 else if numbersL s≠0 then numbersL s
 else if pairsL s.op e s.pairs≠0 then pairsL s.op e s.pairs
 else bodyL s e
def zE (e:UInt8):List St→Option (Nat × Int)
 | []=>none
 | s::r=>if stepL s e≠0 then some (stepL s e,s.line) else zE e r
def yt (e:UInt8):List St→Option (Nat × Int)
 | []=>none
 | s::r=>if s.op≠1 then some (19,s.line) else if stepL s e≠0 then some (stepL s e,s.line) else yt e r
def stageL (e:UInt8) (names:List (List UInt8)) (s:Sg):Nat:=
 if badT s.base||badT s.name then 6
 else if s.base=[] then 2
 else if wordL e s.base≠0 then wordL e s.base
 else if s.name≠[]∧stageR s.name=false then 8
 else if s.name≠[]∧s.name∈names then 11
 else 0
def stagesL (e:UInt8):List (List UInt8)→List Sg→Option (Nat × Int)
 | _,[]=>none
 | names,s::r=>if stageL e names s≠0 then some (stageL e names s,s.line) else match zE e s.steps with
  | some x=>some x
  | none=>stagesL e (names++[s.name]) r
def countL (f:Fl):Nat:=f.args.length+(f.stages.map (·.steps.length)).sum
def fileL (f:Fl):Option (Nat × Int):=
 if f.escape≠92∧f.escape≠96 then some (1,0)
 else if f.stages=[] then some (2,0)
 else if 32<f.stages.length∨512<countL f then some (5,0)
 else match yt f.escape f.args with
  | some x=>some x
  | none=>stagesL f.escape [] f.stages
end Ck
namespace Ex
theorem Yr (a b:List Tk) (x:R):adds a (adds b x)=adds (a++b) x:=by
 cases x with
 | inl z=>rfl
 | inr p=>obtain ⟨l,r⟩:=p;show Sum.inr (a++(b++l),r)=Sum.inr (a++b++l,r);rw [Kv]
theorem adds_nil (x:R):adds [] x=x:=by
 cases x with
 | inl z=>rfl
 | inr p=>rfl
theorem Vy {e:UInt8} {go go':Kd→List UInt8→R} {k:Kd} {c:UInt8} {s:List UInt8} (h:∀ k t,t.length≤s.length→go k t=go' k t) (hl:∀ k t l r2,go' k t=.inr (l,r2)→r2.length≤t.length):step e go k c s=step e go' k c s:=by
 unfold step
 split
 · split
   · rw [h k [] (by simp)]
   · rename_i d r';rw [h k r' (by simp),h k (d::r') (Jd _)]
 · split
   · cases hv:yQ s with
     | bad=>rfl
     | flat t r'=>simp only;rw [h k r' (vst_len.1 t r' hv)]
     | deep n op r' =>
      have hr:=vst_len.2 n op r' hv;simp only;rw [h .braces r' hr];cases hb:go' .braces r' with
      | inl z=>rfl
      | inr p =>obtain ⟨l2,r2⟩:=p;have:=hl _ _ l2 r2 hb;simp only;rw [h k r2 (by omega)]
   · split
     · rfl
     · split
       · rw [h k _ (Wl s)]
       · split
         · rw [h .quoted s (Jd _)];cases hb:go' .quoted s with
           | inl z=>rfl
           | inr p =>obtain ⟨l2,r2⟩:=p;have:=hl _ _ l2 r2 hb;simp only;rw [h k r2 (by omega)]
         · rw [h k s (Jd _)]
theorem readL_len {e:UInt8} {k:Kd} {s:List UInt8} {l:List Tk} {r:List UInt8} (h:readL e k s=.inr (l,r)):r.length≤s.length:=yk _ _ _ _ _ h
theorem readL_nil (e:UInt8) (k:Kd):readL e k []=endR k:=rfl
theorem zM (e:UInt8) (k:Kd) (c:UInt8) (r:List UInt8):readL e k (c::r)=step e (readL e) k c r:=by show step e (rd e (r.length+1)) k c r=_;refine Vy (fun k t ht=>UQ (by omega)) fun k t l r2 h=>readL_len h
section
variable {e:UInt8} {k:Kd} {c:UInt8} {r:List UInt8}
theorem read_esc {d:UInt8} (hk:escs k e d=true):readL e k (e::d::r)=adds [.b d] (readL e k r):=by rw [zM];unfold step;rw [if_pos rfl];show (if escs k e d=true then _ else _)=_;rw [if_pos hk]
theorem read_esc_no (hk:∀ d∈r.head?,escs k e d=false):readL e k (e::r)=adds [.b e] (readL e k r):=by
 rw [zM];unfold step;rw [if_pos rfl];cases r with
 | nil=>rfl
 | cons d r' =>show (if escs k e d=true then _ else _)=_;rw [if_neg (by rw [hk d (by simp)];simp)]
theorem QK (h0:(36:UInt8)≠e) (h:yQ r=.bad):readL e k (36::r)=.inl 4:=by rw [zM];unfold step;rw [if_neg h0,if_pos rfl,h]
theorem UR {t:List Tk} {r':List UInt8} (h0:(36:UInt8)≠e) (h:yQ r=.flat t r'):readL e k (36::r)=adds t (readL e k r'):=by rw [zM];unfold step;rw [if_neg h0,if_pos rfl,h]
theorem Xk {n:List UInt8} {op:UInt8} {r':List UInt8} {z:Nat} (h0:(36:UInt8)≠e) (h:yQ r=.deep n op r') (hb:readL e .braces r'=.inl z):readL e k (36::r)=.inl z:=by rw [zM];unfold step;rw [if_neg h0,if_pos rfl,h];show (match readL e .braces r' with | .inl z=>_ | .inr (l,r2)=>_)=_;rw [hb]
theorem US {n:List UInt8} {op:UInt8} {r' r2:List UInt8} {l:List Tk} (h0:(36:UInt8)≠e) (h:yQ r=.deep n op r') (hb:readL e .braces r'=.inr (l,r2)):readL e k (36::r)=adds [.v n op l] (readL e k r2):=by rw [zM];unfold step;rw [if_neg h0,if_pos rfl,h];show (match readL e .braces r' with | .inl z=>_ | .inr (l,r2)=>_)=_;rw [hb]
theorem read_stop (h0:c≠e) (h1:c≠36) (h:stops k c=true):readL e k (c::r)=.inr ([],r):=by rw [zM];unfold step;rw [if_neg h0,if_neg h1,if_pos h]
theorem read_byte (h0:c≠e) (h1:c≠36) (h:stops k c=false) (h2:(quotes k&&(c==34||c==39))=false):readL e k (c::r)=adds [.b c] (readL e k r):=by
 rw [zM];unfold step;rw [if_neg h0,if_neg h1,if_neg (by rw [h];simp)];have a1:(quotes k&&c==39)=false:=by cases hq:quotes k <;> cases h34:c==34 <;> cases h39:c==39 <;> simp_all
 have a2:(quotes k&&c==34)=false:=by cases hq:quotes k <;> cases h34:c==34 <;> cases h39:c==39 <;> simp_all
 rw [if_neg (by rw [a1];simp),if_neg (by rw [a2];simp)]
theorem XV (k:Kd) (hq:quotes k=true):stops k 39=false∧stops k 34=false:=by cases k <;> first | (exact ⟨rfl,rfl⟩) | cases hq
theorem Yv (h0:(39:UInt8)≠e) (hq:quotes k=true):readL e k (39::r)=if r.contains 39 then adds ((r.takeWhile (· != 39)).map .b) (readL e k ((r.dropWhile (· != 39)).drop 1)) else .inl 18:=by rw [zM];unfold step;rw [if_neg h0,if_neg (by decide),if_neg (by rw [(XV k hq).1];simp),if_pos (by rw [hq];rfl)]
theorem read_double_err {z:Nat} (h0:(34:UInt8)≠e) (hq:quotes k=true) (hb:readL e .quoted r=.inl z):readL e k (34::r)=.inl z:=by rw [zM];unfold step;rw [if_neg h0,if_neg (by decide),if_neg (by rw [(XV k hq).2];simp),if_neg (by rw [hq];decide),if_pos (by rw [hq];rfl),hb]
theorem read_double {l:List Tk} {r2:List UInt8} (h0:(34:UInt8)≠e) (hq:quotes k=true) (hb:readL e .quoted r=.inr (l,r2)):readL e k (34::r)=adds l (readL e k r2):=by rw [zM];unfold step;rw [if_neg h0,if_neg (by decide),if_neg (by rw [(XV k hq).2];simp),if_neg (by rw [hq];decide),if_pos (by rw [hq];rfl),hb]
end
theorem yM {e:UInt8}:∀ (f:Nat) (k:Kd) (s:List UInt8) (z:Nat),s.length<f→rd e f k s=.inl z→z=4∨z=18
 | 0,_,_,_,hf,_=>absurd hf (by omega)
 | f+1,k,[],z,_,h=>by have h:endR k=.inl z:=h;cases k <;> first | (injection h with h;omega) | cases h
 | f+1,k,c::s,z,hf,h=>by
  rw [Ji] at hf;have h:step e (rd e f) k c s=.inl z:=h;have hadd:∀ {t:List Tk} {x:R},adds t x=.inl z→x=.inl z:=fun {t x} hx=>by
   cases x with
   | inl y=>exact hx
   | inr p=>cases hx
  unfold step at h
  split at h
  · cases s with
    | nil=>exact yM f k [] z (by simp only [Jp];omega) (hadd h)
    | cons d r' =>
     simp only [Ji] at hf;simp only at h
     split at h
     · exact yM f k r' z (by omega) (hadd h)
     · exact yM f k (d::r') z (by simp only [Ji];omega) (hadd h)
  · split at h
    · cases hv:yQ s with
      | bad=>rw [hv] at h;injection h with h;omega
      | flat t r' =>rw [hv] at h;have:=vst_len.1 t r' hv;exact yM f k r' z (by omega) (hadd h)
      | deep n op r' =>
       rw [hv] at h;simp only at h;have hr:=vst_len.2 n op r' hv;cases hb:rd e f .braces r' with
       | inl y =>rw [hb] at h;injection h with h;subst h;exact yM f _ r' y (by omega) hb
       | inr p =>obtain ⟨l2,r2⟩:=p;rw [hb] at h;have:=yk f _ _ l2 r2 hb;exact yM f k r2 z (by omega) (hadd h)
    · split at h
      · cases h
      · split at h
        · split at h
          · have:=Wl s;exact yM f k _ z (by omega) (hadd h)
          · injection h with h;omega
        · split at h
          · cases hb:rd e f .quoted s with
            | inl y =>rw [hb] at h;injection h with h;subst h;exact yM f _ s y (by omega) hb
            | inr p =>obtain ⟨l2,r2⟩:=p;rw [hb] at h;have:=yk f _ _ l2 r2 hb;exact yM f k r2 z (by omega) (hadd h)
          · exact yM f k s z (by omega) (hadd h)
theorem readL_err {e:UInt8} {k:Kd} {s:List UInt8} {z:Nat} (h:readL e k s=.inl z):z=4∨z=18:=yM _ _ _ _ (by omega) h
theorem brace_suf {r:List UInt8}:(∀ t r',braceL r=.flat t r'→r' <:+ r)∧(∀ n op r',braceL r=.deep n op r'→r' <:+ r):=by
 have hd:r.drop (nmL r) <:+ r:=List.drop_suffix _ _;unfold braceL;constructor
 · intro t r' h
   split at h
   · cases h
   · split at h <;> first | (cases h;done) | (rename_i q;injection h with h1 h2;subst h2;rw [q] at hd;exact List.IsSuffix.trans (by first | exact List.suffix_cons _ _ | exact List.IsSuffix.trans (List.suffix_cons _ _) (List.suffix_cons _ _)) hd)
 · intro n op r' h
   split at h
   · cases h
   · split at h <;> first | (cases h;done) | (rename_i q;injection h with h1 h2 h3;subst h3;rw [q] at hd;exact List.IsSuffix.trans (by first | exact List.suffix_cons _ _ | exact List.IsSuffix.trans (List.suffix_cons _ _) (List.suffix_cons _ _)) hd)
theorem vst_suf {r:List UInt8}:(∀ t r',yQ r=.flat t r'→r' <:+ r)∧(∀ n op r',yQ r=.deep n op r'→r' <:+ r):=by
 unfold yQ;constructor
 · intro t r' h
   split at h
   · injection h with _ h;subst h;exact List.drop_suffix _ _
   · split at h
     · exact (brace_suf.1 t r' h).trans (List.suffix_cons _ _)
     · injection h with _ h;subst h;exact List.suffix_refl _
 · intro n op r' h
   split at h
   · cases h
   · split at h
     · exact (brace_suf.2 n op r' h).trans (List.suffix_cons _ _)
     · cases h
theorem yL {e:UInt8}:∀ (f:Nat) (k:Kd) (s:List UInt8) (l:List Tk) (r:List UInt8),rd e f k s=.inr (l,r)→r <:+ s
 | 0,_,_,_,_,h=>by rw [rd] at h;cases h
 | f+1,k,[],l,r,h=>by have h:endR k=.inr (l,r):=h;cases k <;> first | (cases h;done) | (injection h with h;injection h with _ h;subst h;exact List.suffix_refl _)
 | f+1,k,c::s,l,r,h=>by
  have h:step e (rd e f) k c s=.inr (l,r):=h;have up:∀ {t u:List UInt8},t <:+ u→u <:+ s→t <:+ c::s:=fun a b=>(a.trans b).trans (List.suffix_cons _ _);unfold step at h
  split at h
  · split at h
    · obtain ⟨l',h,_⟩:=zI h;exact up (yL f k _ l' r h) (List.suffix_refl _)
    · split at h
      · obtain ⟨l',h,_⟩:=zI h;exact up (yL f k _ l' r h) (List.suffix_cons _ _)
      · obtain ⟨l',h,_⟩:=zI h;exact up (yL f k _ l' r h) (List.suffix_refl _)
  · split at h
    · cases hv:yQ s with
      | bad=>rw [hv] at h;cases h
      | flat t r' =>rw [hv] at h;obtain ⟨l',h,_⟩:=zI h;exact up (yL f k _ l' r h) (vst_suf.1 t r' hv)
      | deep n op r' =>
       rw [hv] at h;simp only at h;cases hb:rd e f .braces r' with
       | inl z=>rw [hb] at h;cases h
       | inr p =>obtain ⟨l2,r2⟩:=p;rw [hb] at h;obtain ⟨l',h,_⟩:=zI h;exact up (yL f k _ l' r h) ((yL f _ _ l2 r2 hb).trans (vst_suf.2 n op r' hv))
    · split at h
      · injection h with h;injection h with _ h;subst h;exact List.suffix_cons _ _
      · split at h
        · split at h
          · obtain ⟨l',h,_⟩:=zI h;exact up (yL f k _ l' r h) ((List.drop_suffix _ _).trans (List.dropWhile_suffix _))
          · cases h
        · split at h
          · cases hb:rd e f .quoted s with
            | inl z=>rw [hb] at h;cases h
            | inr p =>obtain ⟨l2,r2⟩:=p;rw [hb] at h;obtain ⟨l',h,_⟩:=zI h;exact up (yL f k _ l' r h) (yL f _ _ l2 r2 hb)
          · obtain ⟨l',h,_⟩:=zI h;exact up (yL f k _ l' r h) (List.suffix_refl _)
theorem readL_suf {e:UInt8} {k:Kd} {s:List UInt8} {l:List Tk} {r:List UInt8} (h:readL e k s=.inr (l,r)):r <:+ s:=yL _ _ _ _ _ h
theorem suf_drop {s:List UInt8} {p:Nat} {r:List UInt8} (h:r <:+ s.drop p):r=s.drop (s.length - r.length):=by have h2:r <:+ s:=h.trans (List.drop_suffix _ _);obtain ⟨a,rfl⟩:=h2;rw [Jf,Nat.add_sub_cancel,List.drop_left]
end Ex
def prL (p:Ck.Pr):List Value:=[.string (bs p.key),.string (bs p.val)]
def yV (l:List Ck.Pr):List Value:=l.flatMap prL
def doL (d:Lx.Dc):List Value:=[.string (bs d.name),.bool d.raw,.int .i64 d.line,.string (bs d.text)]
def yI (l:List Lx.Dc):List Value:=l.flatMap doL
structure SM where
 s:Ck.St
 vp:Value
 vw:Value
 vd:Value
 ve:Value
def ZN (m:SM):List Value:=[.int .i64 m.s.op,.int .i64 m.s.line,.string (bs m.s.from_),.string (bs m.s.mode),.bool m.s.force,m.vp,.bool m.s.bare,m.vw,m.vd,m.ve]
structure SM.Ok (w:World) (m:SM):Prop where
 cp:SlA w m.vp m.s.pairs.length (yV m.s.pairs)
 cw:SlA w m.vw m.s.words.length (sc m.s.words)
 cd:SlA w m.vd m.s.docs.length (yI m.s.docs)
 ce:SlA w m.ve m.s.exec.length (sc m.s.exec)
 dn:∀ A n c,m.vd=.slice A n c→n≤c
theorem SM.Ok.new {w w':World} {m:SM} (h:m.Ok w) (k:Below w.heap.size w w'):m.Ok w':=⟨h.cp.new k,h.cw.new k,h.cd.new k,h.ce.new k,h.dn⟩
def yv (l:List SM):List Value:=l.flatMap ZN
def StsA (w:World) (v:Value) (l:List SM):Prop:=SlA w v l.length (yv l)∧∀ m∈l,m.Ok w
theorem StsA.new {w w':World} {v:Value} {l:List SM} (h:StsA w v l) (k:Below w.heap.size w w'):StsA w' v l:=⟨h.1.new k,fun m hm=>(h.2 m hm).new k⟩
structure GM where
 line:Int
 base:List UInt8
 name:List UInt8
 vs:Value
 ms:List SM
def VU (g:GM):List Value:=[.int .i64 g.line,.string (bs g.base),.string (bs g.name),g.vs]
def yH (l:List GM):List Value:=l.flatMap VU
def GsA (w:World) (v:Value) (l:List GM):Prop:=SlA w v l.length (yH l)∧∀ g∈l,StsA w g.vs g.ms
theorem GsA.new {w w':World} {v:Value} {l:List GM} (h:GsA w v l) (k:Below w.heap.size w w'):GsA w' v l:=⟨h.1.new k,fun g hg=>(h.2 g hg).new k⟩
def GM.sg (g:GM):Ck.Sg:=⟨g.line,g.base,g.name,g.ms.map SM.s⟩
structure FM where
 escape:UInt8
 va:Value
 args:List SM
 vg:Value
 stages:List GM
def FM.val (f:FM):Value:=.agg #[.int .u8 (f.escape.toNat:Int),f.va,f.vg]
structure FM.Ok (w:World) (f:FM):Prop where
 a:StsA w f.va f.args
 g:GsA w f.vg f.stages
theorem FM.Ok.new {w w':World} {f:FM} (h:f.Ok w) (k:Below w.heap.size w w'):f.Ok w':=⟨h.a.new k,h.g.new k⟩
def FM.fl (f:FM):Ck.Fl:=⟨f.escape,f.args.map SM.s,f.stages.map GM.sg⟩
theorem yX {α:Type} {f:α→List Value} {k:Nat} (hf:∀ x,(f x).length=k):∀ (l:List α) (i q:Nat) (hi:i<l.length),q<k→(l.flatMap f)[i*k+q]?=(f l[i])[q]?
 | [],_,_,h,_=>absurd h (by simp)
 | x::l,0,q,_,hq=>by rw [Ke,Nat.zero_mul,Jq,Kb (by rw [hf];exact hq)];rfl
 | x::l,i+1,q,h,hq=>by have ih:=yX hf l i q (by simpa using h) hq;rw [Ke,Kc (by rw [hf,Nat.succ_mul];omega),hf,show (i+1)*k+q - k=i*k+q by rw [Nat.succ_mul];omega,ih];rfl
theorem Xa {α:Type} {f:α→List Value} {k:Nat} (hf:∀ x,(f x).length=k):∀ (l:List α),(l.flatMap f).length=l.length*k
 | []=>by simp
 | x::l=>by rw [Ke,Jf,hf,Xa hf l,Ji,Nat.succ_mul];omega
section
variable {w:World} {v:Value}
theorem ZB {l:List Ck.Pr} (h:SlA w v l.length (yV l)) {i:Nat} (hi:i<l.length):∃ g o c,v=.slice (some ⟨g,o,none⟩) l.length c∧w.cell? ⟨g,o+i*2,none⟩=some (.string (bs l[i].key))∧w.cell? ⟨g,o+i*2+1,none⟩=some (.string (bs l[i].val)):=by have e:=fun q (hq:q<2)=>yX (f:=prL) (k:=2) (fun _=>rfl) l i q hi hq;obtain ⟨g,o,c,rfl,c0⟩:=h.get ((e 0 (by omega)).trans (show _=some (.string (bs l[i].key)) from rfl));obtain ⟨g',o',c',e',c1⟩:=h.get ((e 1 (by omega)).trans (show _=some (.string (bs l[i].val)) from rfl));injection e' with e1 _ _;injection e1 with e1;injection e1 with q1 q2;subst q1 q2;exact ⟨g,o,c,rfl,c0,by rw [Nat.add_assoc];exact c1⟩
theorem ZH {l:List Lx.Dc} (h:SlA w v l.length (yI l)) {i:Nat} (hi:i<l.length):∃ g o c,v=.slice (some ⟨g,o,none⟩) l.length c∧w.cell? ⟨g,o+i*4,none⟩=some (.string (bs l[i].name))∧w.cell? ⟨g,o+i*4+1,none⟩=some (.bool l[i].raw)∧w.cell? ⟨g,o+i*4+2,none⟩=some (.int .i64 l[i].line)∧w.cell? ⟨g,o+i*4+3,none⟩=some (.string (bs l[i].text)):=by
 have e:=fun q (hq:q<4)=>yX (f:=doL) (k:=4) (fun _=>rfl) l i q hi hq;have h':=h;rcases h' with ⟨_,h0,_⟩ | ⟨g,o,c,rfl,hc⟩
 · omega
 · exact ⟨g,o,c,rfl,hc _ _ ((e 0 (by omega)).trans rfl),by rw [Nat.add_assoc];exact hc _ _ ((e 1 (by omega)).trans rfl),by rw [Nat.add_assoc];exact hc _ _ ((e 2 (by omega)).trans rfl),by rw [Nat.add_assoc];exact hc _ _ ((e 3 (by omega)).trans rfl)⟩
theorem Yf {l:List (List UInt8)} (h:SlA w v l.length (sc l)) {i:Nat} (hi:i<l.length):∃ g o c,v=.slice (some ⟨g,o,none⟩) l.length c∧w.cell? ⟨g,o+i,none⟩=some (.string (bs l[i])):=by
 have e:(sc l)[i]?=some (.string (bs l[i])):=by simp [sc,hi]
 exact h.get e
theorem j6 {l:List SM} (h:SlA w v l.length (yv l)) {i:Nat} (hi:i<l.length):∃ g o c,v=.slice (some ⟨g,o,none⟩) l.length c∧∀ q,q<10→w.cell? ⟨g,o+i*10+q,none⟩=(ZN l[i])[q]?:=by
 have e:=fun q (hq:q<10)=>yX (f:=ZN) (k:=10) (fun _=>rfl) l i q hi hq;have h':=h;rcases h' with ⟨_,h0,_⟩ | ⟨g,o,c,rfl,hc⟩
 · omega
 · refine ⟨g,o,c,rfl,fun q hq=>?_⟩;have hl:q<(ZN l[i]).length:=hq;rw [Nat.add_assoc,Jk hl];exact hc _ _ ((e q hq).trans (Jk hl))
theorem gm_at {l:List GM} (h:SlA w v l.length (yH l)) {i:Nat} (hi:i<l.length):∃ g o c,v=.slice (some ⟨g,o,none⟩) l.length c∧∀ q,q<4→w.cell? ⟨g,o+i*4+q,none⟩=(VU l[i])[q]?:=by
 have e:=fun q (hq:q<4)=>yX (f:=VU) (k:=4) (fun _=>rfl) l i q hi hq;have h':=h;rcases h' with ⟨_,h0,_⟩ | ⟨g,o,c,rfl,hc⟩
 · omega
 · refine ⟨g,o,c,rfl,fun q hq=>?_⟩;have hl:q<(VU l[i]).length:=hq;rw [Nat.add_assoc,Jk hl];exact hc _ _ ((e q hq).trans (Jk hl))
end
namespace Ck
theorem ref_len {s:List UInt8} (h:refR s=true):s.length≤96:=by unfold refR at h;rw [Jy] at h;exact of_decide_eq_true h.1
theorem ref_two {s t:List UInt8} (h:(58:UInt8)∈s):refR (s++58::t)=false:=by
 obtain ⟨a,b,rfl,ha⟩:∃ a b,s=a++58::b∧∀ c∈a,c≠58:=by
  induction s with
  | nil=>cases h
  | cons c r ih =>
   by_cases hc:c=58
   · exact ⟨[],r,by rw [hc];rfl,by simp⟩
   · rcases Kn.1 h with h | h
     · exact absurd h.symm hc
     · obtain ⟨a,b,rfl,ha⟩:=ih h;exact ⟨c::a,b,rfl,fun x hx=>by
        rcases Kn.1 hx with rfl | hx
        · exact hc
        · exact ha x hx⟩
 have e:a++58::b++58::t=a++58::(b++58::t):=by simp
 have ht:tagP (b++58::t)=false:=by
  unfold tagP ofL;have:(b++58::t).all (fun c=>small c||digit c||true&&big c||([95,46,45]:List UInt8).contains c)=false:=by rw [List.all_eq_false];exact ⟨58,by simp,by decide⟩
  rw [this];rfl
 rw [e,Yg a _ ha,ht];simp
theorem ref_latest {s:List UInt8} (h:∀ c∈s,c≠58):refR (s++58::latest)=refR s:=by
 rw [Yg s _ h,VC s h,YM,Bool.and_true];have:(s++58::latest).length=s.length+7:=by simp [latest]
 rw [this]
theorem ref_tag {s t:List UInt8} (h:∀ c∈s,c≠58) (hs:refR s=true) (ht:refR ([97]++58::t)=true) (hl:t.length≤6):refR (s++58::t)=true:=by
 rw [Yg [97] t (by decide)] at ht;rw [VC s h] at hs;rw [Yg s t h];simp only [Jy,Jj] at hs ht ⊢;obtain ⟨⟨h1,h2⟩,h3⟩:=hs;have:(s++58::t).length=s.length+(t.length+1):=by simp
 exact ⟨⟨⟨by omega,h2⟩,ht.1.2⟩,h3⟩
end Ck
namespace Ck
def right:Fl:=⟨92,[],[⟨1,scratch,[],[⟨2,2,[],[],false,[⟨[65],[39,120,39]⟩],false,[],[],[]⟩]⟩]⟩
def wrong:Fl:=⟨92,[],[⟨1,scratch,[65],[]⟩]⟩
theorem right_is:fileL right=none:=by decide
theorem wrong_is:fileL wrong=some (8,1):=by decide
theorem none_is:fileL ⟨92,[],[]⟩=some (2,0):=by decide
theorem ref_right:refR [97,47,98,58,99]=true:=by decide
theorem ref_wrong:refR [65]=false:=by decide
theorem Xv (e:UInt8):∀ (a b:List St),zE e (a++b)=match zE e a with
  | some x=>some x
  | none=>zE e b
 | [],b=>rfl
 | s::a,b=>by
  rw [List.cons_append,zE,zE]
  split
  · rfl
  · exact Xv e a b
end Ck
namespace Ck
set_option linter.unusedSimpArgs false
def chain (c19 c6 c20 c4 c2 c3 c5 c31 c16:Bool) (r:Nat):Nat:=
 if c19 then 19 else if c6 then 6 else if c20 then 20 else if c4 then 4 else if c2 then 2 else if c3 then 3 else if c5 then 5 else if c31 then 31 else if c16 then 16 else r
def exB (s:St):Bool:=s.op==13||s.op==14
def prB (s:St):Bool:=s.op==1||s.op==2||s.op==3
def baB (s:St):Bool:=(s.bare&&!(s.op==1))||(s.bare&&s.pairs.any fun p=>!p.val.isEmpty)
def c20a (s:St):Bool:=!s.from_.isEmpty&&!(s.op==5)
def c20b (s:St):Bool:=!s.mode.isEmpty&&!(s.op==5)&&!(s.op==6)&&!(s.op==8)
def c20c (s:St):Bool:=s.force&&!(s.op==7)
def c4a (s:St):Bool:=!s.pairs.isEmpty&&!prB s
def c4b (s:St):Bool:=!s.words.isEmpty&&(prB s||exB s)
def c4c (s:St):Bool:=!s.docs.isEmpty&&!(s.op==5)
def c4d (s:St):Bool:=!s.exec.isEmpty&&!exB s
def numN (s:St):Nat:=s.words.length+s.pairs.length+s.exec.length
def c31 (s:St):Bool:=!s.from_.isEmpty&&!digitsR s.from_&&!stageR s.from_&&!refR s.from_
def c16 (s:St):Bool:=!s.mode.isEmpty&&!modeR s.mode
theorem emp {α:Type} (l:List α):l.isEmpty=false↔¬ l=[]:=by cases l <;> simp
theorem if_congr {α:Sort _} {p q:Prop} [Decidable p] [Decidable q] {x y x' y':α} (h:p↔q) (hx:x=x') (hy:y=y'):(if p then x else y)=if q then x' else y':=by
 subst hx hy
 by_cases hp:p
 · rw [if_pos hp,if_pos (h.1 hp)]
 · rw [if_neg hp,if_neg (fun hq=>hp (h.2 hq))]
theorem field_b (s:St):fieldsL s=if c20a s||c20b s||c20c s then 20 else if c4a s||c4b s||c4c s||c4d s||baB s then 4 else 0:=by
 have h1:((s.from_≠[]∧s.op≠5)∨(s.mode≠[]∧s.op≠5∧s.op≠6∧s.op≠8)∨(s.force=true∧s.op≠7))↔(c20a s||c20b s||c20c s)=true:=by simp only [c20a,c20b,c20c,Bool.or_eq_true,Jy,emp,Bool.not_eq_true',Jr,and_assoc,or_assoc,ne_eq]
 have h2:((s.pairs≠[]∧¬ (s.op=1∨s.op=2∨s.op=3))∨(s.words≠[]∧(s.op=1∨s.op=2∨s.op=3∨s.op=13∨s.op=14))∨(s.docs≠[]∧s.op≠5)∨(s.exec≠[]∧¬ (s.op=13∨s.op=14))∨(s.bare=true∧s.op≠1)∨(s.bare=true∧∃ p∈s.pairs,p.val≠[]))↔(c4a s||c4b s||c4c s||c4d s||baB s)=true:=by simp only [c4a,c4b,c4c,c4d,baB,prB,exB,Bool.or_eq_true,Jy,emp,Bool.not_eq_true',Jr,Jx,Bool.or_eq_false_iff,and_assoc,or_assoc,ne_eq,not_or,List.any_eq_true]
 unfold fieldsL;rw [if_congr h1 rfl (if_congr h2 rfl rfl)]
theorem number_b (s:St):numbersL s=if decide (numN s<least s.op) then 2 else if decide (most s.op<numN s)&&decide (most s.op<64) then 3 else if decide (most s.op<numN s) then 5 else if c31 s then 31 else if c16 s then 16 else 0:=by
 have h1:(s.from_≠[]∧digitsR s.from_=false∧stageR s.from_=false∧refR s.from_=false)↔c31 s=true:=by simp only [c31,Jy,emp,Bool.not_eq_true',and_assoc]
 have h2:(s.mode≠[]∧modeR s.mode=false)↔c16 s=true:=by simp only [c16,Jy,emp,Bool.not_eq_true']
 unfold numbersL;dsimp only;exact if_congr (by rw [Jj];exact Iff.rfl) rfl (if_congr (by rw [Jy,Jj,Jj];exact Iff.rfl) rfl (if_congr (by rw [Jj];exact Iff.rfl) rfl (if_congr h1 rfl (if_congr h2 rfl rfl))))
theorem open_pre (w:List UInt8):([60,60]:List UInt8).isPrefixOf w=Ck.opening w:=by
 unfold Ck.opening;rcases w with _ | ⟨a,_ | ⟨b,t⟩⟩
 · rfl
 · simp [List.isPrefixOf]
 · simp [List.isPrefixOf,Bool.beq_comm]
def bodyW (e:UInt8) (ds0:List Lx.Dc):Nat ⊕ List Lx.Dc→Nat
 | .inl z=>z
 | .inr (_::_)=>26
 | .inr []=>docsL e ds0
theorem bodyL_eq (s:St) (e:UInt8):bodyL s e=bodyW e s.docs (wordsL s.op e s.words s.docs):=by unfold bodyL;rcases wordsL s.op e s.words s.docs with z | _ | ⟨d,r⟩ <;> rfl
section
variable {op:Int} {e:UInt8} {w:List UInt8} {r:List (List UInt8)} {ds:List Lx.Dc}
theorem wordsL_plain (h:op≠5∨opening w=false):wordsL op e (w::r) ds=if wordL e w≠0 then .inl (wordL e w) else wordsL op e r ds:=by
 conv=>lhs;unfold wordsL
 rw [if_pos h]
theorem wordsL_last (h:op=5) (h2:opening w=true) (hr:r=[]):wordsL op e (w::r) ds=.inl 4:=by
 conv=>lhs;unfold wordsL
 rw [if_neg (by rintro (h3 | h3);exact h3 h;rw [h2] at h3;cases h3),if_pos hr]
theorem wordsL_hit (h:op=5) (h2:opening w=true) (hr:r≠[]) {t:List UInt8} {q:Bool} {d:Lx.Dc} (ho:opensL (w.drop 2)=some (t,q)) (h3:d.name=t) (h4:d.raw=q):wordsL op e (w::r) (d::ds)=wordsL op e r ds:=by
 conv=>lhs;unfold wordsL
 rw [if_neg (by rintro (h3 | h3);exact h3 h;rw [h2] at h3;cases h3),if_neg hr,ho];show (if d.name=t∧d.raw=q then _ else _)=_;rw [if_pos (And.intro h3 h4)]
theorem wordsL_none (h:op=5) (h2:opening w=true) (hr:r≠[]) (ho:opensL (w.drop 2)=none):wordsL op e (w::r) ds=.inl 26:=by
 conv=>lhs;unfold wordsL
 rw [if_neg (by rintro (h3 | h3);exact h3 h;rw [h2] at h3;cases h3),if_neg hr,ho]
theorem wordsL_empty (h:op=5) (h2:opening w=true) (hr:r≠[]):wordsL op e (w::r) []=.inl 26:=by
 conv=>lhs;unfold wordsL
 rw [if_neg (by rintro (h3 | h3);exact h3 h;rw [h2] at h3;cases h3),if_neg hr];cases opensL (w.drop 2) <;> rfl
theorem wordsL_miss (h:op=5) (h2:opening w=true) (hr:r≠[]) {t:List UInt8} {q:Bool} {d:Lx.Dc} (ho:opensL (w.drop 2)=some (t,q)) (h3:¬ (d.name=t∧d.raw=q)):wordsL op e (w::r) (d::ds)=.inl 26:=by
 conv=>lhs;unfold wordsL
 rw [if_neg (by rintro (h3 | h3);exact h3 h;rw [h2] at h3;cases h3),if_neg hr,ho];show (if d.name=t∧d.raw=q then _ else _)=_;rw [if_neg h3]
end
theorem stepL_chain (s:St) (e:UInt8):stepL s e=chain (decide (s.op<1)||decide (14<s.op)) ((textsL s).any badT) (c20a s||c20b s||c20c s) (c4a s||c4b s||c4c s||c4d s||baB s) (decide (numN s<least s.op)) (decide (most s.op<numN s)&&decide (most s.op<64)) (decide (most s.op<numN s)) (c31 s) (c16 s) (if pairsL s.op e s.pairs≠0 then pairsL s.op e s.pairs else bodyL s e):=by
 unfold stepL;rw [field_b,number_b];have h1:(s.op<1∨14<s.op)↔(decide (s.op<1)||decide (14<s.op))=true:=by simp only [Bool.or_eq_true,Jj]
 rw [if_congr h1 rfl rfl];obtain ⟨a,ha⟩:∃ b,(decide (s.op<1)||decide (14<s.op))=b:=⟨_,rfl⟩
 obtain ⟨b,hb⟩:∃ b,(textsL s).any badT=b:=⟨_,rfl⟩
 obtain ⟨c,hc⟩:∃ b,(c20a s||c20b s||c20c s)=b:=⟨_,rfl⟩
 obtain ⟨d,hd⟩:∃ b,(c4a s||c4b s||c4c s||c4d s||baB s)=b:=⟨_,rfl⟩
 obtain ⟨f,hf⟩:∃ b,decide (numN s<least s.op)=b:=⟨_,rfl⟩
 obtain ⟨g,hg⟩:∃ b,(decide (most s.op<numN s)&&decide (most s.op<64))=b:=⟨_,rfl⟩
 obtain ⟨h,hh⟩:∃ b,decide (most s.op<numN s)=b:=⟨_,rfl⟩
 rw [ha,hb,hc,hd,hf,hg,hh];unfold chain;cases a <;> try rfl
 cases b <;> try rfl
 cases c <;> try rfl
 cases d <;> try rfl
 cases f <;> try rfl
 cases g <;> try rfl
 cases h <;> try rfl
 cases c31 s <;> try rfl
 cases c16 s <;> rfl
end Ck
namespace Ck
theorem ZY (e:UInt8):∀ (a b:List Sg) (names:List (List UInt8)),stagesL e names (a++b)=match stagesL e names a with
  | some x=>some x
  | none=>stagesL e (names++a.map (·.name)) b
 | [],b,names=>by simp [stagesL]
 | s::a,b,names=>by
  rw [List.cons_append,stagesL,stagesL]
  split
  · rfl
  · cases h:zE e s.steps with
    | some x=>rfl
    | none =>simp only;rw [ZY e a b];simp [List.append_assoc]
theorem Zj (e:UInt8) (names:List (List UInt8)) (s:Sg) (h:stageL e names s=0):stagesL e names [s]=zE e s.steps:=by rw [stagesL,if_neg (by simp [h])];cases zE e s.steps <;> rfl
def more (l:Sg) (s:St):Sg:={ l with steps:=l.steps++[s] }
theorem alone {f:Fl} {a:List Sg} {l:Sg} (s:St) (hs:f.stages=a++[l]) (h:fileL f=none):
  fileL { f with stages:=a++[more l s] }=if 512≤countL f then some (5,0) else if stepL s f.escape≠0 then some (stepL s f.escape,s.line) else none:=by
 have hc:countL { f with stages:=a++[more l s] }=countL f+1:=by simp only [countL,hs,more,List.map_append,List.sum_append,List.map_cons,List.map_nil,List.sum_cons,List.sum_nil,Jf,List.length_singleton];omega
 unfold fileL at h
 split at h
 · cases h
 · rename_i h1
   split at h
   · cases h
   · split at h
     · cases h
     · rename_i h3;have h3':=not_or.1 h3;unfold fileL;rw [if_neg h1,if_neg (by simp),hc];have hl:({ f with stages:=a++[more l s] }:Fl).stages.length=f.stages.length:=by rw [hs];simp
       rw [hl]
       by_cases hm:512≤countL f
       · rw [if_pos (.inr (by omega)),if_pos hm]
       · rw [if_neg (by omega),if_neg hm];cases ha:yt f.escape f.args with
         | some x=>rw [ha] at h;cases h
         | none =>
          rw [ha] at h;simp only at h;show stagesL f.escape [] (a++[more l s])=_;rw [hs,ZY] at h;rw [ZY];cases hx:stagesL f.escape [] a with
          | some x=>rw [hx] at h;cases h
          | none =>
           rw [hx] at h;simp only at h ⊢
           by_cases hz:stageL f.escape ([]++a.map (·.name)) l=0
           · rw [Zj _ _ _ hz] at h;rw [Zj _ _ (more l s) hz];show zE f.escape (l.steps++[s])=_;rw [Xv,h];simp only [zE]
           · rw [stagesL,if_pos hz] at h;cases h
def one (s:St) (e:UInt8):Fl:=⟨e,[],[⟨1,scratch,[],[s]⟩]⟩
theorem one_is (s:St) (e:UInt8) (he:e=92∨e=96):fileL (one s e)=if stepL s e≠0 then some (stepL s e,s.line) else none:=by
 have hz:stageL e [] ⟨1,scratch,[],[s]⟩=0:=by rcases he with rfl | rfl <;> rfl
 unfold fileL one;rw [if_neg (by rcases he with rfl | rfl <;> simp),if_neg (by simp),if_neg (by simp [countL])];show stagesL e [] [⟨1,scratch,[],[s]⟩]=_;rw [Zj _ _ _ hz];simp only [zE]
end Ck
namespace Ck
def cutO (b:Int):Option (Nat × Int)→Option (Nat × Int)
 | some x=>if x.2≤b then some x else none
 | none=>none
def upSt (b:Int) (l:List St):List St:=l.filter fun s=>decide (s.line≤b)
def upG (b:Int) (l:List Sg):List Sg:=(l.filter fun s=>decide (s.line≤b)).map fun s=>{ s with steps:=upSt b s.steps }
def Rise:Int→List St→Prop
 | _,[]=>True
 | lo,s::r=>lo<s.line∧Rise s.line r
def Yo:Int→List St→Int
 | lo,[]=>lo
 | _,s::r=>Yo s.line r
def RiseG:Int→List Sg→Prop
 | _,[]=>True
 | lo,s::r=>lo<s.line∧Rise s.line s.steps∧RiseG (Yo s.line s.steps) r
theorem Rise.lt:∀ {l:List St} {lo:Int},Rise lo l→∀ s∈l,lo<s.line∧s.line≤Yo lo l
 | [],_,_,_,hs=>by cases hs
 | x::r,lo,⟨h1,h2⟩,s,hs=>by
  have htop:x.line≤Yo x.line r:=by
   clear hs s
   induction r generalizing x lo with
   | nil=>exact Int.le_refl _
   | cons y r ih =>have h3:=ih y x.line h2.1 h2.2;show x.line≤Yo y.line r;have:=h2.1;omega
  show lo<s.line∧s.line≤Yo x.line r;rcases Kn.1 hs with rfl | hs
  · exact ⟨h1,htop⟩
  · have:=h2.lt s hs;omega
theorem Qv {l:List St} {lo:Int} (h:Rise lo l):lo≤Yo lo l:=by
 cases l with
 | nil=>exact Int.le_refl _
 | cons s r=>have:=h.lt s (by simp);omega
theorem RiseG.lt:∀ {l:List Sg} {lo:Int},RiseG lo l→∀ s∈l,lo<s.line∧∀ x∈s.steps,lo<x.line
 | [],_,_,_,hs=>by cases hs
 | y::r,lo,⟨h1,h2,h3⟩,s,hs=>by
  rcases Kn.1 hs with rfl | hs
  · exact ⟨h1,fun x hx=>by have:=h2.lt x hx;omega⟩
  · have ht:=Qv h2;obtain ⟨q1,q2⟩:=h3.lt s hs;exact ⟨by omega,fun x hx=>by have:=q2 x hx;omega⟩
theorem Ue {b:Int} {l:List St} (h:∀ s∈l,b<s.line):upSt b l=[]:=by unfold upSt;rw [List.filter_eq_nil_iff];intro s hs;have:=h s hs;simp;omega
theorem YJ {b:Int} {l:List Sg} (h:∀ s∈l,b<s.line):upG b l=[]:=by unfold upG;rw [List.map_eq_nil_iff,List.filter_eq_nil_iff];intro s hs;have:=h s hs;simp;omega
theorem Zi {e:UInt8}:∀ {l:List St} {x:Nat × Int},zE e l=some x→∃ s∈l,x.2=s.line
 | [],x,h=>by cases h
 | s::r,x,h=>by
  rw [zE] at h
  split at h
  · injection h with h;subst h;exact ⟨s,by simp,rfl⟩
  · obtain ⟨t,ht,e⟩:=Zi h;exact ⟨t,by simp [ht],e⟩
theorem ZQ {e:UInt8}:∀ {l:List St} {x:Nat × Int},yt e l=some x→∃ s∈l,x.2=s.line
 | [],x,h=>by cases h
 | s::r,x,h=>by
  rw [yt] at h
  split at h
  · injection h with h;subst h;exact ⟨s,by simp,rfl⟩
  · split at h
    · injection h with h;subst h;exact ⟨s,by simp,rfl⟩
    · obtain ⟨t,ht,e⟩:=ZQ h;exact ⟨t,by simp [ht],e⟩
theorem Zx {e:UInt8}:∀ {l:List Sg} {names:List (List UInt8)} {x:Nat × Int},stagesL e names l=some x→∃ s∈l,x.2=s.line∨∃ t∈s.steps,x.2=t.line
 | [],_,x,h=>by cases h
 | s::r,_,x,h=>by
  rw [stagesL] at h
  split at h
  · injection h with h;subst h;exact ⟨s,by simp,.inl rfl⟩
  · split at h
    · rename_i y hy;injection h with h;subst h;obtain ⟨t,ht,e⟩:=Zi hy;exact ⟨s,by simp,.inr ⟨t,ht,e⟩⟩
    · obtain ⟨t,ht,e⟩:=Zx h;exact ⟨t,by simp [ht],e⟩
theorem cut_in {b:Int} {x:Nat × Int} (h:x.2≤b):cutO b (some x)=some x:=if_pos h
theorem cut_out {b:Int} {x:Nat × Int} (h:¬ x.2≤b):cutO b (some x)=none:=if_neg h
theorem Xd {b:Int} {o:Option (Nat × Int)} (h:∀ x,o=some x→b<x.2):cutO b o=none:=by
 cases o with
 | none=>rfl
 | some x =>have:=h x rfl;exact cut_out (by omega)
theorem WC {e:UInt8} {b:Int}:∀ {l:List St} {lo:Int},Rise lo l→zE e (upSt b l)=cutO b (zE e l)
 | [],_,_=>rfl
 | s::r,lo,hr=>by
  by_cases hs:s.line≤b
  · have e1:upSt b (s::r)=s::upSt b r:=by unfold upSt;rw [List.filter_cons,if_pos (by simpa using hs)]
    rw [e1,zE,zE]
    split
    · rw [cut_in (by exact hs)]
    · exact WC hr.2
  · have hall:∀ t∈s::r,b<t.line:=fun t ht=>by
     rcases Kn.1 ht with rfl | ht
     · omega
     · have:=hr.2.lt t ht;omega
    rw [Ue hall,Xd]
    · rfl
    · intro x hx;obtain ⟨t,ht,q⟩:=Zi hx;have:=hall t ht;omega
theorem UD {e:UInt8} {b:Int}:∀ {l:List St} {lo:Int},Rise lo l→yt e (upSt b l)=cutO b (yt e l)
 | [],_,_=>rfl
 | s::r,lo,hr=>by
  by_cases hs:s.line≤b
  · have e1:upSt b (s::r)=s::upSt b r:=by unfold upSt;rw [List.filter_cons,if_pos (by simpa using hs)]
    rw [e1,yt,yt]
    split
    · rw [cut_in (by exact hs)]
    · split
      · rw [cut_in (by exact hs)]
      · exact UD hr.2
  · have hall:∀ t∈s::r,b<t.line:=fun t ht=>by
     rcases Kn.1 ht with rfl | ht
     · omega
     · have:=hr.2.lt t ht;omega
    rw [Ue hall,Xd]
    · rfl
    · intro x hx;obtain ⟨t,ht,q⟩:=ZQ hx;have:=hall t ht;omega
theorem Xw {e:UInt8} {b:Int}:∀ {l:List Sg} {lo:Int} {names:List (List UInt8)},RiseG lo l→stagesL e names (upG b l)=cutO b (stagesL e names l)
 | [],_,_,_=>rfl
 | s::r,lo,names,⟨h1,h2,h3⟩=>by
  have htop:=Qv h2
  by_cases hs:s.line≤b
  · have e1:upG b (s::r)={ s with steps:=upSt b s.steps }::upG b r:=by unfold upG;rw [List.filter_cons,if_pos (by simpa using hs)];rfl
    have e2:stageL e names { s with steps:=upSt b s.steps }=stageL e names s:=rfl;rw [e1,stagesL,stagesL,e2]
    split
    · rw [cut_in (by exact hs)]
    · show (match zE e (upSt b s.steps) with | some x=>some x | none=>stagesL e (names++[s.name]) (upG b r))=_;rw [WC h2];cases hx:zE e s.steps with
      | none=>exact Xw h3
      | some x =>
       by_cases hxb:x.2≤b
       · rw [cut_in hxb]
       · rw [cut_out hxb];obtain ⟨t,ht,q⟩:=Zi hx;have q1:=h2.lt t ht;rw [YJ]
         · rfl
         · intro y hy;have:=(h3.lt y hy).1;omega
  · have hall:∀ t∈s::r,b<t.line∧∀ x∈t.steps,b<x.line:=fun t ht=>by
     rcases Kn.1 ht with rfl | ht
     · exact ⟨by omega,fun x hx=>by have:=h2.lt x hx;omega⟩
     · obtain ⟨q1,q2⟩:=h3.lt t ht;exact ⟨by omega,fun x hx=>by have:=q2 x hx;omega⟩
    rw [YJ fun t ht=>(hall t ht).1,Xd]
    · rfl
    · intro x hx;obtain ⟨t,ht,q | ⟨y,hy,q⟩⟩:=Zx hx
      · have:=(hall t ht).1;omega
      · have:=(hall t ht).2 y hy;omega
end Ck
namespace Ck
def upTo (b:Int) (g:Fl):Fl:=⟨g.escape,upSt b g.args,if upG b g.stages=[] then [⟨b+1,scratch,[],[]⟩] else upG b g.stages⟩
theorem Vu (b:Int):∀ l:List Sg,((upG b l).map (·.steps.length)).sum≤(l.map (·.steps.length)).sum
 | []=>Jd _
 | s::r=>by
  have ih:=Vu b r;unfold upG at ih ⊢;have hf:(upSt b s.steps).length≤s.steps.length:=(List.filter_sublist).length_le;rw [List.filter_cons]
  split
  · simp only [List.map_cons,List.sum_cons] at ih ⊢;omega
  · simp only [List.map_cons,List.sum_cons] at ih ⊢;omega
theorem first {g:Fl} (b:Int) (he:g.escape=92∨g.escape=96) (h1:g.stages≠[]) (h2:g.stages.length≤32) (h3:countL g≤512) (hr:Rise 0 g.args) (hg:RiseG (Yo 0 g.args) g.stages):fileL (upTo b g)=cutO b (fileL g):=by
 have he':¬ (g.escape≠92∧g.escape≠96):=by rcases he with h | h <;> simp [h]
 have hl:(upG b g.stages).length≤g.stages.length:=by unfold upG;rw [Jo];exact (List.filter_sublist).length_le
 have ha:(upSt b g.args).length≤g.args.length:=(List.filter_sublist).length_le;have hs:=Vu b g.stages;have hz:stagesL g.escape [] [⟨b+1,scratch,[],[]⟩]=none:=by
  rw [Zj]
  · rfl
  · rcases he with h | h <;> rw [h] <;> rfl
 have e1:fileL g=match yt g.escape g.args with
   | some x=>some x
   | none=>stagesL g.escape [] g.stages:=by
  unfold fileL;rw [if_neg he',if_neg h1,if_neg (by omega)]
  all_goals (cases yt g.escape g.args <;> rfl)
 have e2:fileL (upTo b g)=match yt g.escape (upSt b g.args) with
   | some x=>some x
   | none=>stagesL g.escape [] (upG b g.stages):=by
  unfold fileL;have c1:¬ ((upTo b g).escape≠92∧(upTo b g).escape≠96):=he';rw [if_neg c1];unfold upTo
  by_cases hn:upG b g.stages=[]
  · rw [if_pos hn,if_neg (by simp),if_neg (by simp only [countL,List.length_singleton,List.map_cons,List.map_nil,List.sum_cons,List.sum_nil,Jp] at *;omega)];simp only;rw [hn,hz];rfl
  · rw [if_neg hn,if_neg hn,if_neg (by simp only [countL] at *;omega)]
    all_goals (cases yt g.escape (upSt b g.args) <;> rfl)
 rw [e1,e2,UD hr];cases hx:yt g.escape g.args with
 | none=>exact Xw hg
 | some x =>
  by_cases hxb:x.2≤b
  · rw [cut_in hxb]
  · rw [cut_out hxb];obtain ⟨t,ht,q⟩:=ZQ hx;have q1:=hr.lt t ht;have hn:upG b g.stages=[]:=YJ fun y hy=>by have:=(hg.lt y hy).1;omega
    rw [hn];rfl
def numA:Int→List St→List St
 | _,[]=>[]
 | n,s::r=>{ s with line:=n+1 }::numA (n+1) r
def numG:Int→List Sg→List Sg
 | _,[]=>[]
 | n,s::r=>⟨n+1,s.base,s.name,numA (n+1) s.steps⟩::numG (n+1+s.steps.length) r
theorem X9:∀ (l:List St) (n:Int),Yo n (numA n l)=n+l.length
 | [],n=>by simp [numA,Yo]
 | s::r,n=>by show Yo (n+1) (numA (n+1) r)=_;rw [X9 r (n+1),Ji];omega
theorem YZ:∀ (l:List St) (n:Int),Rise n (numA n l)
 | [],_=>trivial
 | s::r,n=>⟨by show n<n+1;omega,YZ r (n+1)⟩
theorem XD:∀ (l:List Sg) (n:Int),RiseG n (numG n l)
 | [],_=>trivial
 | s::r,n=>⟨by show n<n+1;omega,YZ s.steps (n+1),by show RiseG (Yo (n+1) (numA (n+1) s.steps)) _;rw [X9];exact XD r _⟩
theorem Yk:∀ (l:List St) (n:Int),(numA n l).length=l.length
 | [],_=>rfl
 | _::r,n=>by rw [numA,Ji,Ji,Yk r]
theorem numG_len:∀ (l:List Sg) (n:Int),(numG n l).length=l.length
 | [],_=>rfl
 | _::r,n=>by rw [numG,Ji,Ji,numG_len r]
theorem Y0:∀ (l:List Sg) (n:Int),((numG n l).map (·.steps.length)).sum=(l.map (·.steps.length)).sum
 | [],_=>rfl
 | s::r,n=>by rw [numG];simp only [List.map_cons,List.sum_cons];rw [Yk,Y0 r]
def numbered (f:Fl):Fl:=⟨f.escape,numA 0 f.args,numG f.args.length f.stages⟩
theorem numbered_first {f:Fl} (b:Int) (he:f.escape=92∨f.escape=96) (h1:f.stages≠[]) (h2:f.stages.length≤32) (h3:countL f≤512):fileL (upTo b (numbered f))=cutO b (fileL (numbered f)):=by
 have hc:countL (numbered f)=countL f:=by show (numA 0 f.args).length+((numG f.args.length f.stages).map (·.steps.length)).sum=_;rw [Yk,Y0];rfl
 refine first b he (fun h=>h1 ?_) (by show (numG _ _).length≤32;rw [numG_len];exact h2) (by omega) (YZ _ _) ?_
 · have h:numG f.args.length f.stages=[]:=h;have:=numG_len f.stages f.args.length;rw [h] at this;exact Ki this.symm
 · show RiseG (Yo 0 (numA 0 f.args)) (numG f.args.length f.stages);rw [X9,Int.zero_add];exact XD _ _
end Ck
end Go.Proofs.YtdaejggcjjdhkaaGreatDoor
