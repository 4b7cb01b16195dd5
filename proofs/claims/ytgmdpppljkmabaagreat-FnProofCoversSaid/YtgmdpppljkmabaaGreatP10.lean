/- Parts of the proof: walks of functions and plain laws. -/
import Derived.Test.YtgmdpppljkmabaaGreatP0
import Derived.Test.YtgmdpppljkmabaaGreatP9
import Derived.Test.YtgmdpppljkmabaaGreatP6
import Derived.Test.YtgmdpppljkmabaaGreatP4
import Derived.Test.YtgmdpppljkmabaaGreatP2
import Derived.Test.YtgmdpppljkmabaaGreatP5
import Derived.WalkSpells
import Derived.Test.YtgmdpppljkmabaaGreatP1
import Derived.Test.YtgmdpppljkmabaaGreatP3
set_option maxRecDepth 100000
set_option maxHeartbeats 16000000
namespace Go.Proofs.YtgmdpppljkmabaaGreat
open Go Go.RowKit
def ay (n:aj) (r v:Nat):Int:=(bC n r).getD v 0
def gV (n:aj) (r v:Nat):Int:=match (n.ends.getD v []).findIdx? (fun e=>decide (0<ay n r v)&&decide (ay n r e.1.toNat=ay n r v-1))with | some k=>(k:Int) | none => -1
def qL (n:aj) (r:Nat):List Int:=(List.range n.ends.length).map (gV n r)
def li (n:aj) (v:Nat):Int:=gV n (am n v) v
def ou (n:aj) (r v:Nat):Int:=if ay n r v<0 then 0 else ay n r v
def ib (n:aj) (v:Nat) (q:Int):Nat:=((n.ends.getD v []).getD q.toNat (0,0)).1.toNat
def lj (n:aj) (r v:Nat):Option Nat:=if 0<=gV n r v then some (ib n v (gV n r v)) else none
def dH (n:aj) (v:Nat):Int:=ay n (am n v) v
def jQ (n:aj) (v:Nat):Option Nat:=if 0<=li n v then some (ib n v (li n v)) else none
theorem pt (n:aj) (r v:Nat):(gV n r v = -1/\∀e∈n.ends.getD v [],¬(0<ay n r v/\ay n r e.1.toNat=ay n r v-1))\/(∃k:Nat,gV n r v=(k:Int)/\k<(n.ends.getD v []).length/\0<ay n r v/\ay n r (ib n v k)=ay n r v-1/\((n.ends.getD v []).getD k (0,0))∈n.ends.getD v []):=by
 unfold gV
 cases h:(n.ends.getD v []).findIdx? (fun e=>decide (0<ay n r v)&&decide (ay n r e.1.toNat=ay n r v-1)) with
 | none=>
  left
  rw[List.findIdx?_eq_none_iff]at h;refine⟨rfl,fun e he hc=>?_⟩
  have:=h e he
  rw[decide_eq_true hc.1,decide_eq_true hc.2]at this;cases this
 | some k=>
  right
  rw[List.findIdx?_eq_some_iff_getElem]at h;obtain⟨hk,h1,-⟩:=h;rw[Bool.and_eq_true]at h1
  have e:(n.ends.getD v []).getD k (0,0)=(n.ends.getD v [])[k]:=by rw[zDd,List.getElem?_eq_getElem hk];rfl
  refine⟨k,rfl,hk,of_decide_eq_true h1.1,?_,?_⟩
  ·unfold ib;rw[Int.toNat_natCast,e];exact of_decide_eq_true h1.2
  ·rw[e];exact List.getElem_mem hk
theorem ko {n:aj} (hn:ak n=true) {v:Nat} {e:Int×Int} (he:e∈n.ends.getD v []):v<n.ends.length/\0<=e.1/\e.1<n.ends.length:=by
 rcases Nat.lt_or_ge v n.ends.length with h | h
 ·have h1:n.ends[v]?=some (n.ends.getD v []):=by rw[zDd,List.getElem?_eq_getElem h];rfl
  exact⟨h,(bV hn h1).2 e he⟩
 ·rw[zDd,List.getElem?_eq_none h]at he;simp at he
theorem kp {n:aj} {v:Nat} {e:Int×Int} (he:e∈n.ends.getD v []) (h0:0<=e.1):((e.1.toNat:Nat):Int)∈dW n (v:Int):=by
 unfold dW;rw[Int.toNat_natCast,Int.toNat_of_nonneg h0];exact List.mem_map.2 ⟨e,he,rfl⟩
theorem lF {n:aj} (hn:ak n=true) {r v:Nat} (hr:r<n.ends.length) (hv:v<n.ends.length):0<=ay n r v↔hZ n r v:=gH hn hr hv
theorem fo {n:aj} (hn:ak n=true) {r v:Nat} (_:r<n.ends.length) (h0:0<=gV n r v):v<n.ends.length/\ib n v (gV n r v)<n.ends.length/\0<ay n r v/\ay n r (ib n v (gV n r v))=ay n r v-1/\hZ n v (ib n v (gV n r v))/\(gV n r v).toNat<(n.ends.getD v []).length:=by
 rcases pt n r v with⟨h1,-⟩ | ⟨k,h1,h2,h3,h4,h5⟩
 ·omega
 ·rw[h1];obtain⟨a,b,c⟩:=ko hn h5;refine⟨a,?_,h3,h4,?_,by simpa using h2⟩
  ·unfold ib;rw[Int.toNat_natCast];omega
  ·refine hZ.refl.step ?_
   have:=kp h5 b
   unfold ib;rw[Int.toNat_natCast];exact this
theorem trR {n:aj} (hn:ak n=true) {r:Nat} (hr:r<n.ends.length):Tr n.ends.length (ou n r) (lj n r):=by
 refine⟨fun v p _ hp=>?_,fun v _=>by unfold ou;split <;> omega⟩
 unfold lj at hp
 by_cases h:0<=gV n r v
 ·rw[if_pos h]at hp;cases hp;obtain⟨h1,h2,h3,h4,-,-⟩:=fo hn hr h;refine⟨h2,?_⟩;unfold ou;rw[h4,if_neg (by omega),if_neg (by omega)];omega
 ·rw[if_neg h]at hp;cases hp
theorem O6 {n:aj} (hn:ak n=true):Tr n.ends.length (dH n) (jQ n):=by
 refine⟨fun v p hv hp=>?_,fun v hv=>?_⟩
 ·unfold jQ li at hp
  have hr:=(bA hn hv).2.1
  by_cases h:0<=gV n (am n v) v
  ·rw[if_pos h]at hp;cases hp;obtain⟨h1,h2,h3,h4,h5,-⟩:=fo hn hr h;refine⟨h2,?_⟩;unfold dH;rw[<- gJ hn hv h5,h4];omega
  ·rw[if_neg h]at hp;cases hp
 ·exact(lF hn (bA hn hv).2.1 hv).2 ((bA hn hv).1.symm hn hv)
theorem Bt {n:aj} (hn:ak n=true) {r:Nat} (hr:r<n.ends.length):∀(f w v:Nat),w<n.ends.length->(dH n w).toNat<=f->am n w=r->pT (ou n r) (lj n r) w v=pT (dH n) (jQ n) w v
 | f,w,v,hw,hf,hl=>by
  have hT:=O6 hn;have hR:=trR hn hr;rw[ix hR hw,ix hT hw]
  have e:lj n r w=jQ n w:=by unfold jQ li;rw[hl];rfl
  rw[e]
  cases hp:jQ n w with
  | none=>rfl
  | some y=>
   obtain⟨h1,h2⟩:=hT.some_ w y hw hp;have h3:=hT.pos y h1
   have hy:am n y=r:=by
    unfold jQ li at hp
    by_cases h:0<=gV n (am n w) w
    ·rw[if_pos h]at hp;cases hp;obtain⟨-,-,-,-,h5,-⟩:=fo hn (bA hn hw).2.1 h
     rw[<- gJ hn hw h5];exact hl
    ·rw[if_neg h]at hp;cases hp
   cases f with
   | zero=>omega
   | succ f=>
    simp only[];rw[Bt hn hr f y v h1 (by omega) hy]
theorem rJ {n:aj} (hn:ak n=true):∀(f w v:Nat),w<n.ends.length->(dH n w).toNat<=f->pT (dH n) (jQ n) w v=true->am n w=am n v
 | f,w,v,hw,hf,ha=>by
  have hT:=O6 hn;rw[ix hT hw,Bool.or_eq_true]at ha;rcases ha with ha | ha
  ·rw[eq_of_beq ha]
  ·cases hp:jQ n w with
   | none=>rw[hp]at ha;simp at ha
   | some y=>
    rw[hp]at ha;obtain⟨h1,h2⟩:=hT.some_ w y hw hp;have h3:=hT.pos y h1
    have hy:am n w=am n y:=by
     unfold jQ li at hp
     by_cases h:0<=gV n (am n w) w
     ·rw[if_pos h]at hp;cases hp;obtain⟨-,-,-,-,h5,-⟩:=fo hn (bA hn hw).2.1 h;exact gJ hn hw h5
     ·rw[if_neg h]at hp;cases hp
    cases f with
    | zero=>omega
    | succ f=>rw[hy];exact rJ hn f y v h1 (by omega) ha
theorem Ka {n:aj} (hn:ak n=true) {v:Nat} (hv:v<n.ends.length):oq n.ends.length (ou n (am n v)) (lj n (am n v)) v=oq n.ends.length (dH n) (jQ n) v:=by
 have hr:=(bA hn hv).2.1;unfold oq;refine List.countP_congr fun w hw=>?_
 have DS:=List.mem_range.1 hw
 by_cases e:am n w=am n v
 ·rw[Bt hn hr _ w v DS (Nat.le_refl _) e]
 ·have e1:pT (dH n) (jQ n) w v=false:=by
   rw[Bool.eq_false_iff];exact fun h=>e (rJ hn _ w v DS (Nat.le_refl _) h)
  have e2:pT (ou n (am n v)) (lj n (am n v)) w v=false:=by
   rw[ix (trR hn hr) DS]
   have h1:¬0<=ay n (am n v) w:=fun h=>e (by
    have h2:=(lF hn hr DS).1 h;have h3:=gJ hn hr h2;rw[l4 hn hv]at h3
    exact h3.symm)
   have h2:lj n (am n v) w=none:=by
    unfold lj;rw[if_neg];intro h
    have:=(fo hn hr h).2.2.1
    omega
   have h3:(w==v)=false:=by
    rw[beq_eq_false_iff_ne];intro h;exact e (by rw[h])
   rw[h2,h3];rfl
  rw[e1,e2]
theorem nd {n:aj} (hn:ak n=true) {v:Nat} (hv:v<n.ends.length):li n v<0↔v=am n v:=by
 have hs:=bA hn hv;have FA:hZ n (am n v) v:=hs.1.symm hn hv;unfold li;have hd:=nQ hn hs.2.1;constructor
 ·intro h;rcases pt n (am n v) v with⟨h1,h2⟩ | ⟨k,h1,-⟩
  ·refine Decidable.byContradiction fun iJ=>?_
   obtain⟨y,hy1,Ut,hy3⟩:=hd.par v FA iJ;have MJ:=ph hn hs.2.1 hy1;have h4:=tb hn MJ Ut;obtain⟨j,q,h5⟩:=l0.1 h4;have II:=hd.pos y hy1;refine h2 _ (List.mem_of_getElem? h5) ⟨?_,?_⟩
   ·unfold ay;omega
   ·show ay n (am n v) ((y:Int)).toNat=_
    rw[Int.toNat_natCast]
    unfold ay;omega
  ·omega
 ·intro h;rcases pt n (am n v) v with⟨h1,-⟩ | ⟨k,h1,h2,h3,-⟩
  ·omega
  ·exfalso
   have h4:=hd.zero;rw[<- h]at h3 h4;unfold ay at h3;omega
def f_ (n:aj) (v:Nat):Int:=((n.ids.getD (am n v) 0*100+dH n v)*10+(if li n v<0 then 9 else li n v))*2+((oq n.ends.length (dH n) (jQ n) v%2:Nat):Int)
def lG (n:aj) (v:Nat):Int:=n.ids.getD (jP n v).toNat 0*100+ay n (jP n v).toNat v
def Bv (n:aj) (s:Int):List Int:=
 if s=1 then (if kK n=true then lf n else [])
 else if s=2 then (match kn n with | some (some l)=>l | _=>[])
 else if s=3 then (List.range n.ends.length).map (dH n)
 else if s=4 then (List.range n.ends.length).map (lG n)
 else (List.range n.ends.length).map (f_ n)
def fT (n:aj) (v i:Nat):Int×Int:=(n.ends.getD v []).getD i (0,0)
def lk (n:aj) (v i:Nat):Int:=(bC (ij n (fk v i (fT n v i))) v).getD (fT n v i).1.toNat 0
def oO (out d:Int):Int:=if 0<=d/\(out=0\/d+1<out) then d+1 else out
def oQ (n:aj) (v:Nat) (out:Int) (i:Nat):Int:=if fT n v i=((v:Int),(i:Int)) then out else oO out (lk n v i)
def yR (n:aj) (v k:Nat) (out:Int):Int:=(List.range k).foldl (oQ n v) out
def Mf (n:aj) (k:Nat):Int:=(List.range k).foldl (fun out v=>yR n v (n.ends.getD v []).length out) 0
def yS (n:aj):Int:=Mf n n.ends.length
theorem rK (n:aj) (v k:Nat) (out:Int):yR n v (k+1) out=oQ n v (yR n v k out) k:=by unfold yR;rw[List.range_succ,List.foldl_append];rfl
theorem uG (n:aj) (k:Nat):Mf n (k+1)=yR n k (n.ends.getD k []).length (Mf n k):=by unfold Mf;rw[List.range_succ,List.foldl_append];rfl
theorem GO {out d:Int} (h:0<=out):0<=oO out d:=by unfold oO;split <;> omega
theorem DT {out d:Int} (h:0<=out):oO out d=0↔out=0/\d<0:=by
 unfold oO
 split
 ·rename_i h1;omega
 ·rename_i h1;omega
theorem GP {n:aj} {v:Nat} {out:Int} {i:Nat} (h:0<=out):0<=oQ n v out i:=by
 unfold oQ
 split
 ·exact h
 ·exact GO h
def xN (n:aj) (v i:Nat):Prop:=fT n v i=((v:Int),(i:Int))\/lk n v i<0
theorem DU {n:aj} {v:Nat} {out:Int} {i:Nat} (h:0<=out):oQ n v out i=0↔out=0/\xN n v i:=by
 unfold oQ xN
 split
 ·rename_i e;exact⟨fun h=>⟨h,.inl e⟩,fun h=>h.1⟩
 ·rename_i e
  rw[DT h];exact⟨fun h=>⟨h.1,.inr h.2⟩,fun h=>⟨h.1,h.2.resolve_left e⟩⟩
theorem Bw {n:aj} {v k:Nat} {out:Int} (h:0<=out):0<=yR n v k out:=by
 induction k with
 | zero=>exact h
 | succ k ih=>rw[rK];exact GP ih
theorem GQ {n:aj} {v k:Nat} {out:Int} (h:0<=out):yR n v k out=0↔out=0/\∀i,i<k->xN n v i:=by
 induction k with
 | zero=>exact⟨fun h=>⟨h,fun i hi=>by omega⟩,fun h=>h.1⟩
 | succ k ih=>
  rw[rK,DU (Bw h),ih];constructor
  ·rintro⟨⟨h1,h2⟩,h3⟩
   exact⟨h1,fun i hi=>by rcases Nat.lt_or_ge i k with h4 | h4;exact h2 i h4;rw[show i=k by omega];exact h3⟩
  ·rintro⟨h1,h2⟩;exact⟨⟨h1,fun i hi=>h2 i (by omega)⟩,h2 k (by omega)⟩
theorem M7 {n:aj} {k:Nat}:0<=Mf n k:=by
 induction k with
 | zero=>exact Int.le_refl _
 | succ k ih=>rw[uG];exact Bw ih
theorem Kb {n:aj} {k:Nat}:Mf n k=0↔∀v,v<k->∀i,i<(n.ends.getD v []).length->xN n v i:=by
 induction k with
 | zero=>exact⟨fun _ v hv=>by omega,fun _=>rfl⟩
 | succ k ih=>
  rw[uG,GQ M7,ih];constructor
  ·rintro⟨h1,h2⟩ v hv;rcases Nat.lt_or_ge v k with h4 | h4
   ·exact h1 v h4
   ·rw[show v=k by omega];exact h2
  ·intro h;exact⟨fun v hv=>h v (by omega),h k (by omega)⟩
theorem fJ {n:aj} {v i:Nat} {f:Int×Int}:aZ n v i f↔i<(n.ends.getD v []).length/\fT n v i=f:=by
 unfold aZ fT
 rw[List.getElem?_eq_some_iff];constructor
 ·rintro⟨h,rfl⟩;exact⟨h,ao (List.getElem?_eq_getElem h)⟩
 ·rintro⟨h,rfl⟩;exact⟨h,(ao (List.getElem?_eq_getElem h)).symm⟩
def uH (n:aj):Bool:=(List.range n.ends.length).any fun v=>(List.range (n.ends.getD v []).length).any fun i=>decide (fT n v i=((v:Int),(i:Int)))
theorem M8 {n:aj} (hn:ak n=true):J9 n=uH n:=by
 rw[Bool.eq_iff_iff]
 unfold J9 uH
 simp only[List.any_eq_true,List.mem_range,decide_eq_true_eq,Bool.and_eq_true];constructor
 ·rintro⟨e,he,h1,h2⟩;obtain⟨v,i,f,hv,hp,hk,rfl⟩:=bN.1 he;obtain⟨h3,h4⟩:=fJ.1 hp;refine⟨v,hv,i,h3,?_⟩;rw[h4];exact Prod.ext h1.symm h2.symm
 ·rintro⟨v,hv,i,hi,h⟩;refine⟨_,bN.2 ⟨v,i,_,hv,fJ.2 ⟨hi,h⟩,?_,rfl⟩,rfl,rfl⟩;unfold ja;simp
theorem M9 {n:aj} (hn:ak n=true):DQ n=(!uH n&&yS n==0):=by
 unfold DQ;rw[M8 hn];cases hs:uH n
 ·simp only[Bool.not_false,Bool.true_and];rw[Bool.eq_iff_iff,decide_eq_true_eq,beq_iff_eq,ug hn];unfold yS;rw[Kb]
  have Zr:∀v i,v<n.ends.length->i<(n.ends.getD v []).length->fT n v i≠((v:Int),(i:Int)):=by
   intro v i hv hi e
   have:uH n=true:=List.any_eq_true.2 ⟨v,List.mem_range.2 hv,List.any_eq_true.2 ⟨i,List.mem_range.2 hi,decide_eq_true e⟩⟩
   rw[hs]at this;cases this
  have tG:∀v i,v<n.ends.length->∀(hi:i<(n.ends.getD v []).length),(¬hZ (ij n (fk v i (fT n v i))) v (fT n v i).1.toNat↔xN n v i):=by
   intro v i hv hi;have hp:aZ n v i (fT n v i):=fJ.2 ⟨hi,rfl⟩;obtain⟨p1,p2,p3,p4,p5⟩:=cY hn hp;have hc:=rE hn (fk v i (fT n v i)) (kc hn hp);have eG:(ij n (fk v i (fT n v i))).ends.length=n.ends.length:=by simp[ij]
   have:=gH hc (v:=v) (w:=(fT n v i).1.toNat) (by omega) (by omega)
   unfold xN;rw[<- this];unfold lk;constructor
   ·intro h;exact .inr (by omega)
   ·rintro(h | h)
    ·exact absurd h (Zr v i hv hi)
    ·omega
  constructor
  ·intro h v hv i hi;exact(tG v i hv hi).1 (h v i _ (fJ.2 ⟨hi,rfl⟩))
  ·intro h v i f hp;obtain⟨h1,h2⟩:=fJ.1 hp;have hv:=(cY hn hp).1;subst h2;exact(tG v i hv h1).2 (h v hv i h1)
 ·simp
def okB (n:aj) (l:List Int):Prop:=∀v,v<n.ends.length->(0<=l.getD v 0/\l.getD v 0<=2)/\∀e∈n.ends.getD v [],l.getD e.1.toNat 0≠l.getD v 0
theorem getD_set_ne {l:List Int} {v j:Nat} {x:Int} (h:j≠v):(l.set v x).getD j 0=l.getD j 0:=by
 rw[zDd,List.getElem?_set_ne (Ne.symm h),<- zDd]
structure rL (n:aj) (l:List Int) (v:Nat):Prop where
 st:St n.ends.length 2 l v
 acK:∀a,a<v->a<n.ends.length->∀e∈n.ends.getD a [],e.1.toNat<v->l.getD e.1.toNat 0≠l.getD a 0
theorem qM {l:List Int} {es:List (Int×Int)} {x:Int}:x∈aR l es↔∃e∈es,l.getD e.1.toNat 0=x:=by
 unfold aR;rw[List.mem_map]
theorem DV {n:aj} {l:List Int} {v:Nat}:kg n l v=true↔∀e∈n.ends.getD v [],l.getD e.1.toNat 0≠l.getD v 0:=by
 unfold kg;rw[Bool.not_eq_true',List.contains_eq_mem,decide_eq_false_iff_not,qM];constructor
 ·intro h e he hc;exact h ⟨e,he,hc⟩
 ·rintro h ⟨e,he,hc⟩;exact h e he hc
theorem xO {n:aj} (hn:ak n=true) {a:Nat} {e:Int×Int} (he:e∈n.ends.getD a []):∃f∈n.ends.getD e.1.toNat [],f.1.toNat=a/\e.1.toNat<n.ends.length/\a<n.ends.length:=by
 obtain⟨i,hi⟩:=List.getElem?_of_mem he;have h:=cY hn (v:=a) (i:=i) (f:=e) hi;refine⟨_,List.mem_of_getElem? h.2.2.2.2,by simp,by omega,h.1⟩
theorem rL.back {n:aj} {l:List Int} {v:Nat} (h:rL n l v) (h0:v≠0):rL n (l.set v (-1)) (v-1):=by
 refine⟨h.st.back h0,fun a ha Uu e he M_=>?_⟩
 rw[getD_set_ne (by omega),getD_set_ne (by omega)];exact h.acK a (by omega) Uu e he (by omega)
theorem rL.stay {n:aj} {l:List Int} {v:Nat} (h:rL n l v) (hv:v<n.ends.length) (hm:l.getD v 0≠2):rL n (l.set v (l.getD v 0+1)) v:=by
 refine⟨(h.st.up hv hm).stay,fun a ha Uu e he M_=>?_⟩
 rw[getD_set_ne (by omega),getD_set_ne (by omega)];exact h.acK a ha Uu e he M_
theorem rL.on {n:aj} (hn:ak n=true) {l:List Int} {v:Nat} (h:rL n l v) (hv:v<n.ends.length) (hm:l.getD v 0≠2) (hg:kg n (l.set v (l.getD v 0+1)) v=true):rL n (l.set v (l.getD v 0+1)) (v+1):=by
 refine⟨(h.st.up hv hm).on (by omega),fun a ha Uu e he M_=>?_⟩
 have hg:=DV.1 hg
 by_cases e1:a=v
 ·subst e1;exact hg e he
 ·by_cases e2:e.1.toNat=v
  ·obtain⟨f,hf,h1,-,-⟩:=xO hn he
   have:=hg f (by rw[<- e2];exact hf)
   rw[h1]at this;rw[e2];exact Ne.symm this
  ·rw[getD_set_ne e2,getD_set_ne e1];exact h.acK a (by omega) Uu e he (by omega)
theorem tn {n:aj} (hn:ak n=true):∀(f:Nat) (l:List Int) (v s:Nat) (r:List Int),rL n l v->v<=n.ends.length->ik n f l v s=some (some r)->okB n r/\r.length=n.ends.length
 | 0,l,v,s,r,_,_,hr=>by simp[ik]at hr
 | f+1,l,v,s,r,h,hv,hr=>by
  have g_:=h.st.len;unfold ik at hr
  by_cases h1:(l.length:Int)<=(v:Int)
  ·rw[if_pos h1]at hr;cases hr;refine⟨fun a ha=>⟨h.st.lo a (by omega) ha,fun e he=>?_⟩,g_⟩
   obtain⟨-,-,-,IL,-⟩:=xO hn he;exact h.acK a (by omega) ha e he (by omega)
  ·rw[if_neg h1,if_neg (by omega)]at hr;rw[Int.toNat_natCast]at hr;have O7:v<n.ends.length:=by omega
   by_cases h2:l.getD v 0=2
   ·rw[if_pos h2]at hr
    by_cases h0:v=0
    ·subst h0
     cases f with
     | zero=>simp[ik]at hr
     | succ f=>
      unfold ik at hr;rw[if_neg (by omega),if_pos (by omega)]at hr;cases hr
    ·rw[show(v:Int)-1=((v-1:Nat):Int)by omega]at hr
     exact tn hn f _ _ s r (h.back h0) (by omega) hr
   ·rw[if_neg h2]at hr
    by_cases h3:s=200000
    ·rw[if_pos h3]at hr;cases hr
    ·rw[if_neg h3]at hr;cases hg:kg n (l.set v (l.getD v 0+1)) v
     ·rw[hg,if_neg (by simp)]at hr;exact tn hn f _ _ _ r (h.stay O7 h2) hv hr
     ·rw[hg,if_pos rfl,show(v:Int)+1=((v+1:Nat):Int)by omega]at hr
      exact tn hn f _ _ _ r (h.on hn O7 h2 hg) (by omega) hr
theorem rL.start (n:aj):rL n (List.replicate n.ends.length (-1)) 0:=⟨St.start _ _ (by omega),fun a ha=>by omega⟩
theorem DW {n:aj} (hn:ak n=true) {r:List Int} (h:kn n=some (some r)):okB n r/\r.length=n.ends.length:=by
 unfold kn at h;exact tn hn 400002 _ 0 0 r (rL.start n) (Nat.zero_le _) h
theorem iA {P:Program} {ops:Array Oper} {w0:World} {dD:Act->World->Prop} {o:Oper} {rest:List Oper} {A:Act} {W:World} {ob:Obj} {v:Value} (hw:Region.wanted o (yielded ops A.tmps)=true) (h:(execOp A.eval o).run P W=.ok (.value v) (W.alloc ob)) (hS:ab w0 W)
  (hr:∀W',W'=W.alloc ob->ab w0 W'->bh P ops (ab w0) dD rest (A.put o.dst v) W'):bh P ops (ab w0) dD (o::rest) A W:=
 xA hw h (ad _ hS) (hr _ rfl (ad _ hS))
def kX (w:World) (k:Nat):World:={ w with heap:=w.heap.extract 0 k }
theorem kq (w:World) {k:Nat} (hk:k<=w.heap.size):(kX w k).heap.size=k:=by simp[kX];omega
theorem ne (w:World) {k:Nat} (hk:k<=w.heap.size):ab (kX w k) w:=by
 refine⟨rfl,rfl,rfl,by rw[kq w hk];exact hk,fun i hi=>?_⟩
 rw[kq w hk]at hi;simp[kX,Array.getElem?_extract]
 omega
theorem si {w0 w:World} {k:Nat} (h:ab w0 w) (hk:k<=w.heap.size) (h0:w0.heap.size<=k):ab w0 (kX w k):=by
 refine⟨h.os,h.tape,h.output,by rw[kq w hk];exact h0,fun i hi=>?_⟩
 have:=h.block i hi
 simp only[kX,Array.getElem?_extract];rw[if_pos (by omega)];simpa using this
def aS (W:World) (b:Nat) (x y z:Value):Prop:=W.heap[b]?=some (.cells #[x,y,z] 27)
theorem aS.box {W:World} {b:Nat} {x y z:Value} (h:aS W b x y z):aY W b x y z:=⟨_,h⟩
theorem aS.lt {W:World} {b:Nat} {x y z:Value} (h:aS W b x y z):b<W.heap.size:=(Array.getElem?_eq_some_iff.1 h).1
theorem aS.since {W W':World} {b:Nat} {x y z:Value} (h:aS W b x y z) (hs:ab W W'):aS W' b x y z:=(hs.block b h.lt).trans h
def mg (W:World) (B:Nat) (u:Value):Prop:=∃b,u=.pointer (some ⟨b,0,none⟩)/\B<=b/\aS W b (.slice none 0 0) (.slice none 0 0) (.slice none 0 0)
theorem mg.keep {W W':World} {B:Nat} {u:Value} (h:mg W B u) (hs:ab W W'):mg W' B u:=by
 obtain⟨b,h1,h2,h3⟩:=h;exact⟨b,h1,h2,h3.since hs⟩
theorem mg.new (W:World) {B:Nat} (h:B<=W.heap.size):mg (W.alloc (.cells #[.slice none 0 0,.slice none 0 0,.slice none 0 0] 27)) B (.pointer (some ⟨W.heap.size,0,none⟩)):=
 ⟨_,rfl,h,by show(W.heap.push _)[W.heap.size]?=_;rw[Array.getElem?_push_size]⟩
def j4 (W:World) (B n:Nat) (u:Value):Prop:=∃g,u=.slice (some ⟨g,0,none⟩) n n/\B<=g/\oH W B (.slice (some ⟨g,0,none⟩) n n) (List.replicate n []) [g]
theorem j4.keep {W W':World} {B n:Nat} {u:Value} (h:j4 W B n u) (hs:ab W W'):j4 W' B n u:=by
 obtain⟨g,h1,h2,h3⟩:=h;exact⟨g,h1,h2,jw.keep h3 hs.below⟩
theorem qN {W:World} {base b:Nat} {v x y z:Value} {xs:List Int} (h:Own W base v xs) (hb:aS W b x y z):v.ownBlock≠some b:=by
 rcases h.2 with⟨rfl,_⟩ | ⟨g,cap,cur,rfl,_,hc,_⟩
 ·simp[Value.ownBlock]
 ·intro e;simp[Value.ownBlock]at e
  subst e;unfold aS at hb;rw[hb]at hc;simp at hc
theorem Na {W:World} {base iI g:Nat} {v:Value} {n c:Nat} {xs:List Int} {fv:List (List (Int×Int))} {S:List Nat} (h:Own W base v xs) (hg:oH W iI (.slice (some ⟨g,0,none⟩) n c) fv S):v.ownBlock≠some g:=by
 rcases h.2 with⟨rfl,_⟩ | ⟨q,cap,cur,rfl,_,hc,_⟩
 ·simp[Value.ownBlock]
 ·intro e;simp[Value.ownBlock]at e
  subst e;obtain⟨vs,Ss,h1,_⟩:=hg;rcases h1.2 with⟨h0,_⟩ | ⟨q',sD,Nb,h0,_,Bb,_⟩
  ·cases h0
  ·cases h0;rw[hc]at Bb;simp at Bb
theorem Kc {W:World} {iI g b:Nat} {x y z:Value} {n c:Nat} {fv:List (List (Int×Int))} {S:List Nat} (h:aS W b x y z) (hg:oH W iI (.slice (some ⟨g,0,none⟩) n c) fv S):b≠g:=by
 intro e;subst e;obtain⟨vs,Ss,h1,_⟩:=hg;rcases h1.2 with⟨h0,_⟩ | ⟨q',sD,Nb,h0,_,Bb,_⟩
 ·cases h0
 ·cases h0;unfold aS at h;rw[h]at Bb;simp at Bb
theorem GR {w w0:World} {ops:Array Oper} {rest:List Oper} {o:Oper} {a:Act} {Q:Exit->Act->World->Prop} (iG:o.guard=none) (s x:Operand)
  (ho:o.op=.call { callee:=.builtin .append,args:=#[s,x],argTypes:=#[81,81] }) {v u:Value} {xs ys:List (Int×Int)} {T:List Nat} (hs:a.eval s=v) (h:dU w w0.heap.size v xs T) (hy:yg w u ys)
  (hx:a.eval x=u) (hl:xs.length+ys.length<=1000000) (vK:ab w0 w)
  (k:∀v' w' T',dU w' w0.heap.size v' (xs++ys) T'->(∀j∈T',j∈T\/j=w.heap.size)->aX T w w'->ab w0 w'->wpList Tryz.prog ops Q rest (a.put o.dst v') w'):wpList Tryz.prog ops Q (o::rest) a w:=by
 obtain⟨i0,hi,gx,dh,dt⟩:=info_parts Ai;obtain⟨A,c,rfl,_,_,hA⟩:=hy;have az:=fun q hq=>World.ownsRow.lt h.1 q hq
 rcases Nat.eq_zero_or_pos ys.length with h0 | h0
 ·have zE:ys=[]:=List.eq_nil_of_length_eq_zero h0;subst zE;refine wpList_plain iG fun K hK=>?_
  have dG:(Builtin.append_ #[81,81] o.type #[v,.slice A 0 c]).run Tryz.prog w=.ok v w:=by
   rcases h.1.2 with⟨rfl,lp⟩ | ⟨g,cap,cur,rfl,_,_,s8,_⟩
   ·cases A <;> simp[Builtin.append_,run_underlying Tryz.underlying81,sizeOf,typeInfo,hi,Builtin.lenOf,Builtin.firstCells,loadCells,loadCellsFrom,Result.andThen]
   ·cases A <;> simp[Builtin.append_,run_underlying Tryz.underlying81,sizeOf,typeInfo,hi,Builtin.lenOf,Builtin.firstCells,s8,storeCells,loadCells,loadCellsFrom,Result.andThen]
  simp only[List.length_nil]at hx;unfold Oper.wp;simp[execOp,ho,resolve,invoke,builtin,hs,hx,dG,Result.andThen]
  exact hK _ _ (k v w T (by simpa using h) (fun j hj=>.inl hj) (aX.refl _ _) vK)
 ·obtain⟨y0,II⟩:=aA ys 0 h0;obtain⟨b,off,rfl,_⟩:=hA 0 y0 II
  refine wpList_append_lies w iG s x 81 ho w0.heap.size 83 i0 _ 2 16 Tryz.underlying81 hi gx dh dt rfl (by decide) v xs.length (xs.flatMap mL) hs h.1 ⟨b,off,none⟩ ys.length c (ys.flatMap mL) hx (Ah ys)
   (by
    intro j u hj;have xm:=al hj;rw[Ah]at xm;obtain⟨e,he⟩:=aA ys (j/2) (by omega);obtain⟨b',n7,e',c1,c2⟩:=hA (j/2) e he;cases e';obtain⟨g1,g2⟩:=mM he;rw[Go.Addr.add_lit];rcases Nat.mod_two_eq_zero_or_one j with hm | hm
    ·have e1:j/2*2=j:=by omega
     rw[e1]at c1 g1;rw[g1]at hj
     rw[c1];exact hj
    ·have e1:j/2*2+1=j:=by omega
     rw[e1]at g2;rw[show off+j/2*2+1=off+j by omega]at c2
     rw[g2]at hj
     rw[c2];exact hj) (by intro u hu;obtain⟨x,_,hx⟩:=List.mem_flatMap.1 hu;simp[mL]at hx;rcases hx with rfl | rfl <;> rfl) h0 (by unfold maxLen;omega) (by omega) vK.below.size w.heap.size rfl ?_
  intro g cap w' q1 q2 q3 q4;have hT:=h.2
  refine k _ w' _ ⟨?_,rfl⟩ ?_ (by rw[hT];exact aX.acq q2) (Below.grown vK q2 vK.below.size (fun q hq=>(az q hq).1))
  ·rw[List.flatMap_append,List.length_append];exact q1
  ·intro j hj;simp[Value.ownBlock]at hj
   subst hj;rcases q3 with q3 | q3
   ·left;rw[hT,q3];simp
   ·exact .inr q3
theorem bu.ac1 {β:Type} {R:World->Nat->Value->β->List Nat->Prop} {e:TypeId} (L:fh R) {w w':World} {base g cap:Nat} {v u:Value} {xs:List β} {x:β} {S T:List Nat} (h:bu e R w base v xs S) (hu:R w base u x T) (hd:∀j∈T,j∉S)
  (vs:List Value) (Ss:List (List Nat)) (h1:w.ownsRow base e 1 v xs.length vs) (h2:Ss.length=xs.length) (h3:∀(k:Nat) u x T,vs[k]?=some u->xs[k]?=some x->Ss[k]?=some T->R w base u x T) (h4:S=v.ownBlock.toList++Ss.flatten) (h5:S.Nodup)
  (q1:w'.ownsRow base e 1 (.slice (some ⟨g,0,none⟩) (xs.length+1) cap) (xs.length+1) (vs++[u])) (q2:w.grownBy w' v.ownBlock) (q3:v.ownBlock=some g\/g=w.heap.size):
  ∃S',bu e R w' base (.slice (some ⟨g,0,none⟩) (xs.length+1) cap) (xs++[x]) S'/\(∀j∈S',j∈S\/j∈T\/j=w.heap.size):=by
 have hS:=(jv e L).range h;have hTr:=L.range hu;have CF:vs.length=xs.length:=by simpa using h1.1
 have tK:=h5;rw[h4,List.nodup_append]at tK
 have d_:∀j∈Ss.flatten,j∈S:=fun j hj=>by rw[h4];exact List.mem_append_right _ hj
 have eH:=aX.acq q2;have JB:∀j∈Ss.flatten,j∉v.ownBlock.toList:=fun j hj hv=>tK.2.2 j hv j hj rfl
 have Uv:∀j∈T,j∉v.ownBlock.toList:=fun j hj hv=>hd j hj (by rw[h4];exact List.mem_append_left _ hv)
 have hg:g∉Ss.flatten:=fun hg=>by
  rcases q3 with q3 | q3
  ·exact JB g hg (by rw[q3];simp)
  ·have:=(hS g (d_ g hg)).2;omega
 have Gc:g∉T:=fun hg=>by
  rcases q3 with q3 | q3
  ·exact Uv g hg (by rw[q3];simp)
  ·have:=(hTr g hg).2;omega
 refine⟨[g]++(Ss++[T]).flatten,⟨vs++[u],Ss++[T],?_,by simp[h2],?_,by simp[Value.ownBlock],?_⟩,?_⟩
 ·rw[List.length_append];exact q1
 ·intro k u' x' T' vZ CG rr;rcases Nat.lt_or_ge k xs.length with hk | hk
  ·rw[List.getElem?_append_left (by omega)]at vZ CG rr;exact L.only (h3 k u' x' T' vZ CG rr) eH (fun j hj=>JB j (List.mem_flatten.2 ⟨T',List.mem_of_getElem? rr,hj⟩))
  ·have kJ:k=xs.length:=by
    have:=al CG
    simp at this;omega
   subst kJ;rw[List.getElem?_append_right (Nat.le_refl _),Nat.sub_self]at CG;rw[<- CF,List.getElem?_append_right (Nat.le_refl _),Nat.sub_self]at vZ;rw[<- h2,List.getElem?_append_right (Nat.le_refl _),Nat.sub_self]at rr;simp at vZ CG rr
   subst vZ CG rr;exact L.only hu eH Uv
 ·rw[List.flatten_append,List.nodup_append];refine⟨by simp,?_,?_⟩
  ·rw[List.nodup_append];refine⟨tK.2.1,by simpa using L.nodup hu,?_⟩
   intro a ha b hb e;simp at hb
   subst e;exact hd a hb (d_ a ha)
  ·intro a ha b hb e;simp at ha
   subst e ha;rcases List.mem_append.1 hb with hb | hb
   ·exact hg hb
   ·simp at hb;exact Gc hb
 ·intro j hj;rw[List.flatten_append]at hj;rcases List.mem_append.1 hj with hj | hj
  ·simp at hj
   subst hj;rcases q3 with q3 | q3
   ·left;rw[h4,q3];simp
   ·exact .inr (.inr q3)
  ·rcases List.mem_append.1 hj with hj | hj
   ·exact .inl (d_ j hj)
   ·simp at hj;exact .inr (.inl hj)
theorem qO {w wT:World} {ops:Array Oper} {rest:List Oper} {o:Oper} {a:Act} {Q:Exit->Act->World->Prop} (iG:o.guard=none) (s x:Operand)
  (ho:o.op=.call { callee:=.builtin .append,args:=#[s,x],argTypes:=#[24,24] }) {base:Nat} {v ui un u:Value} {N:aj} {S T:List Nat} {es:List (Int×Int)} (hs:a.eval s=v) (h:ar w base v ui un N S)
  (b:Nat) (hx:a.eval x=.slice (some ⟨b,0,none⟩) 1 1) (hc:w.cell? ⟨b,0,none⟩=some u) (hu:dU w base u es T) (hd:∀j∈T,j∉S) (hl:N.ends.length+1<=1000000) (vK:ab wT w) (Mg:base<=w.heap.size) (hvT:∀q,v.ownBlock=some q->wT.heap.size<=q)
  (k:∀v' w' S',(∀q,v'.ownBlock=some q->v.ownBlock=some q\/q=w.heap.size)->ar w' base v' ui un { N with ends:=N.ends++[es] } S'->(∀j∈S',j∈S\/j∈T\/j=w.heap.size)->aX S w w'->ab wT w'->wpList Tryz.prog ops Q rest (a.put o.dst v') w'):wpList Tryz.prog ops Q (o::rest) a w:=by
 obtain⟨i0,hi,gx,dh,dt⟩:=info_parts Ff;have IF:=h.range;obtain⟨S1,S2,S3,h1,h2,h3,h4,h5⟩:=h;have h1b:=h1;obtain⟨vs,Ss,r1,r2,r3,r4,r5⟩:=h1;obtain⟨A,m,c,rfl⟩:=gj.one hu
 refine wpList_append_lies w iG s x 24 ho base 81 i0 _ 1 24 Tryz.underlying24 hi gx dh dt rfl (by decide) v N.ends.length vs hs r1 ⟨b,0,none⟩ 1 1 [.slice A m c] hx rfl
  (by intro j u hj;match j,hj with | 0,hj=>(simp at hj;subst hj;simpa[Addr.add]using hc) | j+1,hj=>simp at hj) (by simp[Value.oneCell']) (by omega) (by unfold maxLen;omega) (by omega) Mg w.heap.size rfl ?_
 intro g cap w' q1 q2 q3 q4;rw[h4,List.nodup_append]at h5;obtain⟨n1,n2,n3⟩:=h5
 have ju:∀j∈T,j∉S1:=fun j hj hS=>hd j hj (by rw[h4];exact List.mem_append_left _ hS)
 obtain⟨Su,o1,ox⟩:=bu.ac1 gj h1b hu ju vs Ss r1 r2 r3 r4 r5 q1 q2 q3;have eH:=aX.acq q2
 have hvS:∀j∈v.ownBlock.toList,j∈S1:=fun j hj=>by rw[r4];exact List.mem_append_left _ hj
 have d:∀j∈S2++S3,j∉v.ownBlock.toList:=fun j hj hv=>n3 j (hvS j hv) j hj rfl
 refine k _ w' (Su++(S2++S3)) (fun q hq=>by simp[Value.ownBlock]at hq;subst hq;exact q3) ⟨Su,S2,S3,?_,gm.only h2 eH (fun j hj=>d j (List.mem_append_left _ hj)),gm.only h3 eH (fun j hj=>d j (List.mem_append_right _ hj)),rfl,?_⟩ ?_ (eH.mono fun j hj=>by rw[h4];exact List.mem_append_left _ (hvS j hj)) (Below.grown vK q2 vK.below.size hvT)
 ·exact o1
 ·rw[List.nodup_append];refine⟨jw.nodup o1,n2,fun a ha b hb yk=>?_⟩
  subst yk;rcases ox a ha with h | h | h
  ·exact n3 a h a hb rfl
  ·exact hd a h (by rw[h4];exact List.mem_append_right _ hb)
  ·have:=(IF a (by rw[h4];exact List.mem_append_right _ hb)).2
   omega
 ·intro j hj;rcases List.mem_append.1 hj with hj | hj
  ·rcases ox j hj with h | h | h
   ·exact .inl (by rw[h4];exact List.mem_append_left _ h)
   ·exact .inr (.inl h)
   ·exact .inr (.inr h)
  ·exact .inl (by rw[h4];exact List.mem_append_right _ hj)
theorem ar.acD {w:World} {base g c n:Nat} {vi vn:Value} {N:aj} {S:List Nat} (h:ar w base (.slice (some ⟨g,0,none⟩) n c) vi vn N S) {k j:Nat} {es:List (Int×Int)} (hx:N.ends[k]?=some es) (hj:j<es.length):
  ∃gr cr,w.cell? ⟨g,k,none⟩=some (.slice (some ⟨gr,0,none⟩) es.length cr)/\es.length<=cr/\cr<=maxLen/\g∈S/\gr∈S/\g≠gr/\(w.frozen? ⟨gr,j*2,none⟩=false/\w.frozen? ⟨gr,j*2+1,none⟩=false)/\(∃z,w.cell? ⟨gr,j*2,none⟩=some z)/\(∃z,w.cell? ⟨gr,j*2+1,none⟩=some z) /\
   ∀y:Int×Int,ar ((w.setCell ⟨gr,j*2,none⟩ (.int .i64 y.1)).setCell ⟨gr,j*2+1,none⟩ (.int .i64 y.2)) base (.slice (some ⟨g,0,none⟩) n c) vi vn { N with ends:=N.ends.set k (es.set j y) } S:=by
 obtain⟨S1,S2,S3,h1,h2,h3,h4,h5⟩:=h;obtain⟨u,T,hu,hR,hT,tp⟩:=bu.acX gj h1 hx;have hnd:=(jv _ gj).nodup h1;obtain⟨_,_,_,_,_,Uw,_,kE⟩:=bu.at_ h1 hx;rw[h4,List.nodup_append]at h5;obtain⟨n1,n2,n3⟩:=h5;have OQ:=hR.1;rcases dF hR.1 with⟨rfl,h0⟩ | ⟨gr,cr,rfl,aN,bx,bB,vL⟩
 ·omega
 ·have QI:gr∈T:=by rw[hR.2];simp[Value.ownBlock]
  obtain⟨y0,II⟩:=aA es j hj;obtain⟨c1,c2,ff⟩:=dU.cells hR II
  have iJ:g≠gr:=fun e=>by
   subst e;obtain⟨vs,Ss,e1,_⟩:=h1;rcases e1.2 with⟨h0,_⟩ | ⟨q',sD,Nb,h0,_,Bb,_⟩
   ·cases h0
   ·cases h0;rcases OQ.2 with⟨h0,_⟩ | ⟨q'',abF,abG,h0,_,Ux,_⟩
    ·cases h0
    ·cases h0;rw[Bb]at Ux;simp at Ux
  refine⟨gr,cr,hu,bB,vL,by rw[h4];exact List.mem_append_left _ kE,by rw[h4];exact List.mem_append_left _ (hT gr QI),iJ,ff,⟨_,c1⟩,⟨_,c2⟩,fun y=>?_⟩
  have eH:aX T w ((w.setCell ⟨gr,j*2,none⟩ (.int .i64 y.1)).setCell ⟨gr,j*2+1,none⟩ (.int .i64 y.2)):=((aX.refl _ _).setCell (.inl QI) _).setCell (.inl QI) _;have d:∀q∈S2++S3,q∉T:=fun q hq hqT=>n3 q (hT q hqT) q hq rfl
  exact⟨S1,S2,S3,tp _ _ (dU.set hR hj y) eH,gm.only h2 eH (fun q hq=>d q (List.mem_append_left _ hq)),gm.only h3 eH (fun q hq=>d q (List.mem_append_right _ hq)),h4,by rw[h4,List.nodup_append];exact⟨n1,n2,n3⟩⟩
theorem GS {w:World} {b:Nat} {x y z:Value} (h:aS w b x y z):aS (kX w (b+1)) b x y z:=by
 have:=h.lt
 unfold aS at h ⊢
 simp only[kX,Array.getElem?_extract];rw[if_pos (by omega)];simpa using h
theorem aS.only {S:List Nat} {W W':World} {b:Nat} {x y z:Value} (h:aS W b x y z) (ho:aX S W W') (hb:b∉S):aS W' b x y z:=(ho.block b h.lt hb).trans h
theorem aS.acF {W:World} {b:Nat} {x y z:Value} (h:aS W b x y z) (u:Value):aS (W.setCell ⟨b,0,none⟩ u) b u y z:=by
 unfold aS at h ⊢
 simp[World.setCell,Array.getElem?_modify,h]
theorem aS.acI {W:World} {b:Nat} {x y z:Value} (h:aS W b x y z) (u:Value):aS (W.setCell ⟨b,1,none⟩ u) b x u z:=by
 unfold aS at h ⊢
 simp[World.setCell,Array.getElem?_modify,h]
theorem aS.acJ {W:World} {b:Nat} {x y z:Value} (h:aS W b x y z) (u:Value):aS (W.setCell ⟨b,2,none⟩ u) b x y u:=by
 unfold aS at h ⊢
 simp[World.setCell,Array.getElem?_modify,h]
theorem aS.other {W:World} {b:Nat} {x y z u:Value} {a:Addr} (h:aS W b x y z) (ha:b≠a.block):aS (W.setCell a u) b x y z:=(Below.heap_setCell W a u b ha).trans h
theorem rM {w:World} {base:Nat} {v ui un:Value} {fv:List (List (Int×Int))} {ids ins:List Int} {S1:List Nat} (hE:oH w base v fv S1) (h1:Own w base ui ids) (h2:Own w base un ins)
  (d1:∀j∈S1,ui.ownBlock≠some j) (d2:∀j∈S1,un.ownBlock≠some j) (d3:∀j,ui.ownBlock=some j->un.ownBlock≠some j):
  ar w base v ui un ⟨fv,ids,ins⟩ (S1++(ui.ownBlock.toList++un.ownBlock.toList)):=by
 refine⟨S1,_,_,hE,⟨h1,rfl⟩,⟨h2,rfl⟩,rfl,?_⟩;rw[List.nodup_append,List.nodup_append]
 refine⟨jw.nodup hE,⟨by cases ui.ownBlock <;> simp,by cases un.ownBlock <;> simp,?_⟩,?_⟩
 ·intro a ha b hb e;subst e;exact d3 a (by simpa using ha) (by simpa using hb)
 ·intro a ha b hb e;subst e;rcases List.mem_append.1 hb with hb | hb
  ·exact d1 a ha (by simpa using hb)
  ·exact d2 a ha (by simpa using hb)
theorem xP {w:World} {ops:Array Oper} {rest:List Oper} {o:Oper} {a:Act} {Q:Exit->Act->World->Prop} (iG:o.guard=none) (s x:Operand)
  (ho:o.op=.call { callee:=.builtin .append,args:=#[s,x],argTypes:=#[25,25] }) {base:Nat} {v:Value} {xs:List Int} (hs:a.eval s=v) (h:Own w base v xs) (A:Option Addr) (c:Nat) (hx:a.eval x=.slice A 0 c)
  (k:wpList Tryz.prog ops Q rest (a.put o.dst v) w):wpList Tryz.prog ops Q (o::rest) a w:=by
 obtain⟨i0,hi,gx,dh,dt⟩:=info_parts jt;refine wpList_plain iG fun K hK=>?_
 have dG:(Builtin.append_ #[25,25] o.type #[v,.slice A 0 c]).run Tryz.prog w=.ok v w:=by
  rcases h.2 with⟨rfl,lp⟩ | ⟨g,cap,cur,rfl,_,_,s8,_⟩
  ·cases A <;> simp[Builtin.append_,run_underlying Tryz.underlying25,sizeOf,typeInfo,hi,Builtin.lenOf,Builtin.firstCells,loadCells,loadCellsFrom,Result.andThen]
  ·cases A <;> simp[Builtin.append_,run_underlying Tryz.underlying25,sizeOf,typeInfo,hi,Builtin.lenOf,Builtin.firstCells,s8,storeCells,loadCells,loadCellsFrom,Result.andThen]
 unfold Oper.wp;simp[execOp,ho,resolve,invoke,builtin,hs,hx,dG,Result.andThen]
 exact hK _ _ k
theorem GU (w:World):dU (w.alloc (.cells #[] 83)) w.heap.size (.slice (some ⟨w.heap.size,0,none⟩) 0 0) [] [w.heap.size]:=by
 have:=World.ownsRow_lit (base:=w.heap.size) (e:=83) (size:=2) w #[] 0 (Nat.le_refl _) (by simp[maxLen]) (by simp)
 exact⟨this,rfl⟩
theorem lH (v:Value) (xs:List Int) (w:World) (h:aO w v xs) (hl:xs.length<=17592186044416):
  Calls Tryz.prog 179 #[v] w fun e w'=>∃u,e=.returned u/\Own w' w.heap.size u xs/\Below w.heap.size w w':=by
 rcases Nat.eq_zero_or_pos xs.length with h0 | h0
 ·obtain rfl:xs=[]:=List.eq_nil_of_length_eq_zero h0
  obtain⟨A,c,rfl,fg,hm,_⟩:=h;have ho:=fD w [] (by simp[maxLen]);simp only[List.map_nil,List.length_nil]at ho;have Ho:=zh ho;clear ho
  go_enter Tryz.func179,Tryz.ntmps179
  go_wp2_with (at_builtin;refine xP rfl _ _ rfl rfl Ho.out A c rfl ?_)
  go_wp2;go_ret;exact⟨_,rfl,Ho.out,ai _ _⟩
 ·exact Gl v xs w h h0 hl
theorem sj {P:Program} {ops:Array Oper} {S:World->Prop} {dD:Act->World->Prop} {o:Oper} {rest:List Oper} {A:Act} {W W':World} (hw:Region.wanted o (yielded ops A.tmps)=true) (h:(execOp A.eval o).run P W=.ok .skip W') (hS:S W')
  (hr:bh P ops S dD rest (A.put o.dst undef) W'):bh P ops S dD (o::rest) A W:=.inl ⟨hw,by rw[h];exact⟨hS,hr⟩⟩
theorem j6 (ve vi vn:Value) (n:aj) (w:World) (h:aC w ve vi vn n) (pj:n.ends.length<=1000) (dm:∀(k:Nat) (es:List (Int×Int)),n.ends[k]?=some es->es.length<=1000) (fO:iO n<=1048576):
  Calls Tryz.prog 137 #[.agg #[ve,vi,vn]] w (o_ w n):=by
 have uI:n.ids.length<=17592186044416:=by unfold iO at fO;omega
 have gT:n.acn.length<=17592186044416:=by unfold iO at fO;omega
 have yT:Hid (∀(k:Nat) (es:List (Int×Int)),n.ends[k]?=some es->es.length<=1000):=dm;have sk:=zh uI;have Hnl:=zh gT;clear uI gT dm fO
 obtain⟨w0,A,c,A2,c2,A3,c3,rfl,rfl,rfl,fg,hm,f8,fP,HA,bS,aT,H,dP,d9,dV⟩:=zB h;clear h
 obtain⟨wa,jC⟩:∃wa,wa=w0.alloc (.cells #[.slice none 0 0,.slice none 0 0,.slice none 0 0] 27):=⟨_,rfl⟩
 have ll:ab w0 wa:=by rw[jC];exact ad _ (aa _)
 have zH:Hid (wa.heap.size=w0.heap.size+1):=by show _=_;rw[jC];simp
 have CQ:Hid (∀X,ab wa X->aS X w0.heap.size (.slice none 0 0) (.slice none 0 0) (.slice none 0 0)):=fun X hX=>by
  refine aS.since (W:=wa) ?_ hX;rw[jC];show(w0.heap.push _)[w0.heap.size]?=_
  rw[Array.getElem?_push_size]
 have yU:=ag dP ll;have DX:=ag d9 ll;have DY:=ag dV ll;have SE:=zh (show ∀X,ab wa X->lx X (.slice A n.ends.length c) n.ends from fun X hX=>(H.out.keep (ll.after hX).below).es)
 have QJ:=zh (show ∀X,ab wa X->aO X (.slice A2 n.ids.length c2) n.ids from fun X hX=>by have:=H.out.keep (ll.after hX).below;exact this.2.1)
 have QK:=zh (show ∀X,ab wa X->aO X (.slice A3 n.acn.length c3) n.acn from fun X hX=>by have:=H.out.keep (ll.after hX).below;exact this.2.2)
 have Bx:=zh jC;have vT:=zh ll;clear jC ll dP d9 dV
 go_enter Tryz.func137,Tryz.ntmps137
 go_upto_region 1 with(fail);rw[<- bS.out,<- Bx.out];refine mO (w0:=wa) 9 [0,0,1,0,0,1,1,2,3] (fun _ W u=>mg W wa.heap.size u) (fun _ W W' u h hs=>h.keep hs) (by kernel_rfl) (by kernel_rfl) (aa _) ?_
 rw[show rB 2 ([0,0,1,0,0,1,1,2,3]:List Nat)=[7]from by decide]
 simp only[jM,List.take_succ_cons,List.take_zero,List.drop_succ_cons,List.drop_zero,if_true,if_false,reduceCtorEq,Nat.reduceEqDiff,reduceIte,Nat.zero_ne_one,Nat.one_ne_zero]
 iterate 4 (apply bv rfl;(intro W hW;go_simp;with_reducible rfl);simp only[zA])
 refine⟨?_,?_⟩
 ·intro j hj;obtain rfl:=List.mem_singleton.1 hj
  intro o ho;cases ho;refine⟨rfl,fun W hW=>?_⟩
  unfold j9
  go_simp
  all_goals (first | exact mg.new _ hW.below.size | exact⟨mg.new _ hW.below.size,ad _ (aa _)⟩)
 intro W hW;intro W1 h1;have yV:=ab.after hW h1;refine⟨rfl,?_⟩
 go_simp
 (with_reducible refine(lH _ n.ids W1 (QJ.out W1 yV) sk.out).mono ?_)
 rintro e W ⟨u1,rfl,ho,hb⟩;refine⟨_,rfl,hb,?_⟩;have hW:=yV.after (hb)
 have HI:=zh (show ∀X,ab W X->Own X wa.heap.size u1 n.ids from fun X hX=>(ho.since hX).mono yV.below.size);clear ho hb
 (try simp only[zA])
 intro W1 h1;have yV:=ab.after hW h1;refine⟨rfl,?_⟩
 go_simp
 (with_reducible refine(lH _ n.acn W1 (QK.out W1 yV) Hnl.out).mono ?_)
 rintro e W ⟨u2,rfl,ho,hb⟩;refine⟨_,rfl,hb,?_⟩;have hW:=yV.after (hb)
 have Nc:=zh (show ∀X,ab W X->Own X wa.heap.size u1 n.ids from fun X hX=>HI.out X ((h1.trans hb).after hX));have Nd:=zh (show ∀X,ab W X->Own X wa.heap.size u2 n.acn from fun X hX=>(ho.since hX).mono yV.below.size);have Uy:=zh (show ∀j,u1.ownBlock=some j->u2.ownBlock≠some j from fun j hj hk=>by have:=(World.ownsRow.lt (HI.out W1 h1) j hj).2;have:=(World.ownsRow.lt ho j hk).1;omega);clear ho hb HI;obtain⟨BI,dI,rfl,_⟩:=id (Nc.out W (aa _)).ints;obtain⟨BN,dN,rfl,_⟩:=id (Nd.out W (aa _)).ints
 (try simp only[zA])
 intro W1 h1;have yV:=ab.after hW h1;refine⟨rfl,?_⟩
 go_simp
 have Uz:=h1;have hW:=yV
 (try simp only[zA])
 intro us W h1 hU;have hW:=ab.after hW h1;have QL:(fun _ W u=>mg W wa.heap.size u) 7 W (us 7):=by first | exact hU 7 (by simp) | exact hU
 (try simp only[]at QL)
 simp only[ap,zG]
 (try simp only[zA])
 obtain⟨u7,O8⟩:∃x,x=us 7:=⟨_,rfl⟩
 rw[<- O8]at QL ⊢;clear O8;clear hU us
 obtain⟨ob,rfl,rN,dT⟩:=QL;have Nf:=zh (Nc.out _ (Uz.after h1));have pu:=zh (Nd.out _ (Uz.after h1));have FB:=zh dT;obtain⟨c0,c1,wI,f0,f1,f2⟩:=dT.box.cells
 refine sj (W':=?_) rfl ?_ ?_ ?_;rotate_left
 (go_simp;with_reducible rfl)
 exact(((hW.setCell rN _).setCell rN _).setCell rN _)
 (try simp only[zA])
 simp only[bh];have DZ:aS (((W.setCell ⟨ob,0,none⟩ (.slice none 0 0)).setCell ⟨ob,1,none⟩ (.slice BI n.ids.length dI)).setCell ⟨ob,2,none⟩ (.slice BN n.acn.length dN)) ob (.slice none 0 0) (.slice BI n.ids.length dI) (.slice BN n.acn.length dN):=((FB.out.acF _).acI _).acJ _;obtain⟨w4,gU⟩:∃w4,w4=((W.setCell ⟨ob,0,none⟩ (.slice none 0 0)).setCell ⟨ob,1,none⟩ (.slice BI n.ids.length dI)).setCell ⟨ob,2,none⟩ (.slice BN n.acn.length dN):=⟨_,rfl⟩
 rw[<- gU]at DZ ⊢
 have O9:Hid (ab wa w4):=by show ab _ _;rw[gU];exact(((hW.setCell rN _).setCell rN _).setCell rN _)
 have qP:aX [ob] W w4:=by rw[gU];exact((((aX.refl _ _).setCell (.inl (by simp)) _).setCell (.inl (by simp)) _).setCell (.inl (by simp)) _)
 have wh:=qN Nf.out FB.out;have pw:=qN pu.out FB.out
 have GV:Hid (ar w4 wa.heap.size (.slice none 0 0) (.slice BI n.ids.length dI) (.slice BN n.acn.length dN) ⟨[],n.ids,n.acn⟩ ((Value.slice BI n.ids.length dI).ownBlock.toList++(Value.slice BN n.acn.length dN).ownBlock.toList)/\ob∉(Value.slice BI n.ids.length dI).ownBlock.toList++(Value.slice BN n.acn.length dN).ownBlock.toList):=by
  show _/\_
  refine⟨?_,fun hm=>(List.mem_append.1 hm).elim (fun hm=>wh (by simpa using hm)) (fun hm=>pw (by simpa using hm))⟩
  have h1:Own w4 wa.heap.size (.slice BI n.ids.length dI) n.ids:=aG Nf.out (fun j hj=>qP.block j (World.ownsRow.lt Nf.out j (by simpa using hj)).2 (fun e=>wh (by simp at e;subst e;simpa using hj)))
  have h2:Own w4 wa.heap.size (.slice BN n.acn.length dN) n.acn:=aG pu.out (fun j hj=>qP.block j (World.ownsRow.lt pu.out j (by simpa using hj)).2 (fun e=>pw (by simp at e;subst e;simpa using hj)))
  exact rM (S1:=[]) ⟨[],[],World.ownsRow_nil _ _ _ _,rfl,fun k u x T h=>by simp at h,rfl,by simp⟩ h1 h2 (by simp) (by simp) Uy.out
 have GF:=zh DZ;have Kd:=zh rN;clear DZ gU qP wh pw Nc Nd Uy Nf pu FB c0 c1 wI f0 f1 f2 hW rN;have zI:=O9.out;go_wp2
 go_loopw [16] (fun i wr=>∃(k:Nat) (v:Value) (S:List Nat),k<=n.ends.length/\i=.int .i64 k/\ar wr wa.heap.size v (.slice BI n.ids.length dI) (.slice BN n.acn.length dN) ⟨n.ends.take k,n.ids,n.acn⟩ S/\ob∉S/\(∀q,v.ownBlock=some q->ob+1<=q)/\aS wr ob v (.slice BI n.ids.length dI) (.slice BN n.acn.length dN)/\ab wa wr) (fun i _=>n.ends.length-(intOf i).toNat)
 case atStart=>exact⟨0,_,_,Nat.zero_le _,rfl,by simpa using GV.out.1,GV.out.2,by simp[Value.ownBlock],GF.out,O9.out⟩
 case round=>
  obtain⟨k,v,S,hk,rfl,eH,By,QM,dT,bG⟩:=hrel;obtain⟨AV,cV,hV,_⟩:=id eH.read.1;obtain⟨mV,QN⟩:∃m,m=(n.ends.take k).length:=⟨_,rfl⟩
  simp only[<- QN]at hV;have HmV:=zh QN;clear QN;subst hV;have sJ:=zh eH;have D3:=zh By;have QO:=zh QM;have uJ:=zh dT;clear zI eH By QM
  by_cases az:k<n.ends.length
  ·obtain⟨es,bM⟩:=aA n.ends k az;obtain⟨b,tY,cr,ur,gh,wj,eD,dm⟩:=fi (SE.out wa (aa _)) bM;cases gh;have q5:=ae eD;have HE:=zh (show ∀X,ab wa X->yg X ur es from fun X hX=>dm.keep hX.below)
   have jZ:=zh bM;have Sy:=zh (yT.out k es bM);clear eD dm bM dT;go_upto_region 5 with(fail);obtain⟨wT,Mh⟩:∃wT,wT=kX wr (ob+1):=⟨_,rfl⟩
   have rC:ob+1<=wr.heap.size:=uJ.out.lt
   have UA:ab wT wr:=by rw[Mh];exact ne wr rC
   have SF:wT.heap.size=ob+1:=by rw[Mh];exact kq wr rC
   have hTb:aS wT ob (.slice AV mV cV) (.slice BI n.ids.length dI) (.slice BN n.acn.length dN):=by rw[Mh];exact GS uJ.out
   have SG:ab wa wT:=by rw[Mh];exact si bG rC (Nat.le_succ_of_le Kd.out)
   have t0:=ae hTb.box.cells.1;have q5T:=ag q5 SG;have HTs:=zh SF;have Yl:=zh SG;have le:=zh bG;have SH:=zh rC
   have lm:Hid (wT.heap.size<=wr.heap.size):=by show _<=_;rw[SF];exact rC
   clear Mh SF hTb SG bG q5 yU DX DY rC;refine eh (w0:=wT) 7 [false,false,true,false,true,true,true] (by kernel_rfl) (by kernel_rfl) (UA) ?_;simp only[er,dS,zT]
   iterate 3 (apply bv rfl;(intro W hW;go_simp;with_reducible rfl);simp only[zA])
   obtain⟨W,cS⟩:∃W,W=World.drew wr:=⟨_,rfl⟩
   rw[<- cS]
   have hW:ab wT W:=by rw[cS];exact ah (UA)
   (try have eY:=zh cS)
   (try clear cS)
   refine iA (v:=?_) (ob:=?_) rfl ?_ hW ?_;rotate_left 2
   (go_simp;first | with_reducible rfl | (refine⟨?_,?_⟩ <;> with_reducible rfl))
   intro w2 QP UB
   replace hW:=UB
   clear UB
   have fG:Hid (dU w2 wr.heap.size (.slice (some ⟨wr.heap.size,0,none⟩) 0 0) [] [wr.heap.size]):=by show dU _ _ _ _ _;rw[QP,eY.out];exact GU wr.drew
   have xQ:Hid (ab wr w2):=by show ab _ _;rw[QP,eY.out];exact ad _ (ah (aa _))
   rw[show W.heap.size=wr.heap.size from by rw[eY.out];rfl]
   clear QP eY
   (try simp only[zA])
   refine df (fun Q' HQ=>?_)
   (refine GR (w0:=wT) (v:=.slice (some ⟨wr.heap.size,0,none⟩) 0 0) (u:=ur) (xs:=[]) (ys:=es) (T:=[wr.heap.size]) rfl _ _ rfl rfl (gj.mono fG.out (lm.out)) (HE.out w2 (Yl.out.after hW)) rfl (by have:=Sy.out;simp;omega) hW ?_);intro v3 w3 T3 ex Ng rO jJ;refine HQ _ _ jJ ?_;replace hW:=jJ;have AC:Hid (ab wr w3):=(show ab _ _ from Below.trans xQ.out (rO.below _ xQ.out.below.size (by simp)));have UC:Hid (∀j∈T3,wr.heap.size<=j):=(fun j hj=>(Ng j hj).elim (fun h=>Nat.le_of_eq (List.mem_singleton.1 h).symm) (fun h=>by have:=xQ.out.below.size;omega));obtain⟨AQ,mQ,cQ,hvQ⟩:=gj.one ex;subst hvQ;have jy:=zh ex;clear jJ ex Ng rO
   (try simp only[zA])
   (try have eY:=zh cS)
   (try clear cS)
   refine iA (v:=?_) (ob:=?_) rfl ?_ hW ?_;rotate_left 2
   (go_simp;first | with_reducible rfl | (refine⟨?_,?_⟩ <;> with_reducible rfl))
   intro w5 kM nf
   replace hW:=nf
   clear nf
   have O_:Hid (dU w5 wa.heap.size (.slice AQ mQ cQ) es T3):=by show dU _ _ _ _ _;rw[kM];have h5:dU w3 wT.heap.size (.slice AQ mQ cQ) es T3:=(by simpa using jy.out);exact gj.mono (gj.keep h5 (ai _ _)) Yl.out.below.size
   have CR:Hid (w5.cell? ⟨w3.heap.size,0,none⟩=some (.slice AQ mQ cQ)):=by show _=_;rw[kM];simp
   have Dt:Hid (ab wr w5):=by show ab _ _;rw[kM];exact ad _ AC.out
   have Bz:=zh (sJ.out.keep Dt.out.below)
   have Hd5:=zh (show ∀j∈T3,j∉S from fun j hj hS=>by have:=UC.out j hj;have:=(sJ.out.range j hS).2;omega)
   have Hl5:Hid ((n.ends.take k).length+1<=1000000):=(by show _<=_;rw[List.length_take];omega)
   have CS:Hid (wa.heap.size<=w5.heap.size):=(Nat.le_trans (Yl.out.below.size) hW.below.size)
   have Hq5:Hid (∀q,(Value.slice AV mV cV).ownBlock=some q->wT.heap.size<=q):=(fun q hq=>by rw[HTs.out];exact QO.out q hq)
   clear kM
   (try simp only[zA])
   refine df (fun Q' HQ=>?_)
   (refine qO (wT:=wT) (v:=.slice AV mV cV) (u:=.slice AQ mQ cQ) rfl _ _ rfl rfl Bz.out w3.heap.size rfl CR.out O_.out Hd5.out Hl5.out hW CS.out Hq5.out ?_);intro v6 w6 S6 UD sO UE sP yx;refine HQ _ _ yx ?_;have Hv6:=zh UD;have FC:=zh sO;have HS6:=zh UE;have UF:=zh sP;replace hW:=yx;clear UD sO UE sP yx
   (try simp only[zA])
   simp only[bh];obtain⟨A6,c6,UG,_⟩:=id FC.out.read.1
   have FD:(n.ends.take k++[es]).length=k+1:=by simp;omega
   simp only[FD]at UG;subst UG;have GW:=zh ((uJ.out.since Dt.out).only UF.out D3.out);have aab:Hid (ab wa w6):=(Yl.out.after hW);obtain⟨c0,_,_,f0,_,_⟩:=GW.out.box.cells;clear hW t0 q5T;go_wp2;go_roundw
   case rel=>
    have Ke:ob∉S6:=fun hm=>by
     rcases HS6.out ob hm with h | h | h
     ·exact D3.out h
     ·have:=UC.out ob h;have:=SH.out;omega
     ·have:=Dt.out.below.size;have:=SH.out;omega
    refine⟨k+1,.slice A6 (k+1) c6,S6,by omega,by go_num,?_,Ke,?_,GW.out.acF _,aab.out.setCell Kd.out _⟩
    ·have hx:=FC.out.aco (w':=w6.setCell ⟨ob,0,none⟩ (.slice A6 (k+1) c6)) (fun j hj=>Below.heap_setCell w6 _ _ j (fun e=>Ke (by have e':j=ob:=e;exact e' ▸ hj)))
     rw[aV jZ.out];exact hx
    ·intro q hq;rcases Hv6.out q hq with h | h
     ·exact QO.out q h
     ·have:=Dt.out.below.size;have:=SH.out;omega
   case measure=>simp[intOf];omega
  ·obtain rfl:k=n.ends.length:=by omega
   have kY:w0.heap.size=w.heap.size+1:=by rw[bS.out];simp
   have HR:=CQ.out wr bG;rw[kY]at HR
   have QQ:Hid (w.heap.size+1<wa.heap.size):=by show _<_;rw[zH.out];omega
   obtain⟨c0,c1,wI,_,_,_⟩:=uJ.out.box.cells;obtain⟨d0,d1,d2,f0,f1,f2⟩:=HR.box.cells;have le:=zh bG;have HR':=zh HR;clear HR dT bG az hk kY;go_wp2;refine bodyPost_ret (v:=.agg #[.slice AV mV cV,.slice BI n.ids.length dI,.slice BN n.acn.length dN]) (by simp[results,Tryz.results137,go_sem, *]) rfl ?_;have hx:=sJ.out;rw[List.take_length]at hx;refine⟨_,_,_,S,rfl,?_,?_⟩
   ·refine(hx.aco (fun j hj=>?_)).mono (Nat.le_trans aT.out.size vT.out.below.size)
    have rz:=(sJ.out.range j hj).1;have xm:=QQ.out;rw[Below.heap_setCell _ _ _ j (by simp;omega),Below.heap_setCell _ _ _ j (by simp;omega),Below.heap_setCell _ _ _ j (by simp;omega)]
   ·exact(((Below.trans aT.out ((vT.out.after le.out).below.mono aT.out.size)).setCell (by simp) _).setCell (by simp) _).setCell (by simp) _
section
variable {P : Program} {ops : Array Oper}
def CT (V:Nat->Value) (i:Nat) (u:Value):Nat->Value:=fun j=>if j=i then u else V j
theorem px (V:Nat->Value) {i j:Nat} (u:Value) (h:j≠i):CT V i u j=V j:=if_neg h
theorem eU (V:Nat->Value) (i:Nat) (u:Value):CT V i u i=u:=if_pos rfl
def xR (P:Program) (o:Oper) (A:Act) (W:World) (post:Value->World->Prop):Prop:=
 match (execOp A.eval o).run P W with
 | .ok (.value u) W'=>post u W'
 | .ok (.enter f args) W'=>Calls P f args W' fun e lU=>∃u,e=.returned u/\post u lU
 | _=>False
theorem fW {o:Oper} {A:Act} {W W':World} {u:Value} {post:Value->World->Prop} (h:(execOp A.eval o).run P W=.ok (.value u) W') (hp:post u W'):xR P o A W post:=by
 unfold xR;rw[h];exact hp
theorem yW {Q:Exit->Act->World->Prop} {Dr:Nat} {a:Act} {w w0:World} (k:Nat) (R:Nat->(Nat->Value)->World->Prop) (hR:∀j V W W',R j V W->ab W W'->R j V W')
  (QR:∀j V V' W,V j=V' j->(∀o,ops[j]?=some o->∀d∈bg o,V d=V' d)->R j V W->R j V' W) (hm:P.follows .mixedOrders=true) (hf:p7 ops k=true) (CJ:decide (k<=ops.size)=true) (aU:ab w0 w)
  (fw:∀i o,i<k->ops[i]?=some o->∀V W,ab w0 W->(∀d∈bg o,R d V W)->Region.wanted o (yielded ops (ap ops (List.range k) V a).tmps)=true/\xR P o (ap ops (List.range k) V a) W (fun u W'=>ab W W'/\R i (CT V i u) W'))
  (oZ:∀V W,ab w0 W->(∀j,j<k->R j V W)->wpList P ops Q (ops.toList.drop k) (ap ops (List.range k) V a) W):(Code.region Dr ops true).wp P Q a w:=by
 have ge:=nG hf;have CJ:=of_decide_eq_true CJ
 have frame:∀V,aL a ops V (fun j=>j<k) (ap ops (List.range k) V a):=fun V=>by
  have:=j3 (a:=a) ge.acB CJ V (List.range k) (fun _=>False) a (fun _ h=>h.elim) (fun j hj=>⟨List.mem_range.1 hj,id⟩) List.nodup_range (aL.start a V)
  exact this.same (fun j=>by simp)
 let J:(Nat->Prop)->Act->World->Prop:=fun D a' W=>
  (ab w0 W/\(∀j,D j->j<k)/\∃V,aL a ops V D a'/\∀j,D j->R j V W) \/
  (∃m,k<=m/\m<=ops.size/\(∀j,j<ops.size->(D j↔j<m))/\wpList P ops Q (ops.toList.drop m) a' W)
 have tQ:∀D a' W,J D a' W->(∀j,j<k->D j)->∃m,k<=m/\m<=ops.size/\(∀j,j<ops.size->(D j↔j<m))/\wpList P ops Q (ops.toList.drop m) a' W:=by
  intro D a' W hJ hD;rcases hJ with⟨hW,lA,V,iZ,hV⟩ | hJ
  ·have e:a'=ap ops (List.range k) V a:=iZ.ext (frame V) (fun j _=>⟨lA j,hD j⟩)
   subst e;exact⟨k,Nat.le_refl _,CJ,fun j _=>⟨lA j,hD j⟩,oZ V W hW (fun j hj=>hV j (hD j hj))⟩
  ·exact hJ
 refine iP hm ge.back J (.inl ⟨ah aU,fun j hj=>hj.elim,fun _=>undef,aL.start a _,fun j hj=>hj.elim⟩) ?_ ?_
 ·intro D a' W i o hJ ho lB gD eG;have d_:i<ops.size:=(Array.getElem?_eq_some_iff.1 ho).1
  by_cases jo:i<k
  ·rcases hJ with⟨hW,lA,V,iZ,hV⟩ | ⟨m,h1,h2,h3,_⟩
   rotate_left
   ·exact absurd ((h3 i d_).2 (by omega)) lB
   obtain⟨hw,j8⟩:=fw i o jo ho V W hW (fun d hd=>hV d (gD d hd))
   obtain⟨he,tR⟩:=eX (ops:=ops) (a':=a') (A:=ap ops (List.range k) V a) (fun t ht=>iZ.agree (frame V) t (fun j oj hj ez hd=>by
    have ld:j<k:=hj.elim (fun h=>lA j h) id
    exact⟨gD j (ge.looks i o jo ho t ht j oj ld ez hd),ld⟩)) (fun cs b=>ge.acA i o cs b ho)
   have next:∀u W',ab W W'->R i (CT V i u) W'->J (fun j=>D j\/j=i) (a'.put o.dst u) W':=by
    intro u W' hS hRi;refine .inl ⟨hW.after hS,fun j hj=>hj.elim (lA j) (fun e=>by omega),CT V i u,?_,fun j hj=>?_⟩
    ·have:=(iZ.acy (v':=CT V i u) (fun j _ hj=>(px V u (fun e=>by subst e;exact lB hj)).symm)).put (i:=i) ho (fun j oj d hj ez hd gC=>by
      have:=ge.acB i o jo ho j oj (lA j hj) ez d hd gC
      subst this
      exact lB hj)
     rwa [eU]at this
    ·rcases hj with hj | rfl
     ·have nH:j≠i:=fun e=>by subst e;exact lB hj
      exact QR j V _ W' (px V u nH).symm (fun oj ez d hd=>(px V u (fun e=>by subst e;exact lB (eG j oj hj ez d hd))).symm) (hR j V W W' (hV j hj) hS)
     ·exact hRi
   rw[if_pos (tR.trans hw)];refine .inl ?_;unfold Oper.wp;rw[he];unfold xR at j8
   generalize (execOp (ap ops (List.range k) V a).eval o).run P W=r at j8 ⊢
   cases r with
   | ok nx W'=>
    cases nx with
    | value u=>exact next u W' j8.1 j8.2
    | enter f args=>
     simp only[Oper.upon]
     exact Calls.mono j8 fun e lU ⟨u,z_,h3,h4⟩=>by subst z_;exact next u lU h3 h4
    | _=>exact j8.elim
   | halt x W'=>exact j8.elim
  ·have bH:∀j,j<i->D j:=fun j hj=>fV eG ho gD (ge.tail i (by omega) d_ j hj)
   obtain⟨m,h1,h2,h3,h4⟩:=tQ D a' W hJ (fun j hj=>bH j (by omega))
   have MF:m=i:=by
    by_cases e1:i<m
    ·exact absurd ((h3 i d_).2 e1) lB
    ·by_cases e2:m<i
     ·have:=(h3 m (by omega)).1 (bH m e2);omega
     ·omega
   subst MF
   have CL:ops.toList.drop m=o::ops.toList.drop (m+1):=by
    have:m<ops.toList.length:=by simpa using d_
    rw[List.drop_eq_getElem_cons this];congr 1
    have:=(Array.getElem?_eq_some_iff.1 ho).2
    simpa using this
   rw[CL]at h4;unfold wpList at h4
   have next:∀a W,wpList P ops Q (ops.toList.drop (m+1)) a W->J (fun j=>D j\/j=m) a W:=fun a W h=>.inr ⟨m+1,by omega,by omega,fun j hj=>by
    constructor
    ·rintro(h | rfl)
     ·have:=(h3 j hj).1 h;omega
     ·omega
    ·intro h
     by_cases e:j=m
     ·exact .inr e
     ·exact .inl ((h3 j hj).2 (by omega)),h⟩
   split
   ·rename_i hw
    rw[if_pos hw]at h4;exact h4.imp (Oper.wp_mono next) id
   ·rename_i hw
    rw[if_neg hw]at h4;exact next _ _ h4
 ·intro D a' W hJ bH;obtain⟨m,h1,h2,h3,h4⟩:=tQ D a' W hJ (fun j hj=>bH j (by omega))
  have Qe:m=ops.size:=by
   by_cases e:m<ops.size
   ·have:=(h3 m e).1 (bH m e);omega
   ·omega
  subst Qe;rw[List.drop_eq_nil_of_le (by simp)]at h4;exact h4
def RL (l:List ((Nat->Value)->World->Prop)):Nat->(Nat->Value)->World->Prop:=fun j V W=>match l[j]? with | some r=>r V W | none=>True
theorem wK {Q:Exit->Act->World->Prop} {Dr:Nat} {a:Act} {w w0:World} (L:List ((Nat->Value)->World->Prop)) (hR:∀r∈L,∀V W W',r V W->ab W W'->r V W')
  (QR:∀(j:Nat) r,L[j]?=some r->∀V V' W,V j=V' j->(∀o,ops[j]?=some o->∀d∈bg o,V d=V' d)->r V W->r V' W) (k:Nat) (hm:P.follows .mixedOrders=true) (hf:p7 ops k=true) (CJ:decide (k<=ops.size)=true) (aU:ab w0 w)
  (fw:∀i o,i<k->ops[i]?=some o->∀V W,ab w0 W->(∀d∈bg o,RL L d V W)->Region.wanted o (yielded ops (ap ops (List.range k) V a).tmps)=true/\xR P o (ap ops (List.range k) V a) W (fun u W'=>ab W W'/\RL L i (CT V i u) W'))
  (oZ:∀V W,ab w0 W->(∀j,j<k->RL L j V W)->wpList P ops Q (ops.toList.drop k) (ap ops (List.range k) V a) W):(Code.region Dr ops true).wp P Q a w:=by
 refine yW k (RL L) (fun j V W W' h hs=>?_) (fun j V V' W h1 h2 h=>?_) hm hf CJ aU fw oZ
 ·unfold RL at h ⊢
  cases hj:L[j]? with
  | none=>trivial
  | some r=>rw[hj]at h;exact hR r (List.mem_of_getElem? hj) V W W' h hs
 ·unfold RL at h ⊢
  cases hj:L[j]? with
  | none=>trivial
  | some r=>rw[hj]at h;exact QR j r hj V V' W h1 h2 h
end
def yX (W:World) (B:Nat) (xs:List Int) (u:Value):Prop:=Own W B u xs
theorem yX.keep {W W':World} {B:Nat} {xs:List Int} {u:Value} (h:yX W B xs u) (hs:ab W W'):yX W' B xs u:=Own.since h hs
section
variable {P : Program} {ops : Array Oper}
end
structure Cr (wa W:World) (ob b1 b2 g c m:Nat) (vi vn:Value) (N:aj) (S:List Nat) (a e:Int×Int):Prop where
 own:ar W wa.heap.size (.slice (some ⟨g,0,none⟩) m c) vi vn N S
 len:N.ends.length=m
 box:aS W ob (.slice (some ⟨g,0,none⟩) m c) vi vn
 e1:E2 W 83 b1 a.1 a.2
 e2:E2 W 83 b2 e.1 e.2
 nb:ob∉S/\b1∉S/\b2∉S
 since:ab wa W
end Go.Proofs.YtgmdpppljkmabaaGreat
